/- The walks of frame.split of what has no head; of frame.Head. -/
import Derived.Test.YtfoplbolbjcggaaDoorSplitGoodW
set_option linter.unusedVariables false
set_option maxRecDepth 100000
namespace Go.Proofs.YtfoplbolbjcggaaDoor
open Go.RowKit Go.Shelf

set_option maxHeartbeats 8000000 in
theorem split_no (fs : List UInt8) (p : Option Addr) (n c : Nat) (w0 : World) (hn : fs.length = n) (hb : n ≤ 140737488351232) (hp : p = none → n = 0 ∧ c = 0) (hx : Rd w0 p (u8s fs)) (aB : Addr) (hE : ErrAt w0 3 aB) (hno : ∀ m l : Nat, Says (fs.drop 0) m l → (256 : Int) < (m : Int) ∨ fs.length < 0 + l + m) :
    Calls Tryd.prog 65 #[.slice p n c] w0 fun e w' => e = .returned (.tuple #[stV st0z, .int .i64 0, .slice none 0 0, ev aB]) ∧ Only [] w0 w' := by
  obtain ⟨w1, hw1⟩ : ∃ w1, w1 = w0.alloc (.cells #[.int .i64 0, .int .i64 0, .int .i64 0, .int .i64 0, .int .i64 0] 67) := ⟨_, rfl⟩
  have o1 : Only [] w0 w1 := by rw [hw1]; exact Only.alloc _ _
  have r1 : Row w1 w0.heap.size 67 (stCells st0z) := by rw [hw1]; exact Row.newOf _ _ _ _ rfl
  have hnr := newReader p fs n c w1 hn (by omega) hp (hx.only0 o1)
  have HE := Lib.hid hE
  have HO1 := Lib.hid o1
  have HR1 := Lib.hid r1
  have Hw1 := Lib.hid hw1
  have Hn := Lib.hid hn
  have Hno := Lib.hid hno
  clear hE o1 r1 hw1 hn hno hx
  go_enter Tryd.func65, Tryd.ntmps65
  go_wp2_with fail
  rw [← Hw1.out]
  refine hnr.mono ?_
  clear hnr Hw1
  rintro e w2 ⟨B, F, rfl, hR2, o2, hF2⟩
  have HO2 := Lib.hid (HO1.out.trans0 o2)
  have HR2 := Lib.hid (HR1.out.only0 o2)
  have hby := rdBy_no w2 F B fs 0 256 (ev aB) hR2 (by rw [Hn.out]; exact hb) ((HE.out.only0 HO1.out).only0 o2).cell Hno.out
  clear hR2 o2 hF2
  unfold ev at hby
  go_wp2_with fail
  refine hby.mono ?_
  clear hby
  rintro e w3 ⟨rfl, o3⟩
  have HR3 := HR2.out.only0 o3
  have hst := HR3.storeSt (s' := st0z)
  have hrow := HR3.setRow (stCells st0z)
  have oS := Only.setRow w3 w0.heap.size (stCells st0z).toArray
  have hO : Only [] w0 (w3.setRow w0.heap.size (stCells st0z).toArray) := (HO2.out.trans0 o3).transN oS (by simp)
  have Hst := Lib.hid hst
  have Hrow := Lib.hid hrow
  have HO := Lib.hid hO
  clear hst hrow oS hO o3 HR3
  go_wp2_with (first | ((with_reducible show wpList _ _ _ _ _ _); refine wpl_store (ty := 67) (x := .tmp 2) (y := .tmp 23) rfl rfl rfl rfl Hst.out ?_))
  exact bodyPost_ret (results_st3 rfl _ _ _ st0z rfl Hrow.out) rfl ⟨rfl, HO.out⟩
set_option maxHeartbeats 8000000 in
/-- Head hands on what split tells -/
theorem head_of (p : Option Addr) (n c N : Nat) (s : Stp) (v : Value) (w0 : World)
    (hs : ∀ w1, Only [] w0 w1 → Calls Tryd.prog 65 #[.slice p n c] w1 fun e w' => ∃ r m k, e = .returned (.tuple #[stV s, .int .i64 (N : Int), .slice r m k, v]) ∧ Only [] w1 w') :
    Calls Tryd.prog 35 #[.slice p n c] w0 fun e w' => e = .returned (.tuple #[stV s, .int .i64 (N : Int), v]) ∧ Only [] w0 w' := by
  obtain ⟨w1, hw1⟩ : ∃ w1, w1 = w0.alloc (.cells #[.int .i64 0, .int .i64 0, .int .i64 0, .int .i64 0, .int .i64 0] 67) := ⟨_, rfl⟩
  have o1 : Only [] w0 w1 := by rw [hw1]; exact Only.alloc _ _
  have r1 : Row w1 w0.heap.size 67 (stCells st0z) := by rw [hw1]; exact Row.newOf _ _ _ _ rfl
  have hsp := hs w1 o1
  have HO1 := Lib.hid o1
  have HR1 := Lib.hid r1
  have Hw1 := Lib.hid hw1
  obtain ⟨sv, hsv⟩ : ∃ sv, stV s = sv := ⟨_, rfl⟩
  rw [hsv] at hsp ⊢
  have Hsv := Lib.hid hsv
  clear o1 r1 hw1 hs hsv
  go_enter Tryd.func35, Tryd.ntmps35
  go_wp2_with fail
  rw [← Hw1.out]
  refine hsp.mono ?_
  clear hsp Hw1
  rintro e w2 ⟨r, m, k, rfl, o2⟩
  rw [← Hsv.out]
  unfold stV
  obtain ⟨w3, hw3⟩ : ∃ w3, w3 = w2.alloc (.cells #[.int .i64 s.node, .int .i64 s.boot, .int .i64 s.seq, .int .i64 s.shard, .int .i64 s.size] 67) := ⟨_, rfl⟩
  have o3 : Only [] w2 w3 := by rw [hw3]; exact Only.alloc _ _
  have r3 : Row w3 w2.heap.size 67 (stCells s) := by rw [hw3]; exact Row.newOf _ _ _ _ rfl
  have hst := ((HR1.out.only0 o2).only0 o3).storeSt (s' := s)
  have hrow := ((HR1.out.only0 o2).only0 o3).setRow (stCells s)
  have oS := Only.setRow w3 w0.heap.size (stCells s).toArray
  have hO : Only [] w0 (w3.setRow w0.heap.size (stCells s).toArray) := ((HO1.out.trans0 o2).trans0 o3).transN oS (by simp)
  unfold stV at hst
  rw [hw3] at hst
  have c0 := r3.cell (i := 0) rfl
  have c1 := r3.cell (i := 1) rfl
  have c2 := r3.cell (i := 2) rfl
  have c3 := r3.cell (i := 3) rfl
  have c4 := r3.cell (i := 4) rfl
  rw [hw3] at c0 c1 c2 c3 c4 hrow hO
  have Hst := Lib.hid hst
  have Hrow := Lib.hid hrow
  have HO := Lib.hid hO
  clear hst hrow oS hO o3 r3 hw3
  go_wp2_with (first | ((with_reducible show wpList _ _ _ _ _ _); refine wpl_store (ty := 67) (x := .tmp 2) (y := .tmp 16) rfl rfl rfl rfl Hst.out ?_))
  refine bodyPost_ret (results_st2 rfl _ _ _ s rfl Hrow.out) rfl ⟨?_, HO.out⟩
  rw [← Hsv.out]
  rfl
end Go.Proofs.YtfoplbolbjcggaaDoor
