/- The walk of frame.Get. -/
import Derived.Test.YtfoplbolbjcggaaDoorGetMath
import Derived.Test.YtfoplbolbjcggaaDoorSplitShortW
import Derived.Test.YtfoplbolbjcggaaDoorRegions
import Derived.Deep.DeepCutAuto
import Derived.Deep.Cut
set_option linter.unusedVariables false
set_option maxRecDepth 100000
namespace Go.Proofs.YtfoplbolbjcggaaDoor
open Go.RowKit Go.Shelf

/-- what split has told of a frame with a good head -/
def SplitOk (p : Option Addr) (n c : Nat) (s : Stp) (N : Nat) (rest : List UInt8) (w0 : World) : Prop :=
  ∀ w1, Only [] w0 w1 → Calls Tryd.prog 65 #[.slice p n c] w1 fun e w' => ∃ r k, e = .returned (.tuple #[stV s, .int .i64 (N : Int), .slice r rest.length k, .nilIface]) ∧ r ≠ none ∧ rest.length ≤ k ∧ (∀ w, Only [] w0 w → Rd w r (u8s rest)) ∧ Only [] w1 w'
set_option maxHeartbeats 8000000 in
/-- Get hands on split's error -/
theorem get_err (p : Option Addr) (n c : Nat) (a : Addr) (w0 : World)
    (hs : ∀ w1, Only [] w0 w1 → Calls Tryd.prog 65 #[.slice p n c] w1 fun e w' => e = .returned (.tuple #[stV st0z, .int .i64 0, .slice none 0 0, ev a]) ∧ Only [] w1 w') :
    Calls Tryd.prog 32 #[.slice p n c] w0 fun e w' => e = .returned (.tuple #[stV st0z, .slice none 0 0, ev a]) ∧ Only [] w0 w' := by
  obtain ⟨w1, hw1⟩ : ∃ w1, w1 = w0.alloc (.cells #[.int .i64 0, .int .i64 0, .int .i64 0, .int .i64 0, .int .i64 0] 67) := ⟨_, rfl⟩
  have o1 : Only [] w0 w1 := by rw [hw1]; exact Only.alloc _ _
  have r1 : Row w1 w0.heap.size 67 (stCells st0z) := by rw [hw1]; exact Row.newOf _ _ _ _ rfl
  have hsp := hs w1 o1
  have HO1 := Lib.hid o1
  have HR1 := Lib.hid r1
  have Hw1 := Lib.hid hw1
  unfold ev at hsp
  clear o1 r1 hw1 hs
  go_enter Tryd.func32, Tryd.ntmps32
  go_wp2_with fail
  rw [← Hw1.out]
  refine hsp.mono ?_
  clear hsp Hw1
  rintro e w2 ⟨rfl, o2⟩
  unfold stV
  obtain ⟨w3, hw3⟩ : ∃ w3, w3 = w2.alloc (.cells #[.int .i64 0, .int .i64 0, .int .i64 0, .int .i64 0, .int .i64 0] 67) := ⟨_, rfl⟩
  have o3 : Only [] w2 w3 := by rw [hw3]; exact Only.alloc _ _
  have hst := ((HR1.out.only0 o2).only0 o3).storeSt (s' := st0z)
  have hrow := ((HR1.out.only0 o2).only0 o3).setRow (stCells st0z)
  have oS := Only.setRow w3 w0.heap.size (stCells st0z).toArray
  have hO : Only [] w0 (w3.setRow w0.heap.size (stCells st0z).toArray) := ((HO1.out.trans0 o2).trans0 o3).transN oS (by simp)
  rw [hw3] at hst hrow hO
  have Hst := Lib.hid hst
  have Hrow := Lib.hid hrow
  have HO := Lib.hid hO
  clear hst hrow oS hO o3 hw3
  unfold st0z
  dsimp only
  go_wp2_with (first | ((with_reducible show wpList _ _ _ _ _ _); refine wpl_store (ty := 67) (x := .tmp 2) (y := .tmp 22) rfl rfl rfl rfl Hst.out ?_))
  exact bodyPost_ret (results_st2 rfl _ _ _ st0z rfl Hrow.out) rfl ⟨rfl, HO.out⟩

/-- while Get goes over the blocks -/
structure GtI (w0 : World) (s : Stp) (N : Nat) (rest : List UInt8) (X Y : Nat) (i : Nat) (r : Option Addr) (k : Nat) (q : Option Addr) (kq : Nat) (w : World) : Prop where
  rd : ∀ w', Only [] w0 w' → Rd w' r (u8s (rest.drop (posB N i)))
  rn : r ≠ none
  cap : rest.length - posB N i ≤ k
  out : Own w w0.heap.size 5 (.slice q (gone N i) kq) (u8s (outB' N rest i))
  ne : X ∉ blk q
  ne2 : Y ∉ blk q
  st : Row w X 67 (stCells st0z)
  sv : Row w Y 67 (stCells s)
  only : Only [] w0 w
set_option maxHeartbeats 16000000 in
theorem get_good (s : Stp) (N : Nat) (hN : N ≤ 1024) (rest : List UInt8) (p : Option Addr) (n c : Nat) (w0 : World) (aB aD : Addr) (hB : ErrAt w0 3 aB) (hD : ErrAt w0 0 aD) (hrb : rest.length ≤ 140737488351232) (hs : SplitOk p n c s N rest w0) :
    Calls Tryd.prog 32 #[.slice p n c] w0 fun e w' => Only [] w0 w' ∧ 
      ((rest.length ≠ N + 32 * nbB N ∧ e = .returned (.tuple #[stV st0z, .slice none 0 0, ev aB])) ∨
       (rest.length = N + 32 * nbB N ∧ (∃ i, i < nbB N ∧ ¬ okB N rest i) ∧ e = .returned (.tuple #[stV st0z, .slice none 0 0, ev aD])) ∨
       (rest.length = N + 32 * nbB N ∧ (∀ i, i < nbB N → okB N rest i) ∧ ∃ q k, e = .returned (.tuple #[stV s, .slice q N k, .nilIface]) ∧ Own w' w0.heap.size 5 (.slice q N k) (u8s (outB' N rest (nbB N))))) := by
  have hq32 : ((N : Int) + 32 - 1).tdiv 32 = (nbB N : Int) := by
    rw [Int.tdiv_eq_ediv_of_nonneg (by omega)]; unfold nbB; omega
  obtain ⟨T, hT⟩ : ∃ T, rest.length = T := ⟨_, rfl⟩
  have HT := Lib.hid hT
  obtain ⟨M, hM⟩ : ∃ M, nbB N = M := ⟨_, rfl⟩
  have HM := Lib.hid hM
  have hMb : M ≤ 33 := by rw [← hM]; unfold nbB; omega
  rw [hM] at hq32 ⊢
  rw [hT] at hrb ⊢
  obtain ⟨w1, hw1⟩ : ∃ w1, w1 = w0.alloc (.cells #[.int .i64 0, .int .i64 0, .int .i64 0, .int .i64 0, .int .i64 0] 67) := ⟨_, rfl⟩
  have o1 : Only [] w0 w1 := by rw [hw1]; exact Only.alloc _ _
  have r1 : Row w1 w0.heap.size 67 (stCells st0z) := by rw [hw1]; exact Row.newOf _ _ _ _ rfl
  have hsp := hs w1 o1
  rw [hT] at hsp
  have HO1 := Lib.hid o1
  have HR1 := Lib.hid r1
  have Hw1 := Lib.hid hw1
  have HB := Lib.hid hB
  have HD := Lib.hid hD
  obtain ⟨sv, hsv⟩ : ∃ sv, stV s = sv := ⟨_, rfl⟩
  rw [hsv] at hsp
  have Hsv := Lib.hid hsv
  clear o1 r1 hw1 hs hsv hB hD hT hM
  go_enter Tryd.func32, Tryd.ntmps32
  go_wp2_with fail
  rw [← Hw1.out]
  refine hsp.mono ?_
  clear hsp Hw1
  rintro e w2 ⟨r, k, rfl, hr, hrk, hrd, o2⟩
  rw [← Hsv.out]
  unfold stV
  obtain ⟨w3, hw3⟩ : ∃ w3, w3 = w2.alloc (.cells #[.int .i64 s.node, .int .i64 s.boot, .int .i64 s.seq, .int .i64 s.shard, .int .i64 s.size] 67) := ⟨_, rfl⟩
  have o3 : Only [] w2 w3 := by rw [hw3]; exact Only.alloc _ _
  have r3 : Row w3 w2.heap.size 67 (stCells s) := by rw [hw3]; exact Row.newOf _ _ _ _ rfl
  have HO3 : Hid (Only [] w0 w3) := Lib.hid ((HO1.out.trans0 o2).trans0 o3)
  have HR3 := Lib.hid ((HR1.out.only0 o2).only0 o3)
  have HS3 := Lib.hid r3
  have HXY : Hid (w0.heap.size < w2.heap.size) := Lib.hid (by have := HR1.out.lt; have := o2.size; omega)
  have Hw3 := Lib.hid hw3
  have Hrd := Lib.hid hrd
  clear o3 r3 hw3 hrd
  have hTi : ((T : Int) != (N : Int) + (M : Int) * 32) = decide (T ≠ N + 32 * M) := by
    by_cases h : T = N + 32 * M
    · rw [decide_eq_false (by simpa using h)]
      simp only [bne_eq_false_iff_eq]; omega
    · rw [decide_eq_true h]
      simp only [bne_iff_ne, ne_eq]; omega
  have hBlt := HB.out.lt
  have hDlt := HD.out.lt
  by_cases hlen : T = N + 32 * M
  · rw [decide_eq_false (by simpa using hlen)] at hTi
    have Hlen := Lib.hid hlen
    clear hlen
    have HI0 : Hid (GtI w0 s N rest w0.heap.size w2.heap.size 0 r k none 0 w3) := Lib.hid ⟨by rw [show posB N 0 = 0 by simp [posB, gone], List.drop_zero]; exact Hrd.out, hr, by rw [HT.out]; exact Nat.le_trans (Nat.sub_le _ _) hrk, by rw [show gone N 0 = 0 by simp [gone]]; exact Own.nil _ _ _, by simp [blk], by simp [blk], HR3.out, HS3.out, HO3.out⟩
    go_wp2_with fail
    rw [← Hw3.out]
    clear Hw3 HR3 HS3 Hrd hTi
    generalize hYe : w2.heap.size = Y at *
    clear hYe
    go_loopw [6, 7, 10] (fun a b o wr => ∃ (i : Nat) (r : Option Addr) (k : Nat) (q : Option Addr) (kq : Nat), a = .int .i64 ((N - gone N i : Nat) : Int) ∧ b = .slice r (T - posB N i) k ∧ o = .slice q (gone N i) kq ∧ i ≤ M ∧ Hid (∀ j, j < i → okB N rest j) ∧ Hid (GtI w0 s N rest w0.heap.size Y i r k q kq wr)) (fun a _ _ _ => (intOf a).toNat)
    case atStart => exact ⟨0, r, k, none, 0, by simp [gone], by simp [posB, gone], by simp [gone], Nat.zero_le _, Lib.hid (fun j hj => absurd hj (Nat.not_lt_zero _)), HI0⟩
    case round =>
      clear HI0
      obtain ⟨i, r, k, q, kq, rfl, rfl, rfl, hi, Hok, HI⟩ := hrel
      by_cases hlt : i < M
      · obtain ⟨g1, g2, g3, g4⟩ := gone_step (N := N) (i := i) (by rw [HM.out]; exact hlt)
        obtain ⟨b1, b2, b3⟩ := blkB_length (rest := rest) (by rw [HT.out, HM.out]; exact Hlen.out) (i := i) (by rw [HM.out]; exact hlt)
        obtain ⟨nn, hnn⟩ : ∃ nn, N - gone N i = nn := ⟨_, rfl⟩
        obtain ⟨z, hz⟩ : ∃ z, min 32 nn = z := ⟨_, rfl⟩
        obtain ⟨ps, hps⟩ : ∃ ps, posB N i = ps := ⟨_, rfl⟩
        obtain ⟨gn, hgn⟩ : ∃ gn, gone N i = gn := ⟨_, rfl⟩
        have hI := HI.out
        have hrdA := hI.rd
        have hrd0 := hI.rd wr hI.only
        have hcap := hI.cap
        have hown := hI.out
        rw [hps] at hrd0 hrdA hcap b3 g4
        rw [hgn] at hown g1 g3
        rw [hgn] at hnn
        rw [hgn, hnn, hz] at b1 b3
        rw [hnn, hz] at g3
        rw [hgn, hnn, hz] at g4
        rw [HT.out] at hcap b3
        have hnn0 : 0 < nn := by omega
        have hz0 : 0 < z := by omega
        have hz32 : z ≤ 32 := by omega
        have hposi : (0 : Int) < (nn : Int) := by omega
        have hmin : (if (32 : Int) < (nn : Int) then (32 : Int) else (nn : Int)) = (z : Int) := by split <;> omega
        have hzk : (z : Int) ≤ (k : Int) := by omega
        have hzk2 : (z : Int) + 32 ≤ (k : Int) := by omega
        have hknz : ¬ k = z := by omega
        have hrb : Rd wr r (u8s (blkB N rest i)) := by
          have := hrd0.take z
          unfold blkB
          rw [hps, hgn, hnn, hz]
          unfold u8s at this ⊢
          rw [List.map_take]; exact this
        have hrdig : ∀ w, Only [] wr w → Rd w (r.map fun x => x.add z) (u8s (digB N rest i)) := fun w ho => by
          have := ((hrd0.only0 ho).sub z).take 32
          unfold digB
          rw [hps, hgn, hnn, hz]
          unfold u8s at this ⊢
          rw [List.map_take, ← List.drop_drop, List.map_drop]; exact this
        have hsm := shaSum_any r (blkB N rest i) z k wr b1 (by omega) (fun e => absurd e hI.rn) hrb
        have Hb1 := Lib.hid b1
        have Hb2 := Lib.hid b2
        have Hrb := Lib.hid hrb
        have Hdig := Lib.hid hrdig
        have HrdA := Lib.hid hrdA
        have Hown := Lib.hid hown
        have Hg3 := Lib.hid g3
        have Hg4 := Lib.hid g4
        have Hps := Lib.hid hps
        have Hgn := Lib.hid hgn
        have Hnn := Lib.hid hnn
        have Hz := Lib.hid hz
        have hgN : gn + nn = N := by omega
        have hpT : ps + z + 32 ≤ T := b3
        have hTps : T - ps ≤ k := hcap
        rw [hps]
        rw [hgn, hnn]
        clear hI hrd0 hrdA hcap hown hrb hrdig b1 b2 b3 g1 g2 g3 g4 hps hgn hnn hz
        go_wp2_with fail
        refine hsm.mono ?_
        clear hsm
        rintro e w4 ⟨rfl, o4⟩
        obtain ⟨w5, Hst, hY5, o5, hs5⟩ := row32 w4 (shaB (blkB N rest i)) (shaB_len _)
        generalize hSe : w4.heap.size = Sx at *
        have o45 := o4.trans0 o5
        obtain ⟨ob, hob⟩ : ∃ ob : Bool, (shaB (blkB N rest i) == digB N rest i) = ob := ⟨_, rfl⟩
        have HEq : Hid (∀ w, Only [] w5 w → Calls Tryd.prog 66 #[.slice (some ⟨Sx, 0, none⟩) 32 32, .slice (r.map fun x => x.add z) 32 (k - z)] w fun e w' => e = .returned (.bool ob) ∧ Drew w w') := Lib.hid (fun w ho => equal_any (some ⟨Sx, 0, none⟩) (r.map fun x => x.add z) (shaB (blkB N rest i)) (digB N rest i) 32 32 32 (k - z) ob w (shaB_len _) Hb2.out (by omega) ((hY5.only0 ho).rd0) (Hdig.out w (o45.trans0 ho)) hob)
        have Hob := Lib.hid hob
        have HI5 : Hid (GtI w0 s N rest w0.heap.size Y i r k q kq w5) := Lib.hid ⟨HI.out.rd, HI.out.rn, HI.out.cap, HI.out.out.only0 o45, HI.out.ne, HI.out.ne2, HI.out.st.only0 o45, HI.out.sv.only0 o45, HI.out.only.trans0 o45⟩
        have Hrb5 := Lib.hid (Hrb.out.only0 o45)
        have Hown5 := Lib.hid (Hown.out.only0 o45)
        have Hsz : Hid (IntKind.i64.wrap ((z : Int) + 32) = ((z + 32 : Nat) : Int)) := Lib.hid (by rw [IntWalk.i64_in _ (by omega)]; omega)
        have Hsk : Hid (z + 32 ≤ k) := Lib.hid (by omega)
        have Hsn : Hid (¬ k = z) := Lib.hid hknz
        clear o4 o5 hY5 hs5 o45 hob HI Hrb Hown Hdig
        go_upto_region 11 with (first | ((with_reducible show wpList _ _ _ _ _ _); refine wpl_store (ty := 122) (x := .tmp 12) (y := .tmp 44) rfl rfl rfl rfl Hst.out ?_))
        -- <<R11
        refine wp_region_rg2 (Only []) [[(12, none)], [(7, none)], [(11, none)], [(11, none)], [(48, some 0)], [(46, some 3), (47, some 2), (49, some 0)], [(45, some 5), (50, some 0)], [(51, some 0)]] [(52, 0)] [none, none, none, none, none, none, none, none, none, none, none, none, none, none, none, none, none, none, none, none, none, none, none, none, none, none, none, none, none, none, none, none, none, none, none, none, none, none, none, none, none, none, none, none, none, some 45, some 46, some 47, some 48, some 49, some 50, some 51, some 52, none, none, none, none, none, none, none, none, none, none, none, none, none, none, none, none] (by kernel_rfl) rfl (by kernel_rfl) (fun _ => Only.refl _ _) (fun _ _ _ h k => h.trans0 k) (Only.drew _) (by kernel_rfl) ?_
        -- 0: s45 := slice 122 t12 none none none
        apply rg_ev
        · intro a w hR hf
          obtain ⟨e12, -⟩ := hf
          replace e12 : a.tmps.getD 12 undef = _ := e12
          refine rg_plain rfl fun K hK => ?_
          go_simp
          exact hK _ _ rfl (Only.refl _ _)
        -- 1: s46 := move t7
        apply rg_ev
        · intro a w hR hf
          obtain ⟨e7, -⟩ := hf
          replace e7 : a.tmps.getD 7 undef = _ := e7
          refine rg_plain rfl fun K hK => ?_
          go_simp
          exact hK _ _ rfl (Only.refl _ _)
        -- 2: s47 := move t11
        apply rg_ev
        · intro a w hR hf
          obtain ⟨e11, -⟩ := hf
          replace e11 : a.tmps.getD 11 undef = _ := e11
          refine rg_plain rfl fun K hK => ?_
          go_simp
          exact hK _ _ rfl (Only.refl _ _)
        -- 3: s48 := move t11
        apply rg_ev
        · intro a w hR hf
          obtain ⟨e11, -⟩ := hf
          replace e11 : a.tmps.getD 11 undef = _ := e11
          refine rg_plain rfl fun K hK => ?_
          go_simp
          exact hK _ _ rfl (Only.refl _ _)
        -- 4: s49 := binOp Binadd 3 t48 (const (32:i64)) 3
        apply rg_ev
        · intro a w hR hf
          obtain ⟨e48, -⟩ := hf
          replace e48 : a.tmps.getD 48 undef = _ := e48
          refine rg_plain rfl fun K hK => ?_
          have hs1 := Hsz.out
          go_simp
          exact hK _ _ rfl (Only.refl _ _)
        -- 5: s50 := slice 22 t46 (some t47) (some t49) none
        apply rg_ev
        · intro a w hR hf
          obtain ⟨e46, e47, e49, -⟩ := hf
          replace e46 : a.tmps.getD 46 undef = _ := e46
          replace e47 : a.tmps.getD 47 undef = _ := e47
          replace e49 : a.tmps.getD 49 undef = _ := e49
          refine rg_plain rfl fun K hK => ?_
          have hs2 := Hsk.out
          have hs3 := Hsn.out
          have hs4 : (0 : Int) ≤ (z : Int) + 32 := by omega
          have hs5 : z ≤ ((z : Int) + 32).toNat := by omega
          have hs6 : ((z : Int) + 32).toNat - z = 32 := by omega
          go_simp
          exact hK _ _ rfl (Only.refl _ _)
        -- 6: s51 := call { value (Operand.func 66), args := #[t45, t50], #[22, 22] }
        apply rg_ev
        · intro a w hR hf
          obtain ⟨e45, e50, -⟩ := hf
          replace e45 : a.tmps.getD 45 undef = _ := e45
          replace e50 : a.tmps.getD 50 undef = _ := e50
          refine rg_plain rfl fun K hK => ?_
          go_simp
          (with_reducible refine (HEq.out w hR).mono ?_)
          rintro e w' ⟨rfl, hd⟩
          exact hK _ _ rfl hd.only
        -- 7: s52 := unOp Unnot 4 t51
        apply rg_ev
        · intro a w hR hf
          obtain ⟨e51, -⟩ := hf
          replace e51 : a.tmps.getD 51 undef = _ := e51
          refine rg_plain rfl fun K hK => ?_
          go_simp
          exact hK _ _ rfl (Only.refl _ _)
        intro f11 w11 hR11 hf
        dsimp only [mergeT]
        obtain ⟨e52, -⟩ := hf
        replace e52 : f11 52 = _ := e52
        rw [e52]
        -- R11>>
        have HI6 : Hid (GtI w0 s N rest w0.heap.size Y i r k q kq w11) := Lib.hid ⟨HI5.out.rd, HI5.out.rn, HI5.out.cap, HI5.out.out.only0 hR11, HI5.out.ne, HI5.out.ne2, HI5.out.st.only0 hR11, HI5.out.sv.only0 hR11, HI5.out.only.trans0 hR11⟩
        have Hrb6 := Lib.hid (Hrb5.out.only0 hR11)
        have Hown6 := Lib.hid (Hown5.out.only0 hR11)
        clear HI5 Hrb5 Hown5 HEq Hst
        cases ob with
        | false =>
          go_upto_region 12 with (fail)
          have hcE := (HD.out.only0 HI6.out.only).cell
          have hgX : 0 ∉ [w0.heap.size] := by simp; omega
          have hRr : ∀ a, Only [w0.heap.size] a a := fun a => Only.refl _ _
          have hRt : ∀ a b e, Only [w0.heap.size] a b → Only [w0.heap.size] b e → Only [w0.heap.size] a e := fun a b e h h2 => h.trans h2 (fun i hi _ => hi)
          have hRd : Only [w0.heap.size] w11 w11.drew := (Only.drew _).mono (by simp)
          have hC0 : ∀ d ∈ [2], (fun (_ : Nat) (a : World) => Row a w0.heap.size 67 (stCells st0z)) d w11.drew := fun _ _ => HI6.out.st.only0 (Only.drew _)
          -- <<R12
          refine wp_region_rg4 (Only [w0.heap.size]) (Dirt [(2, [w0.heap.size])]) (fun (_ : Nat) (a : World) => Row a w0.heap.size 67 (stCells st0z)) [2] [[], [], [(2, none), (53, some 1)], [], [(54, some 2)]] [(3, 1), (4, 0)] [none, none, none, some 3, some 4, none, none, none, none, none, none, none, none, none, none, none, none, none, none, none, none, none, none, none, none, none, none, none, none, none, none, none, none, none, none, none, none, none, none, none, none, none, none, none, none, none, none, none, none, none, none, none, none, some 53, some 54, none, none, none, none, none, none, none, none, none, none, none, none, none, none] (by kernel_rfl) rfl (by kernel_rfl) hRr hRt (fun _ _ => Only.refl _ _) hRd hC0 (by kernel_rfl) (by kernel_rfl) ?_
          -- 0: s53 := build 67 #[]
          apply rgd_ev
          · intro a w hR hC hf
            refine rg_plain rfl fun K hK => ?_
            go_simp
            exact hK _ _ rfl ⟨hRr _, Only.refl _ _, fun _ _ _ _ h => h⟩
          -- 1: s54 := load 45 (Operand.global 0)
          apply rgd_ev
          · intro a w hR hC hf
            refine rg_plain rfl fun K hK => ?_
            have hg := hR.cell hcE hgX
            go_simp
            exact hK _ _ rfl ⟨hRr _, Only.refl _ _, fun _ _ _ _ h => h⟩
          -- 2: sNone := store 67 t2 t53
          refine ⟨SetSt w0.heap.size st0z, stands_of SetSt.stable (by intro x hx hk; obtain rfl := List.mem_singleton.1 hx; simp at hk), fun a w hR hC hf => ?_, ?_⟩
          · obtain ⟨e2, e53, -⟩ := hf
            replace e2 : a.tmps.getD 2 undef = _ := e2
            replace e53 : a.tmps.getD 53 undef = _ := e53
            refine rg_plain rfl fun K hK => ?_
            have hC2 : Row w w0.heap.size 67 (stCells st0z) := hC 2 (by simp) (by kernel_rfl)
            have o := Only.setRow w w0.heap.size (stCells st0z).toArray
            refine rg_store rfl e2 e53 (hC2.storeSt (s' := st0z)) ?_
            exact hK _ _ (hC2.setRow (stCells st0z)) ⟨o, o, fun i hi hne _ _ => absurd (List.mem_singleton.1 hi) hne⟩
          -- 3: s3 := assign (const (Value.slice none 0 0))
          apply rgd_ev
          · intro a w hR hC hf
            refine rg_plain rfl fun K hK => ?_
            go_simp
            exact hK _ _ rfl ⟨hRr _, Only.refl _ _, fun _ _ _ _ h => h⟩
          -- 4: s4 := assign t54
          apply rgd_ev
          · intro a w hR hC hf
            obtain ⟨e54, -⟩ := hf
            replace e54 : a.tmps.getD 54 undef = _ := e54
            refine rg_plain rfl fun K hK => ?_
            go_simp
            exact hK _ _ rfl ⟨hRr _, Only.refl _ _, fun _ _ _ _ h => h⟩
          intro f12 w12 hR12 hf hz12
          dsimp only [mergeT]
          obtain ⟨e3, e4, -⟩ := hf
          replace e3 : f12 3 = _ := e3
          rw [e3]
          replace e4 : f12 4 = _ := e4
          rw [e4]
          -- R12>>
          obtain ⟨v2, hrow⟩ := hz12 _ (List.mem_cons_of_mem _ (List.mem_cons_of_mem _ (List.mem_cons_self ..)))
          have hrow : Row w12 w0.heap.size 67 (stCells st0z) := hrow
          have hO : Only [] w0 w12 := HI6.out.only.transN hR12 (by simp)
          clear hz12
          go_wp2_with fail
          refine bodyPost_ret (results_st2 rfl _ _ _ st0z rfl hrow) rfl ⟨hO, .inr (.inl ⟨Hlen.out, ⟨i, hlt, fun h => ?_⟩, rfl⟩)⟩
          have := Hob.out
          unfold okB at h
          rw [h] at this
          simp at this
        | true =>
          obtain ⟨q', k', w7, hra, own7, o7, hq7⟩ := append_owned (P := Tryd.prog) (bytes := 1) (c := k) (q := r) (m := z) (news := u8s (blkB N rest i)) (t := 22) (ty := 22) w11 Tryd.underlying22 infoU8o rfl Hown6.out Hrb6.out (by rw [u8s_length, Hb1.out]) (fun e => absurd e HI6.out.rn) (fun v hv => u8s_one hv) (by omega) (by omega) HI6.out.only.size
          obtain ⟨r2, hr2⟩ : ∃ r2, (if k = z + 32 then r else r.map fun x => x.add (z + 32)) = r2 := ⟨_, rfl⟩
          have hcp := fun w' ho => cut_ptr (w := w') (m := z + 32) (c := k) HI6.out.rn (HrdA.out w' ho) (fun e => by rw [u8s_length, List.length_drop, HT.out]; omega)
          rw [hr2] at hcp
          have hYl := HI6.out.sv.lt
          have hne8 : Y ∉ blk q' := fun hm => by
            rcases hq7 with rfl | ⟨g', rfl, hg'⟩
            · exact HI6.out.ne2 hm
            · simp [blk] at hm; omega
          have hX7 := HI6.out.st.only o7 HI6.out.ne
          have hqlo := blkGe Hown6.out
          have hXl := HI6.out.st.lt
          have hne7 : w0.heap.size ∉ blk q' := fun hm => by
            rcases hq7 with rfl | ⟨g', rfl, hg'⟩
            · exact HI6.out.ne hm
            · simp [blk] at hm; omega
          have hgo1 : gone N (i + 1) = gn + z := Hg3.out
          have hpo1 : posB N (i + 1) = ps + z + 32 := Hg4.out
          have HI7 : Hid (GtI w0 s N rest w0.heap.size Y (i + 1) r2 (k - (z + 32)) q' k' w7) := Lib.hid (by
            refine ⟨fun w' ho => ?_, (hcp w0 (Only.refl _ _)).1, by rw [hpo1, HT.out]; omega, ?_, hne7, hne8, hX7, HI6.out.sv.only o7 HI6.out.ne2, HI6.out.only.transN o7 hqlo⟩
            · have := (hcp w' ho).2
              rw [hpo1]
              unfold u8s at this ⊢
              rw [← List.map_drop, List.drop_drop] at this
              rw [show ps + z + 32 = ps + (z + 32) by omega]
              exact this
            · rw [hgo1, outB'_succ, u8s_append]; exact own7)
          have Hok7 : Hid (∀ j, j < i + 1 → okB N rest j) := Lib.hid (fun j hj => by
            by_cases e : j = i
            · subst e; unfold okB; have := Hob.out; simpa using this
            · exact Hok.out j (by omega))
          have Hgo1 := Lib.hid hgo1
          have Hpo1 := Lib.hid hpo1
          have Hr := Lib.hid hra
          have hn1 : (nn : Int) - (z : Int) = ((nn - z : Nat) : Int) := by omega
          have hs1 := Hsz.out
          have hzk3 : z + 32 ≤ T - ps := by omega
          clear hra own7 o7 hq7 hcp hX7 hqlo hXl hne7 hne8 hYl hgo1 hpo1 HI6 Hrb6 Hown6 Hok
          have Hr2 := Lib.hid hr2
          clear hr2
          go_wp2_with (first | (at_builtin; refine wpl_append (s := .tmp 55) (x := .tmp 58) rfl rfl rfl rfl Hr.out ?_))
          refine ⟨⟨i + 1, r2, k - (z + 32), q', k', ?_, ?_, ?_, by omega, Hok7, HI7⟩, ?_⟩
          · rw [Hgo1.out, show N - (gn + z) = nn - z by omega]
          · rw [Hpo1.out, Hr2.out, show T - (ps + z + 32) = T - ps - (z + 32) by omega]
          · rw [Hgo1.out]
          · show ((nn - z : Nat) : Int).toNat < ((nn : Nat) : Int).toNat
            rw [Int.toNat_natCast, Int.toNat_natCast]
            omega
      · obtain rfl : i = M := by omega
        have hge : gone N i = N := by rw [← HM.out]; exact gone_end N
        have hn0 : N - gone N i = 0 := by omega
        rw [hn0, hge]
        have hsv := HI.out.sv
        have c0 := hsv.cell (i := 0) rfl
        have c1 := hsv.cell (i := 1) rfl
        have c2 := hsv.cell (i := 2) rfl
        have c3 := hsv.cell (i := 3) rfl
        have c4 := hsv.cell (i := 4) rfl
        have hst := HI.out.st.storeSt (s' := s)
        have hrow := HI.out.st.setRow (stCells s)
        have oS := Only.setRow wr w0.heap.size (stCells s).toArray
        have hO : Only [] w0 (wr.setRow w0.heap.size (stCells s).toArray) := HI.out.only.transN oS (by simp)
        unfold stV at hst
        have Hst := Lib.hid hst
        have Hrow := Lib.hid hrow
        have HO := Lib.hid hO
        have Hown := Lib.hid (HI.out.out.only oS (fun x hx hm => by
          obtain rfl := List.mem_singleton.1 hm
          exact HI.out.ne (ownBlk hx)))
        clear hst hrow oS hO hsv
        go_wp2_with (first | ((with_reducible show wpList _ _ _ _ _ _); refine wpl_store (ty := 67) (x := .tmp 2) (y := .tmp 67) rfl rfl rfl rfl Hst.out ?_))
        refine bodyPost_ret (results_st2 rfl _ _ _ s rfl Hrow.out) rfl ⟨HO.out, .inr (.inr ⟨Hlen.out, Hok.out, q, kq, rfl, ?_⟩)⟩
        have := Hown.out
        rw [hge] at this
        exact this
  · rw [decide_eq_true hlen] at hTi
    have Hlen := Lib.hid hlen
    clear hlen
    go_upto_region 6 with (fail)
    rw [← Hw3.out]
    have hcE := (HB.out.only0 HO3.out).cell
    have hgX : 3 ∉ [w0.heap.size] := by simp; omega
    have hRr : ∀ a, Only [w0.heap.size] a a := fun a => Only.refl _ _
    have hRt : ∀ a b e, Only [w0.heap.size] a b → Only [w0.heap.size] b e → Only [w0.heap.size] a e := fun a b e h h2 => h.trans h2 (fun i hi _ => hi)
    have hRd : Only [w0.heap.size] w3 w3.drew := (Only.drew _).mono (by simp)
    have hC0 : ∀ d ∈ [2], (fun (_ : Nat) (a : World) => Row a w0.heap.size 67 (stCells st0z)) d w3.drew := fun _ _ => HR3.out.only0 (Only.drew _)
    -- <<R6
    refine wp_region_rg4 (Only [w0.heap.size]) (Dirt [(2, [w0.heap.size])]) (fun (_ : Nat) (a : World) => Row a w0.heap.size 67 (stCells st0z)) [2] [[], [], [(2, none), (35, some 1)], [], [(36, some 2)]] [(3, 1), (4, 0)] [none, none, none, some 3, some 4, none, none, none, none, none, none, none, none, none, none, none, none, none, none, none, none, none, none, none, none, none, none, none, none, none, none, none, none, none, none, some 35, some 36, none, none, none, none, none, none, none, none, none, none, none, none, none, none, none, none, none, none, none, none, none, none, none, none, none, none, none, none, none, none, none, none] (by kernel_rfl) rfl (by kernel_rfl) hRr hRt (fun _ _ => Only.refl _ _) hRd hC0 (by kernel_rfl) (by kernel_rfl) ?_
    -- 0: s35 := build 67 #[]
    apply rgd_ev
    · intro a w hR hC hf
      refine rg_plain rfl fun K hK => ?_
      go_simp
      exact hK _ _ rfl ⟨hRr _, Only.refl _ _, fun _ _ _ _ h => h⟩
    -- 1: s36 := load 45 (Operand.global 3)
    apply rgd_ev
    · intro a w hR hC hf
      refine rg_plain rfl fun K hK => ?_
      have hg := hR.cell hcE hgX
      go_simp
      exact hK _ _ rfl ⟨hRr _, Only.refl _ _, fun _ _ _ _ h => h⟩
    -- 2: sNone := store 67 t2 t35
    refine ⟨SetSt w0.heap.size st0z, stands_of SetSt.stable (by intro x hx hk; obtain rfl := List.mem_singleton.1 hx; simp at hk), fun a w hR hC hf => ?_, ?_⟩
    · obtain ⟨e2, e35, -⟩ := hf
      replace e2 : a.tmps.getD 2 undef = _ := e2
      replace e35 : a.tmps.getD 35 undef = _ := e35
      refine rg_plain rfl fun K hK => ?_
      have hC2 : Row w w0.heap.size 67 (stCells st0z) := hC 2 (by simp) (by kernel_rfl)
      have o := Only.setRow w w0.heap.size (stCells st0z).toArray
      refine rg_store rfl e2 e35 (hC2.storeSt (s' := st0z)) ?_
      exact hK _ _ (hC2.setRow (stCells st0z)) ⟨o, o, fun i hi hne _ _ => absurd (List.mem_singleton.1 hi) hne⟩
    -- 3: s3 := assign (const (Value.slice none 0 0))
    apply rgd_ev
    · intro a w hR hC hf
      refine rg_plain rfl fun K hK => ?_
      go_simp
      exact hK _ _ rfl ⟨hRr _, Only.refl _ _, fun _ _ _ _ h => h⟩
    -- 4: s4 := assign t36
    apply rgd_ev
    · intro a w hR hC hf
      obtain ⟨e36, -⟩ := hf
      replace e36 : a.tmps.getD 36 undef = _ := e36
      refine rg_plain rfl fun K hK => ?_
      go_simp
      exact hK _ _ rfl ⟨hRr _, Only.refl _ _, fun _ _ _ _ h => h⟩
    intro f6 w6 hR6 hf hz6
    dsimp only [mergeT]
    obtain ⟨e3, e4, -⟩ := hf
    replace e3 : f6 3 = _ := e3
    rw [e3]
    replace e4 : f6 4 = _ := e4
    rw [e4]
    -- R6>>
    obtain ⟨v2, hrow⟩ := hz6 _ (List.mem_cons_of_mem _ (List.mem_cons_of_mem _ (List.mem_cons_self ..)))
    have hrow : Row w6 w0.heap.size 67 (stCells st0z) := hrow
    have hO : Only [] w0 w6 := HO3.out.transN hR6 (by simp)
    clear hz6
    go_wp2_with fail
    exact bodyPost_ret (results_st2 rfl _ _ _ st0z rfl hrow) rfl ⟨hO, .inl ⟨Hlen.out, rfl⟩⟩
end Go.Proofs.YtfoplbolbjcggaaDoor
