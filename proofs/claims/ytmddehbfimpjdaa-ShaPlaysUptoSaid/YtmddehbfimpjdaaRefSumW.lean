/- The walk of bollardref03.Sum. -/
import Derived.Test.YtmddehbfimpjdaaRefSum1
import Derived.Test.YtmddehbfimpjdaaRefSum7
import Derived.Test.YtmddehbfimpjdaaRefMsgW
set_option linter.unusedVariables false
namespace Go.Proofs.Ytmddehbfimpjdaa
open Go.RowKit

set_option maxRecDepth 1000000 in
set_option maxHeartbeats 16000000 in
theorem refSum_any (p : Option Addr) (xs : List UInt8) (n c : Nat) (ww : World) (hn : xs.length = n) (hb : n + 80 ≤ 140737488355328) (hp : p = none → n = 0 ∧ c = 0) (hx : Rd ww p (u8s xs)) :
    Calls Try.prog 20 #[.slice p n c] ww fun e w' => e = .returned (.agg (u8s (shaB xs)).toArray) ∧ Only [] ww w' := by
  obtain ⟨A, hA⟩ : ∃ A, A = shaB xs := ⟨_, rfl⟩
  have hans : A = outB (digN st0 ((n + 72) / 64) (xs ++ tailB n)) := by rw [hA, ← hn]; rfl
  rw [← hA]
  obtain ⟨w0, hw0⟩ : ∃ w0, w0 = (ww.alloc (.cells #[.int .u8 0, .int .u8 0, .int .u8 0, .int .u8 0, .int .u8 0, .int .u8 0, .int .u8 0, .int .u8 0, .int .u8 0, .int .u8 0, .int .u8 0, .int .u8 0, .int .u8 0, .int .u8 0, .int .u8 0, .int .u8 0, .int .u8 0, .int .u8 0, .int .u8 0, .int .u8 0, .int .u8 0, .int .u8 0, .int .u8 0, .int .u8 0, .int .u8 0, .int .u8 0, .int .u8 0, .int .u8 0, .int .u8 0, .int .u8 0, .int .u8 0, .int .u8 0] 25)).alloc (.cells (List.replicate 8 (Value.int .u32 0)).toArray 58) := ⟨_, rfl⟩
  have ho0 : Only [] ww w0 := by rw [hw0]; exact (Only.alloc _ _).trans0 (Only.alloc _ _)
  have rz : Row w0 ww.heap.size 25 (u8s (List.replicate 32 0)) := by rw [hw0]; exact (Row.newOf _ _ _ _ (by rfl)).only0 (Only.alloc _ _)
  have r3 : Row w0 (ww.heap.size + 1) 58 (List.replicate 8 (Value.int .u32 0)) := by rw [hw0]; exact Row.newAt _ _ _ (by simp)
  have hst3 := r3.storeAt (P := Try.prog) (ty := 58) (us := u32s st0.l) (by rw [u32s_length]; exact infoA8) (by rw [u32s_length]; rfl) (fun u hu => u32s_one hu)
  have r3' := r3.setRow (u32s st0.l)
  have o3 : Only [ww.heap.size + 1] w0 (w0.setRow (ww.heap.size + 1) (u32s st0.l).toArray) := Only.setRow _ _ _
  have rz1 := rz.only o3 (by simp)
  have ho1 : Only [] ww (w0.setRow (ww.heap.size + 1) (u32s st0.l).toArray) := ho0.transN o3 (by simp)
  have hmsg := message_any p xs n c (w0.setRow (ww.heap.size + 1) (u32s st0.l).toArray) hn hb hp (hx.only0 ho1)
  have Hst3 := Lib.hid hst3
  have R3 := Lib.hid r3'
  have Rz := Lib.hid rz1
  have Ho1 := Lib.hid ho1
  have Hans := Lib.hid hans
  have Hmsg := Lib.hid hmsg
  have hl := tail_len n
  have hz3 := r3'.lt
  clear hst3 r3' rz1 ho1 hans hmsg r3 rz o3 ho0 hA hx
  subst hw0
  go_enter Try.func20, Try.ntmps20
  go_wp2_with (first | ((with_reducible show wpList _ _ _ _ _ _); refine wpl_build (t := 58) (cells := (u32s st0.l).toArray) rfl rfl (by kernel_rfl) ?_) | ((with_reducible show wpList _ _ _ _ _ _); refine wpl_store (ty := 58) (x := .tmp 3) (y := .tmp 21) rfl rfl rfl rfl Hst3.out ?_))
  clear Hst3
  refine Hmsg.out.mono ?_
  rintro e w1 ⟨p', m, c', rfl, om, h1⟩
  have hv := om.view
  have hml : (xs ++ tailB n).length = m := by have := hv.2.1; rwa [u8s_length] at this
  have hmt : m = n + (tailB n).length := by rw [← hml, List.length_append, hn]
  have hm0 : 0 < m := by have := hl.2; omega
  obtain ⟨b4, rfl, hb4, hb4l⟩ := om.at hm0
  have hmc : m ≤ c' := hv.2.2.2.1
  have hcm : c' ≤ 9223372036854775807 := hv.2.2.2.2.1
  obtain ⟨Y, hY⟩ : ∃ Y, Y = xs ++ tailB n := ⟨_, rfl⟩
  rw [← hY] at om hml hv
  have HA : Hid (A = outB (digN st0 (m / 64) Y)) := Lib.hid (by rw [Hans.out, hY, hmt, hl.2])
  have hm64 : m % 64 = 0 := by rw [hmt]; exact hl.1
  have hcell : ∀ i (hi : i < Y.length), w1.cell? ⟨b4, 0 + i, none⟩ = some (.int .u8 ((Y[i]).toNat : Int)) := fun i hi => by
    rw [Nat.zero_add]; exact om.cellAt (u8s_get hi)
  have htl : (tailB n).length = 9 + zeros n := by simp [tailB, be64]; omega
  have hzr : zeros n < 64 := by unfold zeros; omega
  have hmb : m + 64 ≤ 9223372036854775807 := by omega
  have R3b := Lib.hid (R3.out.only0 h1)
  have Rzb := Lib.hid (Rz.out.only0 h1)
  have Ho2 := Lib.hid (Ho1.out.trans0 h1)
  have hne3 : b4 ≠ ww.heap.size + 1 := by omega
  have Hcell := Lib.hid hcell
  have Hml := Lib.hid hml
  clear om hv hcell hY hml Hans Hmsg R3 Rz Ho1 h1 hl htl hmt hb4 hz3
  go_wp2_with fail
  refine refLoop1 b4 0 m c' (ww.heap.size + 1) Y st0 w1 Hml.out hmb hm64 R3b.out hne3 hb4l Hcell.out ?_
  intros
  rename_i w2 r3 o2
  have rz2 := Rzb.out.only o2 (by simp)
  have ho2 := Ho2.out.transN o2 (by simp)
  obtain ⟨w3, hw3⟩ : ∃ w3, w3 = w2.alloc (.cells #[.int .u8 0, .int .u8 0, .int .u8 0, .int .u8 0, .int .u8 0, .int .u8 0, .int .u8 0, .int .u8 0, .int .u8 0, .int .u8 0, .int .u8 0, .int .u8 0, .int .u8 0, .int .u8 0, .int .u8 0, .int .u8 0, .int .u8 0, .int .u8 0, .int .u8 0, .int .u8 0, .int .u8 0, .int .u8 0, .int .u8 0, .int .u8 0, .int .u8 0, .int .u8 0, .int .u8 0, .int .u8 0, .int .u8 0, .int .u8 0, .int .u8 0, .int .u8 0] 25) := ⟨_, rfl⟩
  have o3 : Only [] w2 w3 := by rw [hw3]; exact Only.alloc _ _
  have r19 : Row w3 w2.heap.size 25 (u8s (List.replicate 32 0)) := by rw [hw3]; exact Row.newOf _ _ _ _ (by rfl)
  have hz2 := rz2.lt
  have h3l := r3.lt
  have R3c := Lib.hid (r3.only0 o3)
  have Rzc := Lib.hid (rz2.only0 o3)
  have R19 := Lib.hid r19
  have Ho3 := Lib.hid (ho2.trans0 o3)
  clear r3 o2 rz2 ho2 o3 r19 R3b Rzb Ho2 Hcell
  subst hw3
  go_wp2_with fail
  refine refLoop7 (ww.heap.size + 1) w2.heap.size (digN st0 (m / 64) Y) _ R3c.out R19.out (by omega) ?_
  rw [← HA.out]
  intros
  rename_i w4 r19 o4
  have hlA : A.length = 32 := by rw [HA.out]; rfl
  have rz4 := Rzc.out.only o4 (by simp; omega)
  have ho4 := Ho3.out.transN o4 (by simp; omega)
  have hsz : (Try.prog.info? 25).map (·.size) = some (u8s A).length := by rw [u8s_length, hlA]; kernel_rfl
  have hld := r19.loadAt (P := Try.prog) Try.underlying25 hsz
  have hst := rz4.storeAt (P := Try.prog) hsz (by rw [u8s_length, u8s_length, hlA]; rfl) (fun u hu => u8s_one hu)
  have hrow := rz4.setRow (u8s A)
  have hos : Only [ww.heap.size] w4 (w4.setRow ww.heap.size (u8s A).toArray) := Only.setRow _ _ _
  have Hfin := Lib.hid (ho4.transN hos (by simp))
  have Hrow := Lib.hid hrow
  have Hld := Lib.hid hld
  have Hst := Lib.hid hst
  have Hsz := Lib.hid hsz
  clear hld hst hrow hos ho4 rz4 r19 o4 hsz Rzc R3c R19 Ho3
  go_wp2_with (first | ((with_reducible show wpList _ _ _ _ _ _); refine wpl_load (ty := 25) (x := .tmp 19) rfl rfl rfl Hld.out ?_) | ((with_reducible show wpList _ _ _ _ _ _); refine wpl_store (ty := 25) (x := .tmp 2) (y := .tmp 221) rfl rfl rfl rfl Hst.out ?_))
  refine bodyPost_ret (results_cell_row (p := 2) rfl _ _ ww.heap.size 25 (u8s A).toArray (0, 0) _ (by rfl) Hrow.out Try.underlying25 rfl (by rw [List.size_toArray]; exact Hsz.out)) (by rfl) ?_
  exact ⟨rfl, Hfin.out⟩
end Go.Proofs.Ytmddehbfimpjdaa
