/- The walk of bollardref20.Same: two pages that read alike. -/
import Derived.Test.YtfoplbolbjcggaaDoorEntSeqW
import Derived.BigQuiet
import Derived.Deep.QuietTactic
set_option linter.unusedVariables false
set_option maxRecDepth 100000
namespace Go.Proofs.YtfoplbolbjcggaaDoor
open Go.RowKit

def pgV (q : Option Addr) (m k : Nat) (nx : ByteArray) : Value := .agg #[.slice q m k, .string nx]
set_option maxHeartbeats 8000000 in
theorem same_yes (q1 q2 : Option Addr) (m k1 k2 : Nat) (nx : ByteArray) (es : List En) (w : World) (hm : es.length = m) (hb : m ≤ 1000) (hk1 : m ≤ k1) (hk2 : m ≤ k2) (h1 : Rd w q1 (es.flatMap enCells)) (h2 : Rd w q2 (es.flatMap enCells)) :
    Calls Tryd.prog 25 #[pgV q1 m k1 nx, pgV q2 m k2 nx] w fun e w' => e = .returned (.bool true) ∧ Only [] w w' := by
  obtain ⟨w1, hw1⟩ : ∃ w1, w1 = w.alloc (.cells #[.slice q1 m k1, .string nx] 43) := ⟨_, rfl⟩
  obtain ⟨w2, hw2⟩ : ∃ w2, w2 = w1.alloc (.cells #[.slice q2 m k2, .string nx] 43) := ⟨_, rfl⟩
  have o1 : Only [] w w1 := by rw [hw1]; exact Only.alloc _ _
  have o2 : Only [] w1 w2 := by rw [hw2]; exact Only.alloc _ _
  have s1 : w1.heap.size = w.heap.size + 1 := by rw [hw1]; simp
  have r1 : Row w2 w.heap.size 43 [.slice q1 m k1, .string nx] := by
    have : Row w1 w.heap.size 43 [.slice q1 m k1, .string nx] := by rw [hw1]; exact Row.newOf _ _ _ _ rfl
    exact this.only0 o2
  have r2 : Row w2 (w.heap.size + 1) 43 [.slice q2 m k2, .string nx] := by rw [← s1, hw2]; exact Row.newOf _ _ _ _ rfl
  have HO := Lib.hid (o1.trans0 o2)
  have HR1 := Lib.hid r1
  have HR2 := Lib.hid r2
  have Hw1 := Lib.hid hw1
  have Hw2 := Lib.hid hw2
  have Hm := Lib.hid hm
  have H1 := Lib.hid h1
  have H2 := Lib.hid h2
  have a0 := r1.cell (i := 0) rfl
  have a1 := r1.cell (i := 1) rfl
  have b0 := r2.cell (i := 0) rfl
  have b1 := r2.cell (i := 1) rfl
  unfold pgV
  clear o1 o2 s1 r1 r2 hw1 hw2 hm h1 h2
  go_enter Tryd.func25, Tryd.ntmps25
  go_upto_region 1 with (fail)
  rw [← Hw1.out, ← Hw2.out]
  clear Hw1 Hw2
  go_wp2_with fail
  clear a0 a1 b0 b1
  go_loopw [23] (fun v wr => ∃ j : Nat, v = .int .i64 (j : Int) ∧ j ≤ m ∧ Hid (Only [] w2 wr)) (fun v _ => m + 1 - (intOf v).toNat)
  case atStart => exact ⟨0, rfl, Nat.zero_le _, Lib.hid (Only.refl _ _)⟩
  case round =>
    obtain ⟨j, rfl, hj, ho⟩ := hrel
    by_cases hlt : j < m
    · obtain ⟨e, he⟩ : ∃ e, es[j]? = some e := ⟨_, List.getElem?_eq_getElem (by rw [Hm.out]; exact hlt)⟩
      have hne : es.flatMap enCells ≠ [] := fun e' => by have := flat_get enCells 5 enCells_len es j e 0 he (by omega); rw [e'] at this; cases this
      have g1 := (H1.out.only0 HO.out).only0 ho.out
      have g2 := (H2.out.only0 HO.out).only0 ho.out
      obtain ⟨c1, f1, rfl, -⟩ := g1.lt hne
      obtain ⟨c2, f2, rfl, -⟩ := g2.lt hne
      have x0 := rd_elem enCells_len g1 he (r := 0) rfl
      have x1 := rd_elem enCells_len g1 he (r := 1) rfl
      have x2 := rd_elem enCells_len g1 he (r := 2) rfl
      have x3 := rd_elem enCells_len g1 he (r := 3) rfl
      have x4 := rd_elem enCells_len g1 he (r := 4) rfl
      have y0 := rd_elem enCells_len g2 he (r := 0) rfl
      have y1 := rd_elem enCells_len g2 he (r := 1) rfl
      have y2 := rd_elem enCells_len g2 he (r := 2) rfl
      have y3 := rd_elem enCells_len g2 he (r := 3) rfl
      have y4 := rd_elem enCells_len g2 he (r := 4) rfl
      rw [Addr.add_lit, ← Nat.add_assoc] at x0 x1 x2 x3 x4 y0 y1 y2 y3 y4
      rw [Nat.add_zero] at x0 y0
      have a0 := (HR1.out.only0 ho.out).cell (i := 0) rfl
      have b0 := (HR2.out.only0 ho.out).cell (i := 0) rfl
      have hj1 : (j : Int) < (m : Int) := by omega
      have hj0 : (0 : Int) ≤ (j : Int) := by omega
      clear g1 g2 hne he
      go_wp2_with fail
      go_quiet (fail)
      go_wp2_with fail
      refine ⟨⟨j + 1, by go_num, by omega, Lib.hid (ho.out.trans0 (Only.drewN _ _))⟩, ?_⟩
      show m + 1 - ((j : Int) + 1).toNat < m + 1 - ((j : Int)).toNat
      omega
    · obtain rfl : j = m := by omega
      go_wp2_with fail
      go_ret
      exact ⟨rfl, HO.out.trans0 ho.out⟩
end Go.Proofs.YtfoplbolbjcggaaDoor
