/- The walks of bollardref06.GoodId and InForm. -/
import Derived.Test.YtfoplbolbjcggaaDoorFrameMath
import Derived.Test.YtfoplbolbjcggaaDoorOwn
set_option linter.unusedVariables false
set_option maxRecDepth 100000
namespace Go.Proofs.YtfoplbolbjcggaaDoor
open Go.RowKit

def idOk (a b q : Int) : Prop := 0 ≤ a ∧ a ≤ 15 ∧ 0 ≤ b ∧ b ≤ 1099511627776 ∧ 0 ≤ q ∧ q ≤ 1099511627776
instance (a b q : Int) : Decidable (idOk a b q) := by unfold idOk; exact inferInstance
set_option maxHeartbeats 4000000 in
theorem goodId_any (a b q : Int) (w : World) : Calls Tryd.prog 54 #[.agg #[.int .i64 a, .int .i64 b, .int .i64 q]] w fun e w' => e = .returned (.bool (decide (idOk a b q))) ∧ Only [] w w' := by
  have F1 : Hid (idOk a b q → Ending.returned (Value.bool true) = .returned (.bool (decide (idOk a b q)))) := Lib.hid (fun h => by rw [decide_eq_true h])
  have F0 : Hid (¬ idOk a b q → Ending.returned (Value.bool false) = .returned (.bool (decide (idOk a b q)))) := Lib.hid (fun h => by rw [decide_eq_false h])
  go_enter Tryd.func54, Tryd.ntmps54
  by_cases h1 : 0 ≤ a
  · by_cases h2 : a ≤ 15
    · by_cases h3 : 0 ≤ b
      · by_cases h4 : b ≤ 1099511627776
        · by_cases h5 : 0 ≤ q
          · by_cases h6 : q ≤ 1099511627776
            · skip
              go_wp2_with fail
              go_ret
              exact ⟨F1.out (⟨h1, h2, h3, h4, h5, h6⟩), Only.alloc _ _⟩
            · skip
              go_wp2_with fail
              go_ret
              exact ⟨F0.out (fun k => by unfold idOk at k; omega), Only.alloc _ _⟩
          · skip
            go_wp2_with fail
            go_ret
            exact ⟨F0.out (fun k => by unfold idOk at k; omega), Only.alloc _ _⟩
        · skip
          go_wp2_with fail
          go_ret
          exact ⟨F0.out (fun k => by unfold idOk at k; omega), Only.alloc _ _⟩
      · skip
        go_wp2_with fail
        go_ret
        exact ⟨F0.out (fun k => by unfold idOk at k; omega), Only.alloc _ _⟩
    · skip
      go_wp2_with fail
      go_ret
      exact ⟨F0.out (fun k => by unfold idOk at k; omega), Only.alloc _ _⟩
  · skip
    go_wp2_with fail
    go_ret
    exact ⟨F0.out (fun k => by unfold idOk at k; omega), Only.alloc _ _⟩
theorem stOk_id (s : Stp) : stOk s ↔ idOk s.node s.boot s.seq ∧ 0 ≤ s.shard ∧ s.shard ≤ 15 ∧ 0 ≤ s.size ∧ s.size ≤ 1024 := by
  constructor
  · intro h
    have := h.n0; have := h.n1; have := h.b0; have := h.b1; have := h.q0; have := h.q1; have := h.h0; have := h.h1; have := h.z0; have := h.z1
    unfold idOk
    omega
  · rintro ⟨⟨h1, h2, h3, h4, h5, h6⟩, h7, h8, h9, h10⟩
    exact ⟨h1, by omega, h3, h4, h5, h6, h7, by omega, h9, h10⟩
set_option maxHeartbeats 4000000 in
theorem refInForm_any (s : Stp) (w : World) : Calls Tryd.prog 29 #[stV s] w fun e w' => e = .returned (.bool (decide (stOk s))) ∧ Only [] w w' := by
  have F1 : Hid (stOk s → Ending.returned (Value.bool true) = .returned (.bool (decide (stOk s)))) := Lib.hid (fun h => by rw [decide_eq_true h])
  have F0 : Hid (¬ stOk s → Ending.returned (Value.bool false) = .returned (.bool (decide (stOk s)))) := Lib.hid (fun h => by rw [decide_eq_false h])
  have HI := Lib.hid (stOk_id s)
  obtain ⟨w1, hw1⟩ : ∃ w1, w1 = w.alloc (.cells #[.int .i64 s.node, .int .i64 s.boot, .int .i64 s.seq, .int .i64 s.shard, .int .i64 s.size] 67) := ⟨_, rfl⟩
  have o1 : Only [] w w1 := by rw [hw1]; exact Only.alloc _ _
  have r1 : Row w1 w.heap.size 67 [.int .i64 s.node, .int .i64 s.boot, .int .i64 s.seq, .int .i64 s.shard, .int .i64 s.size] := by rw [hw1]; exact Row.newOf _ _ _ _ rfl
  obtain ⟨gb, hgb⟩ : ∃ gb, decide (idOk s.node s.boot s.seq) = gb := ⟨_, rfl⟩
  have hgi := goodId_any s.node s.boot s.seq w1
  rw [hgb] at hgi
  have Hgb := Lib.hid hgb
  have Hw1 := Lib.hid hw1
  have HR1 := Lib.hid r1
  have HO1 := Lib.hid o1
  unfold stV
  clear hgb hw1 r1 o1
  obtain ⟨a, b, q, h, z⟩ := s
  dsimp only at *
  go_enter Tryd.func29, Tryd.ntmps29
  go_wp2_with fail
  rw [← Hw1.out]
  refine hgi.mono ?_
  clear hgi Hw1
  rintro e w2 ⟨rfl, o2⟩
  have hr := HR1.out.only0 o2
  have c3 := hr.cell (i := 3) rfl
  have c4 := hr.cell (i := 4) rfl
  have HO2 := Lib.hid (HO1.out.trans0 o2)
  clear hr o2
  cases gb with
  | false =>
    go_wp2_with fail
    go_ret
    exact ⟨F0.out (fun k => by have := (HI.out.1 k).1; have h2 := Hgb.out; rw [decide_eq_true this] at h2; cases h2), HO2.out⟩
  | true =>
    have hid : idOk a b q := of_decide_eq_true Hgb.out
    have Hid1 := Lib.hid hid
    clear hid
    by_cases h1 : 0 ≤ h
    · by_cases h2 : h ≤ 15
      · by_cases h3 : 0 ≤ z
        · by_cases h4 : z ≤ 1024
          · skip
            go_wp2_with fail
            go_ret
            exact ⟨F1.out (HI.out.2 ⟨Hid1.out, h1, h2, h3, h4⟩), HO2.out⟩
          · skip
            go_wp2_with fail
            go_ret
            refine ⟨?_, HO2.out⟩
            have e : decide (z ≤ 1024) = false := decide_eq_false (by omega)
            show Ending.returned (Value.bool (decide (z ≤ 1024))) = _
            rw [e]
            exact F0.out (fun k => by have := (HI.out.1 k).2; omega)
        · skip
          go_wp2_with fail
          go_ret
          exact ⟨F0.out (fun k => by have := (HI.out.1 k).2; omega), HO2.out⟩
      · skip
        go_wp2_with fail
        go_ret
        exact ⟨F0.out (fun k => by have := (HI.out.1 k).2; omega), HO2.out⟩
    · skip
      go_wp2_with fail
      go_ret
      exact ⟨F0.out (fun k => by have := (HI.out.1 k).2; omega), HO2.out⟩
end Go.Proofs.YtfoplbolbjcggaaDoor
