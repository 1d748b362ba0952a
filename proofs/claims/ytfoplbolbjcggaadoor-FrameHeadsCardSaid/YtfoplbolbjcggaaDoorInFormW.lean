/- The walk of frame.inForm. -/
import Derived.Test.YtfoplbolbjcggaaDoorFrameMath
import Derived.Test.YtfoplbolbjcggaaDoorOwn
set_option linter.unusedVariables false
set_option maxRecDepth 100000
namespace Go.Proofs.YtfoplbolbjcggaaDoor
open Go.RowKit

set_option maxHeartbeats 4000000 in
theorem inForm_any (s : Stp) (w : World) : Calls Tryd.prog 55 #[stV s] w fun e w' => e = .returned (.bool (decide (stOk s))) ∧ Only [] w w' := by
  have F1 : Hid (stOk s → Ending.returned (Value.bool true) = .returned (.bool (decide (stOk s)))) := Lib.hid (fun h => by rw [decide_eq_true h])
  have F0 : Hid (¬ stOk s → Ending.returned (Value.bool false) = .returned (.bool (decide (stOk s)))) := Lib.hid (fun h => by rw [decide_eq_false h])
  obtain ⟨a, b, q, h, z⟩ := s
  unfold stV
  dsimp only
  have hO : ∀ (w : World) (o1 o2 : Obj), Only [] w ((w.alloc o1).alloc o2) := fun w o1 o2 => (Only.alloc _ _).trans0 (Only.alloc _ _)
  go_enter Tryd.func55, Tryd.ntmps55
  by_cases h1 : 0 ≤ a
  · by_cases h2 : a < 16
    · by_cases h3 : 0 ≤ b
      · by_cases h4 : b ≤ 1099511627776
        · by_cases h5 : 0 ≤ q
          · by_cases h6 : q ≤ 1099511627776
            · by_cases h7 : 0 ≤ h
              · by_cases h8 : h < 16
                · by_cases h9 : 0 ≤ z
                  · by_cases h10 : z ≤ 1024
                    · skip
                      go_wp2_with fail
                      go_ret
                      exact ⟨F1.out ⟨h1, h2, h3, h4, h5, h6, h7, h8, h9, h10⟩, hO _ _ _⟩
                    · skip
                      go_wp2_with fail
                      go_ret
                      exact ⟨F0.out (fun k => by have := k.z1; dsimp only at this; omega), hO _ _ _⟩
                  · skip
                    go_wp2_with fail
                    go_ret
                    exact ⟨F0.out (fun k => by have := k.z0; dsimp only at this; omega), hO _ _ _⟩
                · skip
                  go_wp2_with fail
                  go_ret
                  exact ⟨F0.out (fun k => by have := k.h1; dsimp only at this; omega), hO _ _ _⟩
              · skip
                go_wp2_with fail
                go_ret
                exact ⟨F0.out (fun k => by have := k.h0; dsimp only at this; omega), hO _ _ _⟩
            · skip
              go_wp2_with fail
              go_ret
              exact ⟨F0.out (fun k => by have := k.q1; dsimp only at this; omega), hO _ _ _⟩
          · skip
            go_wp2_with fail
            go_ret
            exact ⟨F0.out (fun k => by have := k.q0; dsimp only at this; omega), hO _ _ _⟩
        · skip
          go_wp2_with fail
          go_ret
          exact ⟨F0.out (fun k => by have := k.b1; dsimp only at this; omega), hO _ _ _⟩
      · skip
        go_wp2_with fail
        go_ret
        exact ⟨F0.out (fun k => by have := k.b0; dsimp only at this; omega), hO _ _ _⟩
    · skip
      go_wp2_with fail
      go_ret
      exact ⟨F0.out (fun k => by have := k.n1; dsimp only at this; omega), hO _ _ _⟩
  · skip
    go_wp2_with fail
    go_ret
    exact ⟨F0.out (fun k => by have := k.n0; dsimp only at this; omega), hO _ _ _⟩
end Go.Proofs.YtfoplbolbjcggaaDoor
