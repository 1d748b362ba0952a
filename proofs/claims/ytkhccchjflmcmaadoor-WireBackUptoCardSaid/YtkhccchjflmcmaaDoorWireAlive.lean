/- The walk of bollardlaw05.alive. -/
import Derived.Test.YtkhccchjflmcmaaDoorWireW
set_option linter.unusedVariables false
namespace Go.Proofs.YtkhccchjflmcmaaDoor
open Go.RowKit

theorem nb300 : nb 300 = [172, 2] := by rw [nb_hi (by omega), nb_lo (by omega)]; rfl
theorem nb2 : nb 2 = [2] := by rw [nb_lo (by omega)]; rfl
theorem wsumA : wsum 2166136261 [97] = 3826002220 := by decide +kernel

theorem alive05 (w : World) : Calls Tryd.prog 10 #[] w fun e w' => e = .returned (.bool true) ∧ Only [] w w' := by
  go_enter Tryd.func10, Tryd.ntmps10
  go_wp2_with fail
  (with_reducible refine (newWriter w).mono ?_)
  rintro e w1 ⟨B, F, rfl, hw1, ho1, hF1⟩
  go_wp2_with fail
  (with_reducible refine (num_lit w1 F B [] false 300 300 rfl (by omega) hw1 (by rw [nb300]; decide)).mono ?_)
  rintro e w2 ⟨rfl, F2, hw2, ho2, hF2⟩
  go_wp2_with fail
  (with_reducible refine (text_put w2 F2 B ([] ++ nb 300) [97, 98] false 2 hw2 rfl _ rfl (by rw [nb300, nb2]; decide)).mono ?_)
  rintro e w3 ⟨rfl, F3, hw3, ho3, hF3⟩
  go_wp2_with fail
  rw [nb300, nb2] at hw3
  have o3 : Only [] w w3 := by
    have h1 := ho1.transN ho2 hF1
    refine h1.transN ho3 ?_
    intro k hk
    rcases hF2 k hk with h | h
    · exact hF1 k h
    · have := ho1.size; omega
  (with_reducible refine (done_any w3 F3 B _ hw3 (by decide)).mono ?_)
  rintro e w4 ⟨p', c', rfl, o4, ho4⟩
  obtain ⟨rd, _, hp, _, _, _⟩ := o4.view
  have hc : (Go.convert 26 9 (.slice p' 5 c')).run Tryd.prog w4 = .ok (.string ⟨#[172, 2, 2, 97, 98]⟩) w4 := conv_bytes (xs := [172, 2, 2, 97, 98]) w4 Tryd.underlying26 Tryd.underlying5 Tryd.underlying9 rd rfl hp
  have hcc := Go.Lib.run_convert_bytes_const (P := Tryd.prog) w4 26 5 #[.int .u8 97] 1 1 Tryd.underlying26 Tryd.underlying5
  have rn : Rd (w4.alloc (.cells #[.int .u8 97] 5 (1, 2))) (some ⟨w4.heap.size, 0, none⟩) (u8s [97]) := Rd.newMark w4 5 (u8s [97]) (1, 2)
  go_wp2_with fail
  (with_reducible refine (sum_any (some ⟨w4.heap.size, 0, none⟩) [97] 1 1 (w4.alloc (.cells #[.int .u8 97] 5 (1, 2))) rfl (by omega) (by simp) rn).mono ?_)
  rintro e w5 ⟨rfl, rfl⟩
  rw [wsumA]
  have ht : (((3826002220 : UInt32).toNat : Int) == 3826002220) = true := by decide +kernel
  go_wp2_with fail
  go_ret
  exact ⟨rfl, (o3.trans0 ho4).trans0 (Only.alloc _ _)⟩
end Go.Proofs.YtkhccchjflmcmaaDoor
