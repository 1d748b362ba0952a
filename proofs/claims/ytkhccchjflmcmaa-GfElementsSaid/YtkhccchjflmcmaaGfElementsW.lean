/- The walk of bollardlaw01.GfElements. -/
import Derived.Test.YtkhccchjflmcmaaGfLawsW
import Derived.Test.YtkhccchjflmcmaaRefGfW
set_option linter.unusedVariables false
namespace Go.Proofs.Ytkhccchjflmcmaa
open Go.RowKit

set_option maxHeartbeats 1000000 in
theorem gfElements_walk (a b : UInt8) (n : Int) (hn : -9223372036854775808 ≤ n ∧ n ≤ 9223372036854775807) (w : World) :
    Calls Try.prog 8 #[.int .u8 (a.toNat : Int), .int .u8 (b.toNat : Int), .int .i64 n] w fun e w' => e = .returned (.bool true) ∧ Only [] w w' := by
  have ex : bits .xor .u8 (a.toNat : Int) (b.toNat : Int) = ((gadd a b).toNat : Int) := u8_xor_u8 a b
  obtain ⟨hn1, hn2⟩ := hn
  go_enter Try.func8, Try.ntmps8
  go_wp2_with fail
  (with_reducible refine (gfAlive_any _).mono ?_)
  rintro e w1 ⟨rfl, o1⟩
  go_wp2_with fail
  (with_reducible refine (inv_any a _).mono ?_)
  rintro e w' ⟨rfl, rfl⟩
  go_wp2_with fail
  (with_reducible refine (refInv_any a _).mono ?_)
  rintro e w' ⟨rfl, rfl⟩
  go_wp2_with fail
  (with_reducible refine (div_any a b _).mono ?_)
  rintro e w' ⟨rfl, rfl⟩
  go_wp2_with fail
  (with_reducible refine (refDiv_any a b _).mono ?_)
  rintro e w' ⟨rfl, rfl⟩
  go_wp2_with fail
  (with_reducible refine (log_any a _).mono ?_)
  rintro e w' ⟨rfl, rfl⟩
  go_wp2_with fail
  (with_reducible refine (refLog_any a _).mono ?_)
  rintro e w' ⟨rfl, rfl⟩
  go_wp2_with fail
  (with_reducible refine (add_any a b _).mono ?_)
  rintro e w' ⟨rfl, rfl⟩
  go_wp2_with fail
  (with_reducible refine (mul_any a b _).mono ?_)
  rintro e w' ⟨rfl, rfl⟩
  go_wp2_with fail
  (with_reducible refine (refMul_any a b _).mono ?_)
  rintro e w' ⟨rfl, rfl⟩
  go_wp2_with fail
  (with_reducible refine (pow_any a n _ (by omega) (by omega)).mono ?_)
  rintro e w' ⟨rfl, rfl⟩
  go_wp2_with fail
  (with_reducible refine (refPow_any a n _ (by omega) (by omega)).mono ?_)
  rintro e w' ⟨rfl, rfl⟩
  go_wp2_with fail
  go_ret
  exact ⟨rfl, o1⟩
end Go.Proofs.Ytkhccchjflmcmaa
