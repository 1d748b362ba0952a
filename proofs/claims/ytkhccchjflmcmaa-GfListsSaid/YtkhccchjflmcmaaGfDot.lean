/- The walks of gf.Add, gf.Dot and their like. -/
import Derived.Test.YtkhccchjflmcmaaGfMul
import Derived.Deep.QuietTactic
import Derived.BigQuiet
namespace Go.Proofs.Ytkhccchjflmcmaa
open Go.RowKit

theorem add_any (a b : UInt8) (w : World) :
    Calls Try.prog 11 #[.int .u8 (a.toNat : Int), .int .u8 (b.toNat : Int)] w fun e w' => e = .returned (.int .u8 ((gadd a b).toNat : Int)) ∧ w = w' := by
  go_enter Try.func11, Try.ntmps11
  go_wp2
  go_ret
  exact ⟨ret_of (u8_xor_u8 a b), rfl⟩

end Go.Proofs.Ytkhccchjflmcmaa
