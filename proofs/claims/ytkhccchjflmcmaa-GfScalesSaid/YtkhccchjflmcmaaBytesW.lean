/- The walk of bollardnum.SameBytes. -/
import Derived.Test.YtkhccchjflmcmaaProg
import Derived.Test.YtkhccchjflmcmaaRegion
set_option linter.unusedVariables false
namespace Go.Proofs.Ytkhccchjflmcmaa
open Go.RowKit

theorem sameBytes_any (p q : Option Addr) (xs ys : List UInt8) (n m c d : Nat) (b : Bool) (w : World) (hn : xs.length = n) (hm : ys.length = m) (hp : p = none → n = 0 ∧ c = 0) (hq : q = none → m = 0 ∧ d = 0) (hx : Rd w p (u8s xs)) (hy : Rd w q (u8s ys)) (hb : (xs == ys) = b) :
    Calls Try.prog 21 #[.slice p n c, .slice q m d] w fun e w' => e = .returned (.bool b) ∧ w = w' := by
  have c1 := conv_bytes (P := Try.prog) w Try.underlying33 Try.underlying5 Try.underlying9 hx hn hp
  have c2 := conv_bytes (P := Try.prog) w Try.underlying33 Try.underlying5 Try.underlying9 hy hm hq
  clear hn hm hp hq
  go_enter Try.func21, Try.ntmps21
  go_wp2_with fail
  go_ret
  exact ⟨rfl, rfl⟩
end Go.Proofs.Ytkhccchjflmcmaa
