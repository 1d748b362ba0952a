/- The arguments of a law's row, opened: integers as bytes and ints. -/
import Derived.Test.YtkhccchjflmcmaaRows
import Derived.Test.YtkhccchjflmcmaaLaw
import Derived.OpenShut
import Derived.SizedLaws
namespace Go.Proofs.Ytkhccchjflmcmaa
open Go.ChangeShapes Go.WideShapes Go.ChangeAt Go.RowKit

theorem own : ownKnob Try.prog.godebug = none := by kernel_rfl
theorem laidOut : laidOutB Try.prog = true := by kernel_rfl
theorem i64_of_wf {a : Int} (h : (Lit.int .i64 a).wf = true) : -9223372036854775808 ≤ a ∧ a ≤ 9223372036854775807 := by
  simpa [Lit.wf, IntKind.min, IntKind.max, IntKind.bits, IntKind.signed] using h
end Go.Proofs.Ytkhccchjflmcmaa
