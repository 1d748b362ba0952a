/-
  DERIVED. GIVEN WITH THE SEED: THE PROGRAM's TIES (one call each: nine closed facts by the kernel) AND EACH ROW's TIE, after the 31st guide's Derived/Test/Toyas{Tie, Card}.lean. No idea stands in it: it is a product of the set-up. Laid BY PROGRAM, IN A SANDBOX (cutbox-door.mjs). By AI agents, Wed Nov 11 2026. No macro, syntax, notation, axiom, sorry.
-/
import Derived.Test.YtlgcclhepegggaaDoorRows
import Derived.LaidByTextLater
import Derived.SevenTiedAt
import Derived.LaidSub
import Derived.LaidOnce
namespace Go.Proofs.YtlgcclhepegggaaDoor
open Go
set_option maxRecDepth 100000
theorem seatTie1 : Tryd.prog.laidByTextLater [("bollard/api.ErrParams", Rows.laid_bollard_api_ErrParams), ("bollard/api.ErrNumber", Rows.laid_bollard_api_ErrNumber), ("bollard/api.ErrData", Rows.laid_bollard_api_ErrData), ("bollard/api.ErrLost", Rows.laid_bollard_api_ErrLost), ("bollard/api.ErrBytes", Rows.laid_bollard_api_ErrBytes), ("bollard/api.ErrDigest", Rows.laid_bollard_api_ErrDigest), ("bollard/api.ErrName", Rows.laid_bollard_api_ErrName), ("bollard/api.ErrGone", Rows.laid_bollard_api_ErrGone), ("bollard/api.ErrThere", Rows.laid_bollard_api_ErrThere), ("bollard/api.ErrFull", Rows.laid_bollard_api_ErrFull), ("bollard/api.ErrLarge", Rows.laid_bollard_api_ErrLarge), ("bollard/api.ErrBallot", Rows.laid_bollard_api_ErrBallot), ("bollard/api.ErrRequest", Rows.laid_bollard_api_ErrRequest), ("bollard/api.ErrUri", Rows.laid_bollard_api_ErrUri), ("bollard/api.ErrDenied", Rows.laid_bollard_api_ErrDenied), ("bollard/api.ErrSkew", Rows.laid_bollard_api_ErrSkew), ("bollard/api.ErrMethod", Rows.laid_bollard_api_ErrMethod), ("bollard/api.ErrState", Rows.laid_bollard_api_ErrState)] [.sentinel, .sentinel, .sentinel, .sentinel, .sentinel, .sentinel, .sentinel, .sentinel, .sentinel, .sentinel, .sentinel, .sentinel, .sentinel, .sentinel, .sentinel, .sentinel, .sentinel, .sentinel] true :=
  Program.laidByTextLater_by_one 351 8 2 (by kernel_rfl) (by kernel_rfl) (by kernel_rfl) (by kernel_rfl) (by kernel_rfl) (by kernel_rfl) (fun _ _ => by kernel_rfl)
theorem noOwnUnsafe : Tryd.pinned.checked.prog.headLifts.contains "ownunsafe" = false := by kernel_rfl
theorem tie : Tryd.prog.laidByTextLater [("bollard/api.ErrNumber", Rows.laid_bollard_api_ErrNumber), ("bollard/api.ErrGone", Rows.laid_bollard_api_ErrGone), ("bollard/api.ErrFull", Rows.laid_bollard_api_ErrFull)] [.sentinel, .sentinel, .sentinel] true :=
  Program.laidByTextLater.sub seatTie1 ["bollard/api.ErrNumber", "bollard/api.ErrGone", "bollard/api.ErrFull"] (by kernel_rfl) (by kernel_rfl)
theorem netOrders_row_tie : Rows.netOrdersRow.laidByTextAt .later Tryd.pinned [.sentinel, .sentinel, .sentinel] true :=
  OpenClaim.laidByTextAt_later rfl rfl tie noOwnUnsafe
theorem netCounts_row_tie : Rows.netCountsRow.laidByTextAt .later Tryd.pinned [.sentinel, .sentinel, .sentinel] true :=
  OpenClaim.laidByTextAt_later rfl rfl tie noOwnUnsafe
theorem tie2 : Tryd.prog.laidByTextLater [("bollard/api.ErrParams", Rows.laid_bollard_api_ErrParams), ("bollard/api.ErrNumber", Rows.laid_bollard_api_ErrNumber), ("bollard/api.ErrData", Rows.laid_bollard_api_ErrData), ("bollard/api.ErrLost", Rows.laid_bollard_api_ErrLost), ("bollard/api.ErrBytes", Rows.laid_bollard_api_ErrBytes), ("bollard/api.ErrDigest", Rows.laid_bollard_api_ErrDigest), ("bollard/api.ErrName", Rows.laid_bollard_api_ErrName), ("bollard/api.ErrGone", Rows.laid_bollard_api_ErrGone), ("bollard/api.ErrThere", Rows.laid_bollard_api_ErrThere), ("bollard/api.ErrFull", Rows.laid_bollard_api_ErrFull), ("bollard/api.ErrLarge", Rows.laid_bollard_api_ErrLarge), ("bollard/api.ErrBallot", Rows.laid_bollard_api_ErrBallot), ("bollard/api.ErrRequest", Rows.laid_bollard_api_ErrRequest), ("bollard/api.ErrUri", Rows.laid_bollard_api_ErrUri), ("bollard/api.ErrDenied", Rows.laid_bollard_api_ErrDenied), ("bollard/api.ErrSkew", Rows.laid_bollard_api_ErrSkew), ("bollard/api.ErrMethod", Rows.laid_bollard_api_ErrMethod), ("bollard/api.ErrState", Rows.laid_bollard_api_ErrState)] [.sentinel, .sentinel, .sentinel, .sentinel, .sentinel, .sentinel, .sentinel, .sentinel, .sentinel, .sentinel, .sentinel, .sentinel, .sentinel, .sentinel, .sentinel, .sentinel, .sentinel, .sentinel] true :=
  Program.laidByTextLater.sub seatTie1 ["bollard/api.ErrParams", "bollard/api.ErrNumber", "bollard/api.ErrData", "bollard/api.ErrLost", "bollard/api.ErrBytes", "bollard/api.ErrDigest", "bollard/api.ErrName", "bollard/api.ErrGone", "bollard/api.ErrThere", "bollard/api.ErrFull", "bollard/api.ErrLarge", "bollard/api.ErrBallot", "bollard/api.ErrRequest", "bollard/api.ErrUri", "bollard/api.ErrDenied", "bollard/api.ErrSkew", "bollard/api.ErrMethod", "bollard/api.ErrState"] (by kernel_rfl) (by kernel_rfl)
theorem netPlays_row_tie : Rows.netPlaysRow.laidByTextAt .later Tryd.pinned [.sentinel, .sentinel, .sentinel, .sentinel, .sentinel, .sentinel, .sentinel, .sentinel, .sentinel, .sentinel, .sentinel, .sentinel, .sentinel, .sentinel, .sentinel, .sentinel, .sentinel, .sentinel] true :=
  OpenClaim.laidByTextAt_later rfl rfl tie2 noOwnUnsafe
theorem rsSizes_row_tie : Rows.rsSizesRow.laidByTextAt .later Tryd.pinned [.sentinel, .sentinel, .sentinel, .sentinel, .sentinel, .sentinel, .sentinel, .sentinel, .sentinel, .sentinel, .sentinel, .sentinel, .sentinel, .sentinel, .sentinel, .sentinel, .sentinel, .sentinel] true :=
  OpenClaim.laidByTextAt_later rfl rfl tie2 noOwnUnsafe
theorem rsEncodes_row_tie : Rows.rsEncodesRow.laidByTextAt .later Tryd.pinned [.sentinel, .sentinel, .sentinel, .sentinel, .sentinel, .sentinel, .sentinel, .sentinel, .sentinel, .sentinel, .sentinel, .sentinel, .sentinel, .sentinel, .sentinel, .sentinel, .sentinel, .sentinel] true :=
  OpenClaim.laidByTextAt_later rfl rfl tie2 noOwnUnsafe
theorem tie3 : Tryd.prog.laidByTextLater [("bollard/api.ErrParams", Rows.laid_bollard_api_ErrParams), ("bollard/api.ErrNumber", Rows.laid_bollard_api_ErrNumber), ("bollard/api.ErrData", Rows.laid_bollard_api_ErrData), ("bollard/api.ErrLarge", Rows.laid_bollard_api_ErrLarge)] [.sentinel, .sentinel, .sentinel, .sentinel] true :=
  Program.laidByTextLater.sub seatTie1 ["bollard/api.ErrParams", "bollard/api.ErrNumber", "bollard/api.ErrData", "bollard/api.ErrLarge"] (by kernel_rfl) (by kernel_rfl)
theorem rsLinear_row_tie : Rows.rsLinearRow.laidByTextAt .later Tryd.pinned [.sentinel, .sentinel, .sentinel, .sentinel] true :=
  OpenClaim.laidByTextAt_later rfl rfl tie3 noOwnUnsafe
theorem rsFew_row_tie : Rows.rsFewRow.laidByTextAt .later Tryd.pinned [.sentinel, .sentinel, .sentinel, .sentinel] true :=
  OpenClaim.laidByTextAt_later rfl rfl tie3 noOwnUnsafe
theorem rsSystematic_row_tie : Rows.rsSystematicRow.laidByTextAt .later Tryd.pinned [.sentinel, .sentinel, .sentinel, .sentinel] true :=
  OpenClaim.laidByTextAt_later rfl rfl tie3 noOwnUnsafe
theorem rsAny_row_tie : Rows.rsAnyRow.laidByTextAt .later Tryd.pinned [.sentinel, .sentinel, .sentinel, .sentinel] true :=
  OpenClaim.laidByTextAt_later rfl rfl tie3 noOwnUnsafe
theorem netOrdersUpto_row_tie : Rows.netOrdersUptoRow.laidByTextAt .later Tryd.pinned [.sentinel, .sentinel, .sentinel] true :=
  OpenClaim.laidByTextAt_later rfl rfl tie noOwnUnsafe
theorem netCountsUpto_row_tie : Rows.netCountsUptoRow.laidByTextAt .later Tryd.pinned [.sentinel, .sentinel, .sentinel] true :=
  OpenClaim.laidByTextAt_later rfl rfl tie noOwnUnsafe
theorem netPlaysUpto_row_tie : Rows.netPlaysUptoRow.laidByTextAt .later Tryd.pinned [.sentinel, .sentinel, .sentinel, .sentinel, .sentinel, .sentinel, .sentinel, .sentinel, .sentinel, .sentinel, .sentinel, .sentinel, .sentinel, .sentinel, .sentinel, .sentinel, .sentinel, .sentinel] true :=
  OpenClaim.laidByTextAt_later rfl rfl tie2 noOwnUnsafe
theorem rsSizesUpto_row_tie : Rows.rsSizesUptoRow.laidByTextAt .later Tryd.pinned [.sentinel, .sentinel, .sentinel, .sentinel, .sentinel, .sentinel, .sentinel, .sentinel, .sentinel, .sentinel, .sentinel, .sentinel, .sentinel, .sentinel, .sentinel, .sentinel, .sentinel, .sentinel] true :=
  OpenClaim.laidByTextAt_later rfl rfl tie2 noOwnUnsafe
theorem rsEncodesUpto_row_tie : Rows.rsEncodesUptoRow.laidByTextAt .later Tryd.pinned [.sentinel, .sentinel, .sentinel, .sentinel, .sentinel, .sentinel, .sentinel, .sentinel, .sentinel, .sentinel, .sentinel, .sentinel, .sentinel, .sentinel, .sentinel, .sentinel, .sentinel, .sentinel] true :=
  OpenClaim.laidByTextAt_later rfl rfl tie2 noOwnUnsafe
theorem rsLinearUpto_row_tie : Rows.rsLinearUptoRow.laidByTextAt .later Tryd.pinned [.sentinel, .sentinel, .sentinel, .sentinel] true :=
  OpenClaim.laidByTextAt_later rfl rfl tie3 noOwnUnsafe
theorem rsFewUpto_row_tie : Rows.rsFewUptoRow.laidByTextAt .later Tryd.pinned [.sentinel, .sentinel, .sentinel, .sentinel] true :=
  OpenClaim.laidByTextAt_later rfl rfl tie3 noOwnUnsafe
theorem rsSystematicUpto_row_tie : Rows.rsSystematicUptoRow.laidByTextAt .later Tryd.pinned [.sentinel, .sentinel, .sentinel, .sentinel] true :=
  OpenClaim.laidByTextAt_later rfl rfl tie3 noOwnUnsafe
theorem rsAnyUpto_row_tie : Rows.rsAnyUptoRow.laidByTextAt .later Tryd.pinned [.sentinel, .sentinel, .sentinel, .sentinel] true :=
  OpenClaim.laidByTextAt_later rfl rfl tie3 noOwnUnsafe
end Go.Proofs.YtlgcclhepegggaaDoor
