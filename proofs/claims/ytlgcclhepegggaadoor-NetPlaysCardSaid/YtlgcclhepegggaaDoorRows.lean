/-
  NARROWER THAN 'FOR EVERY INPUT', by the rows' own cells (each row's printed sentence says how): NetOrders: laid · NetCounts: laid · NetPlays: laid · RsSizes: laid · RsEncodes: laid · RsLinear: laid · RsFew: laid · RsSystematic: laid · RsAny: laid.
  DERIVED. THE GIVEN ROWS OF THIS SEAT. 9 by the template 'for every input the law returns true; each argument reads behind the call as it read before'; 0 by the template 'total and deterministic' (their statements: YtlgcclhepegggaaDoorTotals.lean).
  GIVEN WITH THE SEED: the statements are not yours to turn. If you find one false, say at which input.
  Laid BY PROGRAM, IN A SANDBOX (cutbox-rows.mjs): the forced cells as the released guide's own fill.sh prints them over the translation 48531b78000e7bcd… (all of the seat's roots in one cut). By AI agents, Wed Nov 11 2026. No macro, syntax, notation, axiom, sorry.
-/
import Derived.Test.YtlgcclhepegggaaDoorChecked
import GoSem.Claim
import GoSem.ClaimJoined
import GoSem.ClaimMapViews
import Derived.JoinedTies
import Derived.KernelRfl
namespace Go.Proofs.YtlgcclhepegggaaDoor
/- THE CELL 'sum', in the pinned program and in every row, IS THE sha256 OF THE DUMP (.gsa) THAT YtlgcclhepegggaaDoorProg.lean LOADS. Nothing in Lean hashes anything: it is a label: what it is worth is what the hold of that sum in a sandbox is worth. -/
noncomputable def Tryd.pinned : Pinned := { name := "ytlgcclhepegggaadoor", sum := "48531b78000e7bcd5d4e51d5211fd6e33a966e425b892e82cf6b477428d84c33", checked := Tryd.checked }
namespace Rows
def none {H : Type} : Left H := { results := [], args := [] }

/- WHAT THE LISTED PACKAGE-LEVEL VARIABLES READ AS WHEN THE CALL BEGINS. Each datum BY PROGRAM (the guide's laid-datum.mjs) off the statement by which the dump's own 'gosem.cut.vars' lays the variable. In a bare row this is a premise. The card (YtlgcclhepegggaaDoorCards.lean) ties it to the program's text. -/
def laid_bollard_api_ErrNumber {H : Type} : DataW H := .iface "*errors.errorString" (.ptr (.agg [.lit (.string [98, 111, 108, 108, 97, 114, 100, 58, 32, 110, 117, 109, 98, 101, 114])]))
def laid_bollard_api_ErrGone {H : Type} : DataW H := .iface "*errors.errorString" (.ptr (.agg [.lit (.string [98, 111, 108, 108, 97, 114, 100, 58, 32, 103, 111, 110, 101])]))
def laid_bollard_api_ErrFull {H : Type} : DataW H := .iface "*errors.errorString" (.ptr (.agg [.lit (.string [98, 111, 108, 108, 97, 114, 100, 58, 32, 102, 117, 108, 108])]))
def laid_bollard_api_ErrParams {H : Type} : DataW H := .iface "*errors.errorString" (.ptr (.agg [.lit (.string [98, 111, 108, 108, 97, 114, 100, 58, 32, 112, 97, 114, 97, 109, 115])]))
def laid_bollard_api_ErrData {H : Type} : DataW H := .iface "*errors.errorString" (.ptr (.agg [.lit (.string [98, 111, 108, 108, 97, 114, 100, 58, 32, 100, 97, 116, 97])]))
def laid_bollard_api_ErrLost {H : Type} : DataW H := .iface "*errors.errorString" (.ptr (.agg [.lit (.string [98, 111, 108, 108, 97, 114, 100, 58, 32, 108, 111, 115, 116])]))
def laid_bollard_api_ErrBytes {H : Type} : DataW H := .iface "*errors.errorString" (.ptr (.agg [.lit (.string [98, 111, 108, 108, 97, 114, 100, 58, 32, 98, 121, 116, 101, 115])]))
def laid_bollard_api_ErrDigest {H : Type} : DataW H := .iface "*errors.errorString" (.ptr (.agg [.lit (.string [98, 111, 108, 108, 97, 114, 100, 58, 32, 100, 105, 103, 101, 115, 116])]))
def laid_bollard_api_ErrName {H : Type} : DataW H := .iface "*errors.errorString" (.ptr (.agg [.lit (.string [98, 111, 108, 108, 97, 114, 100, 58, 32, 110, 97, 109, 101])]))
def laid_bollard_api_ErrThere {H : Type} : DataW H := .iface "*errors.errorString" (.ptr (.agg [.lit (.string [98, 111, 108, 108, 97, 114, 100, 58, 32, 116, 104, 101, 114, 101])]))
def laid_bollard_api_ErrLarge {H : Type} : DataW H := .iface "*errors.errorString" (.ptr (.agg [.lit (.string [98, 111, 108, 108, 97, 114, 100, 58, 32, 108, 97, 114, 103, 101])]))
def laid_bollard_api_ErrBallot {H : Type} : DataW H := .iface "*errors.errorString" (.ptr (.agg [.lit (.string [98, 111, 108, 108, 97, 114, 100, 58, 32, 98, 97, 108, 108, 111, 116])]))
def laid_bollard_api_ErrRequest {H : Type} : DataW H := .iface "*errors.errorString" (.ptr (.agg [.lit (.string [98, 111, 108, 108, 97, 114, 100, 58, 32, 114, 101, 113, 117, 101, 115, 116])]))
def laid_bollard_api_ErrUri {H : Type} : DataW H := .iface "*errors.errorString" (.ptr (.agg [.lit (.string [98, 111, 108, 108, 97, 114, 100, 58, 32, 117, 114, 105])]))
def laid_bollard_api_ErrDenied {H : Type} : DataW H := .iface "*errors.errorString" (.ptr (.agg [.lit (.string [98, 111, 108, 108, 97, 114, 100, 58, 32, 100, 101, 110, 105, 101, 100])]))
def laid_bollard_api_ErrSkew {H : Type} : DataW H := .iface "*errors.errorString" (.ptr (.agg [.lit (.string [98, 111, 108, 108, 97, 114, 100, 58, 32, 115, 107, 101, 119])]))
def laid_bollard_api_ErrMethod {H : Type} : DataW H := .iface "*errors.errorString" (.ptr (.agg [.lit (.string [98, 111, 108, 108, 97, 114, 100, 58, 32, 109, 101, 116, 104, 111, 100])]))
def laid_bollard_api_ErrState {H : Type} : DataW H := .iface "*errors.errorString" (.ptr (.agg [.lit (.string [98, 111, 108, 108, 97, 114, 100, 58, 32, 115, 116, 97, 116, 101])]))

/-- 'bollardlaw14.NetOrders': WHATEVER THE INPUT: true; the input reads as it did. -/
def netOrdersSpec : ChangeSpec := { name := "netOrders", fn := fun _ => fun
  | [d] => { results := [.lit (.bool true)], args := [d] }
  | _ => none }
def netOrdersRow : OpenClaim := { program := "ytlgcclhepegggaadoor", sum := "48531b78000e7bcd5d4e51d5211fd6e33a966e425b892e82cf6b477428d84c33", func := "bollard/bollardlaw14.NetOrders", spec := "netOrders", unfollowed := true, recurses := true, named := ["bollard/api.ErrGone", "bollard/api.ErrNumber", "bollard/api.ErrFull"], apart := false, laid := [("bollard/api.ErrNumber", laid_bollard_api_ErrNumber), ("bollard/api.ErrGone", laid_bollard_api_ErrGone), ("bollard/api.ErrFull", laid_bollard_api_ErrFull)] }
def NetOrdersSaid : Prop := netOrdersRow.holds Tryd.pinned (OpenSpec.ofChange netOrdersSpec)

/-- ITS FALSE NEIGHBOUR: 'it returns false'. Refute it at one input. -/
def netOrdersWrong : ChangeSpec := { name := "netOrders", fn := fun _ => fun
  | [d] => { results := [.lit (.bool false)], args := [d] }
  | _ => none }
def NetOrdersWrongFalsely : Prop := netOrdersRow.holds Tryd.pinned (OpenSpec.ofChange netOrdersWrong)

/-- 'bollardlaw14.NetCounts': WHATEVER THE INPUT: true; the input reads as it did. -/
def netCountsSpec : ChangeSpec := { name := "netCounts", fn := fun _ => fun
  | [d] => { results := [.lit (.bool true)], args := [d] }
  | _ => none }
def netCountsRow : OpenClaim := { program := "ytlgcclhepegggaadoor", sum := "48531b78000e7bcd5d4e51d5211fd6e33a966e425b892e82cf6b477428d84c33", func := "bollard/bollardlaw14.NetCounts", spec := "netCounts", unfollowed := true, recurses := true, named := ["bollard/api.ErrGone", "bollard/api.ErrNumber", "bollard/api.ErrFull"], apart := false, laid := [("bollard/api.ErrNumber", laid_bollard_api_ErrNumber), ("bollard/api.ErrGone", laid_bollard_api_ErrGone), ("bollard/api.ErrFull", laid_bollard_api_ErrFull)] }
def NetCountsSaid : Prop := netCountsRow.holds Tryd.pinned (OpenSpec.ofChange netCountsSpec)

/-- ITS FALSE NEIGHBOUR: 'it returns false'. Refute it at one input. -/
def netCountsWrong : ChangeSpec := { name := "netCounts", fn := fun _ => fun
  | [d] => { results := [.lit (.bool false)], args := [d] }
  | _ => none }
def NetCountsWrongFalsely : Prop := netCountsRow.holds Tryd.pinned (OpenSpec.ofChange netCountsWrong)

/-- 'bollardlaw14.NetPlays': WHATEVER THE INPUT: true; the input reads as it did. -/
def netPlaysSpec : ChangeSpec := { name := "netPlays", fn := fun _ => fun
  | [d] => { results := [.lit (.bool true)], args := [d] }
  | _ => none }
def netPlaysRow : OpenClaim := { program := "ytlgcclhepegggaadoor", sum := "48531b78000e7bcd5d4e51d5211fd6e33a966e425b892e82cf6b477428d84c33", func := "bollard/bollardlaw14.NetPlays", spec := "netPlays", unfollowed := true, recurses := true, named := ["bollard/api.ErrGone", "bollard/api.ErrNumber", "bollard/api.ErrFull", "bollard/api.ErrParams", "bollard/api.ErrData", "bollard/api.ErrLost", "bollard/api.ErrBytes", "bollard/api.ErrDigest", "bollard/api.ErrName", "bollard/api.ErrThere", "bollard/api.ErrLarge", "bollard/api.ErrBallot", "bollard/api.ErrRequest", "bollard/api.ErrUri", "bollard/api.ErrDenied", "bollard/api.ErrSkew", "bollard/api.ErrMethod", "bollard/api.ErrState"], apart := false, laid := [("bollard/api.ErrParams", laid_bollard_api_ErrParams), ("bollard/api.ErrNumber", laid_bollard_api_ErrNumber), ("bollard/api.ErrData", laid_bollard_api_ErrData), ("bollard/api.ErrLost", laid_bollard_api_ErrLost), ("bollard/api.ErrBytes", laid_bollard_api_ErrBytes), ("bollard/api.ErrDigest", laid_bollard_api_ErrDigest), ("bollard/api.ErrName", laid_bollard_api_ErrName), ("bollard/api.ErrGone", laid_bollard_api_ErrGone), ("bollard/api.ErrThere", laid_bollard_api_ErrThere), ("bollard/api.ErrFull", laid_bollard_api_ErrFull), ("bollard/api.ErrLarge", laid_bollard_api_ErrLarge), ("bollard/api.ErrBallot", laid_bollard_api_ErrBallot), ("bollard/api.ErrRequest", laid_bollard_api_ErrRequest), ("bollard/api.ErrUri", laid_bollard_api_ErrUri), ("bollard/api.ErrDenied", laid_bollard_api_ErrDenied), ("bollard/api.ErrSkew", laid_bollard_api_ErrSkew), ("bollard/api.ErrMethod", laid_bollard_api_ErrMethod), ("bollard/api.ErrState", laid_bollard_api_ErrState)] }
def NetPlaysSaid : Prop := netPlaysRow.holds Tryd.pinned (OpenSpec.ofChange netPlaysSpec)

/-- ITS FALSE NEIGHBOUR: 'it returns false'. Refute it at one input. -/
def netPlaysWrong : ChangeSpec := { name := "netPlays", fn := fun _ => fun
  | [d] => { results := [.lit (.bool false)], args := [d] }
  | _ => none }
def NetPlaysWrongFalsely : Prop := netPlaysRow.holds Tryd.pinned (OpenSpec.ofChange netPlaysWrong)

/-- 'bollardlaw02.RsSizes': WHATEVER THE INPUT: true; the input reads as it did. -/
def rsSizesSpec : ChangeSpec := { name := "rsSizes", fn := fun _ => fun
  | [d1, d2, d3] => { results := [.lit (.bool true)], args := [d1, d2, d3] }
  | _ => none }
def rsSizesRow : OpenClaim := { program := "ytlgcclhepegggaadoor", sum := "48531b78000e7bcd5d4e51d5211fd6e33a966e425b892e82cf6b477428d84c33", func := "bollard/bollardlaw02.RsSizes", spec := "rsSizes", unfollowed := true, recurses := true, named := ["bollard/api.ErrParams", "bollard/api.ErrNumber", "bollard/api.ErrLarge", "bollard/api.ErrData", "bollard/api.ErrLost", "bollard/api.ErrBytes", "bollard/api.ErrDigest", "bollard/api.ErrName", "bollard/api.ErrGone", "bollard/api.ErrThere", "bollard/api.ErrFull", "bollard/api.ErrBallot", "bollard/api.ErrRequest", "bollard/api.ErrUri", "bollard/api.ErrDenied", "bollard/api.ErrSkew", "bollard/api.ErrMethod", "bollard/api.ErrState"], apart := false, laid := [("bollard/api.ErrParams", laid_bollard_api_ErrParams), ("bollard/api.ErrNumber", laid_bollard_api_ErrNumber), ("bollard/api.ErrData", laid_bollard_api_ErrData), ("bollard/api.ErrLost", laid_bollard_api_ErrLost), ("bollard/api.ErrBytes", laid_bollard_api_ErrBytes), ("bollard/api.ErrDigest", laid_bollard_api_ErrDigest), ("bollard/api.ErrName", laid_bollard_api_ErrName), ("bollard/api.ErrGone", laid_bollard_api_ErrGone), ("bollard/api.ErrThere", laid_bollard_api_ErrThere), ("bollard/api.ErrFull", laid_bollard_api_ErrFull), ("bollard/api.ErrLarge", laid_bollard_api_ErrLarge), ("bollard/api.ErrBallot", laid_bollard_api_ErrBallot), ("bollard/api.ErrRequest", laid_bollard_api_ErrRequest), ("bollard/api.ErrUri", laid_bollard_api_ErrUri), ("bollard/api.ErrDenied", laid_bollard_api_ErrDenied), ("bollard/api.ErrSkew", laid_bollard_api_ErrSkew), ("bollard/api.ErrMethod", laid_bollard_api_ErrMethod), ("bollard/api.ErrState", laid_bollard_api_ErrState)] }
def RsSizesSaid : Prop := rsSizesRow.holds Tryd.pinned (OpenSpec.ofChange rsSizesSpec)

/-- ITS FALSE NEIGHBOUR: 'it returns false'. Refute it at one input. -/
def rsSizesWrong : ChangeSpec := { name := "rsSizes", fn := fun _ => fun
  | [d1, d2, d3] => { results := [.lit (.bool false)], args := [d1, d2, d3] }
  | _ => none }
def RsSizesWrongFalsely : Prop := rsSizesRow.holds Tryd.pinned (OpenSpec.ofChange rsSizesWrong)

/-- 'bollardlaw02.RsEncodes': WHATEVER THE INPUT: true; the input reads as it did. -/
def rsEncodesSpec : ChangeSpec := { name := "rsEncodes", fn := fun _ => fun
  | [d1, d2, d3] => { results := [.lit (.bool true)], args := [d1, d2, d3] }
  | _ => none }
def rsEncodesRow : OpenClaim := { program := "ytlgcclhepegggaadoor", sum := "48531b78000e7bcd5d4e51d5211fd6e33a966e425b892e82cf6b477428d84c33", func := "bollard/bollardlaw02.RsEncodes", spec := "rsEncodes", unfollowed := true, recurses := true, named := ["bollard/api.ErrNumber", "bollard/api.ErrLarge", "bollard/api.ErrParams", "bollard/api.ErrData", "bollard/api.ErrLost", "bollard/api.ErrBytes", "bollard/api.ErrDigest", "bollard/api.ErrName", "bollard/api.ErrGone", "bollard/api.ErrThere", "bollard/api.ErrFull", "bollard/api.ErrBallot", "bollard/api.ErrRequest", "bollard/api.ErrUri", "bollard/api.ErrDenied", "bollard/api.ErrSkew", "bollard/api.ErrMethod", "bollard/api.ErrState"], apart := false, laid := [("bollard/api.ErrParams", laid_bollard_api_ErrParams), ("bollard/api.ErrNumber", laid_bollard_api_ErrNumber), ("bollard/api.ErrData", laid_bollard_api_ErrData), ("bollard/api.ErrLost", laid_bollard_api_ErrLost), ("bollard/api.ErrBytes", laid_bollard_api_ErrBytes), ("bollard/api.ErrDigest", laid_bollard_api_ErrDigest), ("bollard/api.ErrName", laid_bollard_api_ErrName), ("bollard/api.ErrGone", laid_bollard_api_ErrGone), ("bollard/api.ErrThere", laid_bollard_api_ErrThere), ("bollard/api.ErrFull", laid_bollard_api_ErrFull), ("bollard/api.ErrLarge", laid_bollard_api_ErrLarge), ("bollard/api.ErrBallot", laid_bollard_api_ErrBallot), ("bollard/api.ErrRequest", laid_bollard_api_ErrRequest), ("bollard/api.ErrUri", laid_bollard_api_ErrUri), ("bollard/api.ErrDenied", laid_bollard_api_ErrDenied), ("bollard/api.ErrSkew", laid_bollard_api_ErrSkew), ("bollard/api.ErrMethod", laid_bollard_api_ErrMethod), ("bollard/api.ErrState", laid_bollard_api_ErrState)] }
def RsEncodesSaid : Prop := rsEncodesRow.holds Tryd.pinned (OpenSpec.ofChange rsEncodesSpec)

/-- ITS FALSE NEIGHBOUR: 'it returns false'. Refute it at one input. -/
def rsEncodesWrong : ChangeSpec := { name := "rsEncodes", fn := fun _ => fun
  | [d1, d2, d3] => { results := [.lit (.bool false)], args := [d1, d2, d3] }
  | _ => none }
def RsEncodesWrongFalsely : Prop := rsEncodesRow.holds Tryd.pinned (OpenSpec.ofChange rsEncodesWrong)

/-- 'bollardlaw02.RsLinear': WHATEVER THE INPUT: true; the input reads as it did. -/
def rsLinearSpec : ChangeSpec := { name := "rsLinear", fn := fun _ => fun
  | [d] => { results := [.lit (.bool true)], args := [d] }
  | _ => none }
def rsLinearRow : OpenClaim := { program := "ytlgcclhepegggaadoor", sum := "48531b78000e7bcd5d4e51d5211fd6e33a966e425b892e82cf6b477428d84c33", func := "bollard/bollardlaw02.RsLinear", spec := "rsLinear", unfollowed := true, recurses := true, named := ["bollard/api.ErrNumber", "bollard/api.ErrLarge", "bollard/api.ErrParams", "bollard/api.ErrData"], apart := false, laid := [("bollard/api.ErrParams", laid_bollard_api_ErrParams), ("bollard/api.ErrNumber", laid_bollard_api_ErrNumber), ("bollard/api.ErrData", laid_bollard_api_ErrData), ("bollard/api.ErrLarge", laid_bollard_api_ErrLarge)] }
def RsLinearSaid : Prop := rsLinearRow.holds Tryd.pinned (OpenSpec.ofChange rsLinearSpec)

/-- ITS FALSE NEIGHBOUR: 'it returns false'. Refute it at one input. -/
def rsLinearWrong : ChangeSpec := { name := "rsLinear", fn := fun _ => fun
  | [d] => { results := [.lit (.bool false)], args := [d] }
  | _ => none }
def RsLinearWrongFalsely : Prop := rsLinearRow.holds Tryd.pinned (OpenSpec.ofChange rsLinearWrong)

/-- 'bollardlaw02.RsFew': WHATEVER THE INPUT: true; the input reads as it did. -/
def rsFewSpec : ChangeSpec := { name := "rsFew", fn := fun _ => fun
  | [d1, d2] => { results := [.lit (.bool true)], args := [d1, d2] }
  | _ => none }
def rsFewRow : OpenClaim := { program := "ytlgcclhepegggaadoor", sum := "48531b78000e7bcd5d4e51d5211fd6e33a966e425b892e82cf6b477428d84c33", func := "bollard/bollardlaw02.RsFew", spec := "rsFew", unfollowed := true, recurses := true, named := ["bollard/api.ErrData", "bollard/api.ErrNumber", "bollard/api.ErrLarge", "bollard/api.ErrParams"], apart := false, laid := [("bollard/api.ErrParams", laid_bollard_api_ErrParams), ("bollard/api.ErrNumber", laid_bollard_api_ErrNumber), ("bollard/api.ErrData", laid_bollard_api_ErrData), ("bollard/api.ErrLarge", laid_bollard_api_ErrLarge)] }
def RsFewSaid : Prop := rsFewRow.holds Tryd.pinned (OpenSpec.ofChange rsFewSpec)

/-- ITS FALSE NEIGHBOUR: 'it returns false'. Refute it at one input. -/
def rsFewWrong : ChangeSpec := { name := "rsFew", fn := fun _ => fun
  | [d1, d2] => { results := [.lit (.bool false)], args := [d1, d2] }
  | _ => none }
def RsFewWrongFalsely : Prop := rsFewRow.holds Tryd.pinned (OpenSpec.ofChange rsFewWrong)

/-- 'bollardlaw02.RsSystematic': WHATEVER THE INPUT: true; the input reads as it did. -/
def rsSystematicSpec : ChangeSpec := { name := "rsSystematic", fn := fun _ => fun
  | [d1, d2, d3] => { results := [.lit (.bool true)], args := [d1, d2, d3] }
  | _ => none }
def rsSystematicRow : OpenClaim := { program := "ytlgcclhepegggaadoor", sum := "48531b78000e7bcd5d4e51d5211fd6e33a966e425b892e82cf6b477428d84c33", func := "bollard/bollardlaw02.RsSystematic", spec := "rsSystematic", unfollowed := true, recurses := true, named := ["bollard/api.ErrNumber", "bollard/api.ErrLarge", "bollard/api.ErrParams", "bollard/api.ErrData"], apart := false, laid := [("bollard/api.ErrParams", laid_bollard_api_ErrParams), ("bollard/api.ErrNumber", laid_bollard_api_ErrNumber), ("bollard/api.ErrData", laid_bollard_api_ErrData), ("bollard/api.ErrLarge", laid_bollard_api_ErrLarge)] }
def RsSystematicSaid : Prop := rsSystematicRow.holds Tryd.pinned (OpenSpec.ofChange rsSystematicSpec)

/-- ITS FALSE NEIGHBOUR: 'it returns false'. Refute it at one input. -/
def rsSystematicWrong : ChangeSpec := { name := "rsSystematic", fn := fun _ => fun
  | [d1, d2, d3] => { results := [.lit (.bool false)], args := [d1, d2, d3] }
  | _ => none }
def RsSystematicWrongFalsely : Prop := rsSystematicRow.holds Tryd.pinned (OpenSpec.ofChange rsSystematicWrong)

/-- 'bollardlaw02.RsAny': WHATEVER THE INPUT: true; the input reads as it did. -/
def rsAnySpec : ChangeSpec := { name := "rsAny", fn := fun _ => fun
  | [d] => { results := [.lit (.bool true)], args := [d] }
  | _ => none }
def rsAnyRow : OpenClaim := { program := "ytlgcclhepegggaadoor", sum := "48531b78000e7bcd5d4e51d5211fd6e33a966e425b892e82cf6b477428d84c33", func := "bollard/bollardlaw02.RsAny", spec := "rsAny", unfollowed := true, recurses := true, named := ["bollard/api.ErrNumber", "bollard/api.ErrLarge", "bollard/api.ErrParams", "bollard/api.ErrData"], apart := false, laid := [("bollard/api.ErrParams", laid_bollard_api_ErrParams), ("bollard/api.ErrNumber", laid_bollard_api_ErrNumber), ("bollard/api.ErrData", laid_bollard_api_ErrData), ("bollard/api.ErrLarge", laid_bollard_api_ErrLarge)] }
def RsAnySaid : Prop := rsAnyRow.holds Tryd.pinned (OpenSpec.ofChange rsAnySpec)

/-- ITS FALSE NEIGHBOUR: 'it returns false'. Refute it at one input. -/
def rsAnyWrong : ChangeSpec := { name := "rsAny", fn := fun _ => fun
  | [d] => { results := [.lit (.bool false)], args := [d] }
  | _ => none }
def RsAnyWrongFalsely : Prop := rsAnyRow.holds Tryd.pinned (OpenSpec.ofChange rsAnyWrong)

/- THE SECOND FORM. 'bulk': how many values and letters a reading holds, each counted each time it is reached (what is shared counts as often as it is met; a slice's spare places count too). A statement '..UptoSaid' is the law's where the arguments, and the package variables that the reading takes, are together of bulk at most 1048576: NARROWER than '..Said'. Prove '..Said' where nothing that the law and all that it calls make is longer than what came in: it says more and counts as full. Else prove '..UptoSaid'. A law counts once. -/
mutual
def uptoBulk {H : Type} : DataW H → Nat
  | .lit (.string bytes) => bytes.length + 1
  | .lit _ => 1
  | .nil => 1
  | .ptr d => uptoBulk d + 1
  | .slice elems spare => uptoBulkAll elems + uptoBulkAll spare + 1
  | .agg parts => uptoBulkAll parts + 1
  | .iface _ d => uptoBulk d + 1
  | .map entries => uptoBulkEntries entries + 1
  | .held _ => 1
def uptoBulkAll {H : Type} : List (DataW H) → Nat
  | [] => 0
  | d :: r => uptoBulk d + uptoBulkAll r
def uptoBulkEntries {H : Type} : List (Lit × DataW H) → Nat
  | [] => 0
  | x :: r => uptoBulkEntry x + uptoBulkEntries r
def uptoBulkEntry {H : Type} : Lit × DataW H → Nat
  | (.string bytes, d) => bytes.length + uptoBulk d + 1
  | (_, d) => uptoBulk d + 1
 end
def uptoSmall : (H : Type) → List (DataW H) → Bool := fun _ ds => decide (uptoBulkAll ds ≤ 1048576)
def OpenSpec.upto (s : _root_.Go.ChangeSpec) : _root_.Go.OpenSpec := { _root_.Go.OpenSpec.ofChange s with cond := some uptoSmall }

/-- 'bollardlaw14.NetOrders', WHERE WHAT IT READS IS OF BULK AT MOST 1048576: true; the input reads as it did. -/
def netOrdersUptoRow : OpenClaim := { program := "ytlgcclhepegggaadoor", sum := "48531b78000e7bcd5d4e51d5211fd6e33a966e425b892e82cf6b477428d84c33", func := "bollard/bollardlaw14.NetOrders", spec := "netOrders", unfollowed := true, recurses := true, named := ["bollard/api.ErrGone", "bollard/api.ErrNumber", "bollard/api.ErrFull"], apart := false, laid := [("bollard/api.ErrNumber", laid_bollard_api_ErrNumber), ("bollard/api.ErrGone", laid_bollard_api_ErrGone), ("bollard/api.ErrFull", laid_bollard_api_ErrFull)], narrowed := true }
def NetOrdersUptoSaid : Prop := netOrdersUptoRow.holds Tryd.pinned (OpenSpec.upto netOrdersSpec)

/-- 'bollardlaw14.NetCounts', WHERE WHAT IT READS IS OF BULK AT MOST 1048576: true; the input reads as it did. -/
def netCountsUptoRow : OpenClaim := { program := "ytlgcclhepegggaadoor", sum := "48531b78000e7bcd5d4e51d5211fd6e33a966e425b892e82cf6b477428d84c33", func := "bollard/bollardlaw14.NetCounts", spec := "netCounts", unfollowed := true, recurses := true, named := ["bollard/api.ErrGone", "bollard/api.ErrNumber", "bollard/api.ErrFull"], apart := false, laid := [("bollard/api.ErrNumber", laid_bollard_api_ErrNumber), ("bollard/api.ErrGone", laid_bollard_api_ErrGone), ("bollard/api.ErrFull", laid_bollard_api_ErrFull)], narrowed := true }
def NetCountsUptoSaid : Prop := netCountsUptoRow.holds Tryd.pinned (OpenSpec.upto netCountsSpec)

/-- 'bollardlaw14.NetPlays', WHERE WHAT IT READS IS OF BULK AT MOST 1048576: true; the input reads as it did. -/
def netPlaysUptoRow : OpenClaim := { program := "ytlgcclhepegggaadoor", sum := "48531b78000e7bcd5d4e51d5211fd6e33a966e425b892e82cf6b477428d84c33", func := "bollard/bollardlaw14.NetPlays", spec := "netPlays", unfollowed := true, recurses := true, named := ["bollard/api.ErrGone", "bollard/api.ErrNumber", "bollard/api.ErrFull", "bollard/api.ErrParams", "bollard/api.ErrData", "bollard/api.ErrLost", "bollard/api.ErrBytes", "bollard/api.ErrDigest", "bollard/api.ErrName", "bollard/api.ErrThere", "bollard/api.ErrLarge", "bollard/api.ErrBallot", "bollard/api.ErrRequest", "bollard/api.ErrUri", "bollard/api.ErrDenied", "bollard/api.ErrSkew", "bollard/api.ErrMethod", "bollard/api.ErrState"], apart := false, laid := [("bollard/api.ErrParams", laid_bollard_api_ErrParams), ("bollard/api.ErrNumber", laid_bollard_api_ErrNumber), ("bollard/api.ErrData", laid_bollard_api_ErrData), ("bollard/api.ErrLost", laid_bollard_api_ErrLost), ("bollard/api.ErrBytes", laid_bollard_api_ErrBytes), ("bollard/api.ErrDigest", laid_bollard_api_ErrDigest), ("bollard/api.ErrName", laid_bollard_api_ErrName), ("bollard/api.ErrGone", laid_bollard_api_ErrGone), ("bollard/api.ErrThere", laid_bollard_api_ErrThere), ("bollard/api.ErrFull", laid_bollard_api_ErrFull), ("bollard/api.ErrLarge", laid_bollard_api_ErrLarge), ("bollard/api.ErrBallot", laid_bollard_api_ErrBallot), ("bollard/api.ErrRequest", laid_bollard_api_ErrRequest), ("bollard/api.ErrUri", laid_bollard_api_ErrUri), ("bollard/api.ErrDenied", laid_bollard_api_ErrDenied), ("bollard/api.ErrSkew", laid_bollard_api_ErrSkew), ("bollard/api.ErrMethod", laid_bollard_api_ErrMethod), ("bollard/api.ErrState", laid_bollard_api_ErrState)], narrowed := true }
def NetPlaysUptoSaid : Prop := netPlaysUptoRow.holds Tryd.pinned (OpenSpec.upto netPlaysSpec)

/-- 'bollardlaw02.RsSizes', WHERE WHAT IT READS IS OF BULK AT MOST 1048576: true; the input reads as it did. -/
def rsSizesUptoRow : OpenClaim := { program := "ytlgcclhepegggaadoor", sum := "48531b78000e7bcd5d4e51d5211fd6e33a966e425b892e82cf6b477428d84c33", func := "bollard/bollardlaw02.RsSizes", spec := "rsSizes", unfollowed := true, recurses := true, named := ["bollard/api.ErrParams", "bollard/api.ErrNumber", "bollard/api.ErrLarge", "bollard/api.ErrData", "bollard/api.ErrLost", "bollard/api.ErrBytes", "bollard/api.ErrDigest", "bollard/api.ErrName", "bollard/api.ErrGone", "bollard/api.ErrThere", "bollard/api.ErrFull", "bollard/api.ErrBallot", "bollard/api.ErrRequest", "bollard/api.ErrUri", "bollard/api.ErrDenied", "bollard/api.ErrSkew", "bollard/api.ErrMethod", "bollard/api.ErrState"], apart := false, laid := [("bollard/api.ErrParams", laid_bollard_api_ErrParams), ("bollard/api.ErrNumber", laid_bollard_api_ErrNumber), ("bollard/api.ErrData", laid_bollard_api_ErrData), ("bollard/api.ErrLost", laid_bollard_api_ErrLost), ("bollard/api.ErrBytes", laid_bollard_api_ErrBytes), ("bollard/api.ErrDigest", laid_bollard_api_ErrDigest), ("bollard/api.ErrName", laid_bollard_api_ErrName), ("bollard/api.ErrGone", laid_bollard_api_ErrGone), ("bollard/api.ErrThere", laid_bollard_api_ErrThere), ("bollard/api.ErrFull", laid_bollard_api_ErrFull), ("bollard/api.ErrLarge", laid_bollard_api_ErrLarge), ("bollard/api.ErrBallot", laid_bollard_api_ErrBallot), ("bollard/api.ErrRequest", laid_bollard_api_ErrRequest), ("bollard/api.ErrUri", laid_bollard_api_ErrUri), ("bollard/api.ErrDenied", laid_bollard_api_ErrDenied), ("bollard/api.ErrSkew", laid_bollard_api_ErrSkew), ("bollard/api.ErrMethod", laid_bollard_api_ErrMethod), ("bollard/api.ErrState", laid_bollard_api_ErrState)], narrowed := true }
def RsSizesUptoSaid : Prop := rsSizesUptoRow.holds Tryd.pinned (OpenSpec.upto rsSizesSpec)

/-- 'bollardlaw02.RsEncodes', WHERE WHAT IT READS IS OF BULK AT MOST 1048576: true; the input reads as it did. -/
def rsEncodesUptoRow : OpenClaim := { program := "ytlgcclhepegggaadoor", sum := "48531b78000e7bcd5d4e51d5211fd6e33a966e425b892e82cf6b477428d84c33", func := "bollard/bollardlaw02.RsEncodes", spec := "rsEncodes", unfollowed := true, recurses := true, named := ["bollard/api.ErrNumber", "bollard/api.ErrLarge", "bollard/api.ErrParams", "bollard/api.ErrData", "bollard/api.ErrLost", "bollard/api.ErrBytes", "bollard/api.ErrDigest", "bollard/api.ErrName", "bollard/api.ErrGone", "bollard/api.ErrThere", "bollard/api.ErrFull", "bollard/api.ErrBallot", "bollard/api.ErrRequest", "bollard/api.ErrUri", "bollard/api.ErrDenied", "bollard/api.ErrSkew", "bollard/api.ErrMethod", "bollard/api.ErrState"], apart := false, laid := [("bollard/api.ErrParams", laid_bollard_api_ErrParams), ("bollard/api.ErrNumber", laid_bollard_api_ErrNumber), ("bollard/api.ErrData", laid_bollard_api_ErrData), ("bollard/api.ErrLost", laid_bollard_api_ErrLost), ("bollard/api.ErrBytes", laid_bollard_api_ErrBytes), ("bollard/api.ErrDigest", laid_bollard_api_ErrDigest), ("bollard/api.ErrName", laid_bollard_api_ErrName), ("bollard/api.ErrGone", laid_bollard_api_ErrGone), ("bollard/api.ErrThere", laid_bollard_api_ErrThere), ("bollard/api.ErrFull", laid_bollard_api_ErrFull), ("bollard/api.ErrLarge", laid_bollard_api_ErrLarge), ("bollard/api.ErrBallot", laid_bollard_api_ErrBallot), ("bollard/api.ErrRequest", laid_bollard_api_ErrRequest), ("bollard/api.ErrUri", laid_bollard_api_ErrUri), ("bollard/api.ErrDenied", laid_bollard_api_ErrDenied), ("bollard/api.ErrSkew", laid_bollard_api_ErrSkew), ("bollard/api.ErrMethod", laid_bollard_api_ErrMethod), ("bollard/api.ErrState", laid_bollard_api_ErrState)], narrowed := true }
def RsEncodesUptoSaid : Prop := rsEncodesUptoRow.holds Tryd.pinned (OpenSpec.upto rsEncodesSpec)

/-- 'bollardlaw02.RsLinear', WHERE WHAT IT READS IS OF BULK AT MOST 1048576: true; the input reads as it did. -/
def rsLinearUptoRow : OpenClaim := { program := "ytlgcclhepegggaadoor", sum := "48531b78000e7bcd5d4e51d5211fd6e33a966e425b892e82cf6b477428d84c33", func := "bollard/bollardlaw02.RsLinear", spec := "rsLinear", unfollowed := true, recurses := true, named := ["bollard/api.ErrNumber", "bollard/api.ErrLarge", "bollard/api.ErrParams", "bollard/api.ErrData"], apart := false, laid := [("bollard/api.ErrParams", laid_bollard_api_ErrParams), ("bollard/api.ErrNumber", laid_bollard_api_ErrNumber), ("bollard/api.ErrData", laid_bollard_api_ErrData), ("bollard/api.ErrLarge", laid_bollard_api_ErrLarge)], narrowed := true }
def RsLinearUptoSaid : Prop := rsLinearUptoRow.holds Tryd.pinned (OpenSpec.upto rsLinearSpec)

/-- 'bollardlaw02.RsFew', WHERE WHAT IT READS IS OF BULK AT MOST 1048576: true; the input reads as it did. -/
def rsFewUptoRow : OpenClaim := { program := "ytlgcclhepegggaadoor", sum := "48531b78000e7bcd5d4e51d5211fd6e33a966e425b892e82cf6b477428d84c33", func := "bollard/bollardlaw02.RsFew", spec := "rsFew", unfollowed := true, recurses := true, named := ["bollard/api.ErrData", "bollard/api.ErrNumber", "bollard/api.ErrLarge", "bollard/api.ErrParams"], apart := false, laid := [("bollard/api.ErrParams", laid_bollard_api_ErrParams), ("bollard/api.ErrNumber", laid_bollard_api_ErrNumber), ("bollard/api.ErrData", laid_bollard_api_ErrData), ("bollard/api.ErrLarge", laid_bollard_api_ErrLarge)], narrowed := true }
def RsFewUptoSaid : Prop := rsFewUptoRow.holds Tryd.pinned (OpenSpec.upto rsFewSpec)

/-- 'bollardlaw02.RsSystematic', WHERE WHAT IT READS IS OF BULK AT MOST 1048576: true; the input reads as it did. -/
def rsSystematicUptoRow : OpenClaim := { program := "ytlgcclhepegggaadoor", sum := "48531b78000e7bcd5d4e51d5211fd6e33a966e425b892e82cf6b477428d84c33", func := "bollard/bollardlaw02.RsSystematic", spec := "rsSystematic", unfollowed := true, recurses := true, named := ["bollard/api.ErrNumber", "bollard/api.ErrLarge", "bollard/api.ErrParams", "bollard/api.ErrData"], apart := false, laid := [("bollard/api.ErrParams", laid_bollard_api_ErrParams), ("bollard/api.ErrNumber", laid_bollard_api_ErrNumber), ("bollard/api.ErrData", laid_bollard_api_ErrData), ("bollard/api.ErrLarge", laid_bollard_api_ErrLarge)], narrowed := true }
def RsSystematicUptoSaid : Prop := rsSystematicUptoRow.holds Tryd.pinned (OpenSpec.upto rsSystematicSpec)

/-- 'bollardlaw02.RsAny', WHERE WHAT IT READS IS OF BULK AT MOST 1048576: true; the input reads as it did. -/
def rsAnyUptoRow : OpenClaim := { program := "ytlgcclhepegggaadoor", sum := "48531b78000e7bcd5d4e51d5211fd6e33a966e425b892e82cf6b477428d84c33", func := "bollard/bollardlaw02.RsAny", spec := "rsAny", unfollowed := true, recurses := true, named := ["bollard/api.ErrNumber", "bollard/api.ErrLarge", "bollard/api.ErrParams", "bollard/api.ErrData"], apart := false, laid := [("bollard/api.ErrParams", laid_bollard_api_ErrParams), ("bollard/api.ErrNumber", laid_bollard_api_ErrNumber), ("bollard/api.ErrData", laid_bollard_api_ErrData), ("bollard/api.ErrLarge", laid_bollard_api_ErrLarge)], narrowed := true }
def RsAnyUptoSaid : Prop := rsAnyUptoRow.holds Tryd.pinned (OpenSpec.upto rsAnySpec)

end Rows
end Go.Proofs.YtlgcclhepegggaaDoor
