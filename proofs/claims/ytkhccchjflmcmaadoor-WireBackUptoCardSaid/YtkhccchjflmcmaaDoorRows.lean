/-
  NARROWER THAN 'FOR EVERY INPUT', by the rows' own cells (each row's printed sentence says how): WireNumbers: laid · WireWrites: laid · WireSpoilt: laid · WireReads: laid · WireBack: laid · WireSums: laid · WireSlips: laid.
  DERIVED. THE GIVEN ROWS OF THIS SEAT. 7 by the template 'for every input the law returns true; each argument reads behind the call as it read before'; 0 by the template 'total and deterministic' (their statements: YtkhccchjflmcmaaDoorTotals.lean).
  GIVEN WITH THE SEED: the statements are not yours to turn. If you find one false, say at which input.
  Laid BY PROGRAM, IN A SANDBOX (cutbox-rows.mjs): the forced cells as the released guide's own fill.sh prints them over the translation 2d16ad410cfd75c3… (all of the seat's roots in one cut). By AI agents, Wed Nov 11 2026. No macro, syntax, notation, axiom, sorry.
-/
import Derived.Test.YtkhccchjflmcmaaDoorChecked
import GoSem.Claim
import GoSem.ClaimJoined
import GoSem.ClaimMapViews
import Derived.JoinedTies
import Derived.KernelRfl
namespace Go.Proofs.YtkhccchjflmcmaaDoor
/- THE CELL 'sum', in the pinned program and in every row, IS THE sha256 OF THE DUMP (.gsa) THAT YtkhccchjflmcmaaDoorProg.lean LOADS. Nothing in Lean hashes anything: it is a label: what it is worth is what the hold of that sum in a sandbox is worth. -/
noncomputable def Tryd.pinned : Pinned := { name := "ytkhccchjflmcmaadoor", sum := "2d16ad410cfd75c3f32bf2ea559670dc17a35fb8012b78aa9c61f7d6121ad4c9", checked := Tryd.checked }
namespace Rows
def none {H : Type} : Left H := { results := [], args := [] }

/- WHAT THE LISTED PACKAGE-LEVEL VARIABLES READ AS WHEN THE CALL BEGINS. Each datum BY PROGRAM (the guide's laid-datum.mjs) off the statement by which the dump's own 'gosem.cut.vars' lays the variable. In a bare row this is a premise. The card (YtkhccchjflmcmaaDoorCards.lean) ties it to the program's text. -/
def laid_bollard_api_ErrNumber {H : Type} : DataW H := .iface "*errors.errorString" (.ptr (.agg [.lit (.string [98, 111, 108, 108, 97, 114, 100, 58, 32, 110, 117, 109, 98, 101, 114])]))
def laid_bollard_api_ErrParams {H : Type} : DataW H := .iface "*errors.errorString" (.ptr (.agg [.lit (.string [98, 111, 108, 108, 97, 114, 100, 58, 32, 112, 97, 114, 97, 109, 115])]))
def laid_bollard_api_ErrData {H : Type} : DataW H := .iface "*errors.errorString" (.ptr (.agg [.lit (.string [98, 111, 108, 108, 97, 114, 100, 58, 32, 100, 97, 116, 97])]))
def laid_bollard_api_ErrLost {H : Type} : DataW H := .iface "*errors.errorString" (.ptr (.agg [.lit (.string [98, 111, 108, 108, 97, 114, 100, 58, 32, 108, 111, 115, 116])]))
def laid_bollard_api_ErrBytes {H : Type} : DataW H := .iface "*errors.errorString" (.ptr (.agg [.lit (.string [98, 111, 108, 108, 97, 114, 100, 58, 32, 98, 121, 116, 101, 115])]))
def laid_bollard_api_ErrDigest {H : Type} : DataW H := .iface "*errors.errorString" (.ptr (.agg [.lit (.string [98, 111, 108, 108, 97, 114, 100, 58, 32, 100, 105, 103, 101, 115, 116])]))
def laid_bollard_api_ErrName {H : Type} : DataW H := .iface "*errors.errorString" (.ptr (.agg [.lit (.string [98, 111, 108, 108, 97, 114, 100, 58, 32, 110, 97, 109, 101])]))
def laid_bollard_api_ErrGone {H : Type} : DataW H := .iface "*errors.errorString" (.ptr (.agg [.lit (.string [98, 111, 108, 108, 97, 114, 100, 58, 32, 103, 111, 110, 101])]))
def laid_bollard_api_ErrThere {H : Type} : DataW H := .iface "*errors.errorString" (.ptr (.agg [.lit (.string [98, 111, 108, 108, 97, 114, 100, 58, 32, 116, 104, 101, 114, 101])]))
def laid_bollard_api_ErrFull {H : Type} : DataW H := .iface "*errors.errorString" (.ptr (.agg [.lit (.string [98, 111, 108, 108, 97, 114, 100, 58, 32, 102, 117, 108, 108])]))
def laid_bollard_api_ErrLarge {H : Type} : DataW H := .iface "*errors.errorString" (.ptr (.agg [.lit (.string [98, 111, 108, 108, 97, 114, 100, 58, 32, 108, 97, 114, 103, 101])]))
def laid_bollard_api_ErrBallot {H : Type} : DataW H := .iface "*errors.errorString" (.ptr (.agg [.lit (.string [98, 111, 108, 108, 97, 114, 100, 58, 32, 98, 97, 108, 108, 111, 116])]))
def laid_bollard_api_ErrRequest {H : Type} : DataW H := .iface "*errors.errorString" (.ptr (.agg [.lit (.string [98, 111, 108, 108, 97, 114, 100, 58, 32, 114, 101, 113, 117, 101, 115, 116])]))
def laid_bollard_api_ErrUri {H : Type} : DataW H := .iface "*errors.errorString" (.ptr (.agg [.lit (.string [98, 111, 108, 108, 97, 114, 100, 58, 32, 117, 114, 105])]))
def laid_bollard_api_ErrDenied {H : Type} : DataW H := .iface "*errors.errorString" (.ptr (.agg [.lit (.string [98, 111, 108, 108, 97, 114, 100, 58, 32, 100, 101, 110, 105, 101, 100])]))
def laid_bollard_api_ErrSkew {H : Type} : DataW H := .iface "*errors.errorString" (.ptr (.agg [.lit (.string [98, 111, 108, 108, 97, 114, 100, 58, 32, 115, 107, 101, 119])]))
def laid_bollard_api_ErrMethod {H : Type} : DataW H := .iface "*errors.errorString" (.ptr (.agg [.lit (.string [98, 111, 108, 108, 97, 114, 100, 58, 32, 109, 101, 116, 104, 111, 100])]))
def laid_bollard_api_ErrState {H : Type} : DataW H := .iface "*errors.errorString" (.ptr (.agg [.lit (.string [98, 111, 108, 108, 97, 114, 100, 58, 32, 115, 116, 97, 116, 101])]))

/-- 'bollardlaw05.WireNumbers': WHATEVER THE INPUT: true; the input reads as it did. -/
def wireNumbersSpec : ChangeSpec := { name := "wireNumbers", fn := fun _ => fun
  | [d1, d2] => { results := [.lit (.bool true)], args := [d1, d2] }
  | _ => none }
def wireNumbersRow : OpenClaim := { program := "ytkhccchjflmcmaadoor", sum := "2d16ad410cfd75c3f32bf2ea559670dc17a35fb8012b78aa9c61f7d6121ad4c9", func := "bollard/bollardlaw05.WireNumbers", spec := "wireNumbers", named := ["bollard/api.ErrNumber"], apart := false, laid := [("bollard/api.ErrNumber", laid_bollard_api_ErrNumber)] }
def WireNumbersSaid : Prop := wireNumbersRow.holds Tryd.pinned (OpenSpec.ofChange wireNumbersSpec)

/-- ITS FALSE NEIGHBOUR: 'it returns false'. Refute it at one input. -/
def wireNumbersWrong : ChangeSpec := { name := "wireNumbers", fn := fun _ => fun
  | [d1, d2] => { results := [.lit (.bool false)], args := [d1, d2] }
  | _ => none }
def WireNumbersWrongFalsely : Prop := wireNumbersRow.holds Tryd.pinned (OpenSpec.ofChange wireNumbersWrong)

/-- 'bollardlaw05.WireWrites': WHATEVER THE INPUT: true; the input reads as it did. -/
def wireWritesSpec : ChangeSpec := { name := "wireWrites", fn := fun _ => fun
  | [d] => { results := [.lit (.bool true)], args := [d] }
  | _ => none }
def wireWritesRow : OpenClaim := { program := "ytkhccchjflmcmaadoor", sum := "2d16ad410cfd75c3f32bf2ea559670dc17a35fb8012b78aa9c61f7d6121ad4c9", func := "bollard/bollardlaw05.WireWrites", spec := "wireWrites", named := ["bollard/api.ErrNumber"], apart := false, laid := [("bollard/api.ErrNumber", laid_bollard_api_ErrNumber)] }
def WireWritesSaid : Prop := wireWritesRow.holds Tryd.pinned (OpenSpec.ofChange wireWritesSpec)

/-- ITS FALSE NEIGHBOUR: 'it returns false'. Refute it at one input. -/
def wireWritesWrong : ChangeSpec := { name := "wireWrites", fn := fun _ => fun
  | [d] => { results := [.lit (.bool false)], args := [d] }
  | _ => none }
def WireWritesWrongFalsely : Prop := wireWritesRow.holds Tryd.pinned (OpenSpec.ofChange wireWritesWrong)

/-- 'bollardlaw05.WireSpoilt': WHATEVER THE INPUT: true; the input reads as it did. -/
def wireSpoiltSpec : ChangeSpec := { name := "wireSpoilt", fn := fun _ => fun
  | [d1, d2] => { results := [.lit (.bool true)], args := [d1, d2] }
  | _ => none }
def wireSpoiltRow : OpenClaim := { program := "ytkhccchjflmcmaadoor", sum := "2d16ad410cfd75c3f32bf2ea559670dc17a35fb8012b78aa9c61f7d6121ad4c9", func := "bollard/bollardlaw05.WireSpoilt", spec := "wireSpoilt", named := ["bollard/api.ErrNumber"], apart := false, laid := [("bollard/api.ErrNumber", laid_bollard_api_ErrNumber)] }
def WireSpoiltSaid : Prop := wireSpoiltRow.holds Tryd.pinned (OpenSpec.ofChange wireSpoiltSpec)

/-- ITS FALSE NEIGHBOUR: 'it returns false'. Refute it at one input. -/
def wireSpoiltWrong : ChangeSpec := { name := "wireSpoilt", fn := fun _ => fun
  | [d1, d2] => { results := [.lit (.bool false)], args := [d1, d2] }
  | _ => none }
def WireSpoiltWrongFalsely : Prop := wireSpoiltRow.holds Tryd.pinned (OpenSpec.ofChange wireSpoiltWrong)

/-- 'bollardlaw05.WireReads': WHATEVER THE INPUT: true; the input reads as it did. -/
def wireReadsSpec : ChangeSpec := { name := "wireReads", fn := fun _ => fun
  | [d1, d2] => { results := [.lit (.bool true)], args := [d1, d2] }
  | _ => none }
def wireReadsRow : OpenClaim := { program := "ytkhccchjflmcmaadoor", sum := "2d16ad410cfd75c3f32bf2ea559670dc17a35fb8012b78aa9c61f7d6121ad4c9", func := "bollard/bollardlaw05.WireReads", spec := "wireReads", named := ["bollard/api.ErrBytes", "bollard/api.ErrNumber", "bollard/api.ErrParams", "bollard/api.ErrData", "bollard/api.ErrLost", "bollard/api.ErrDigest", "bollard/api.ErrName", "bollard/api.ErrGone", "bollard/api.ErrThere", "bollard/api.ErrFull", "bollard/api.ErrLarge", "bollard/api.ErrBallot", "bollard/api.ErrRequest", "bollard/api.ErrUri", "bollard/api.ErrDenied", "bollard/api.ErrSkew", "bollard/api.ErrMethod", "bollard/api.ErrState"], apart := false, laid := [("bollard/api.ErrParams", laid_bollard_api_ErrParams), ("bollard/api.ErrNumber", laid_bollard_api_ErrNumber), ("bollard/api.ErrData", laid_bollard_api_ErrData), ("bollard/api.ErrLost", laid_bollard_api_ErrLost), ("bollard/api.ErrBytes", laid_bollard_api_ErrBytes), ("bollard/api.ErrDigest", laid_bollard_api_ErrDigest), ("bollard/api.ErrName", laid_bollard_api_ErrName), ("bollard/api.ErrGone", laid_bollard_api_ErrGone), ("bollard/api.ErrThere", laid_bollard_api_ErrThere), ("bollard/api.ErrFull", laid_bollard_api_ErrFull), ("bollard/api.ErrLarge", laid_bollard_api_ErrLarge), ("bollard/api.ErrBallot", laid_bollard_api_ErrBallot), ("bollard/api.ErrRequest", laid_bollard_api_ErrRequest), ("bollard/api.ErrUri", laid_bollard_api_ErrUri), ("bollard/api.ErrDenied", laid_bollard_api_ErrDenied), ("bollard/api.ErrSkew", laid_bollard_api_ErrSkew), ("bollard/api.ErrMethod", laid_bollard_api_ErrMethod), ("bollard/api.ErrState", laid_bollard_api_ErrState)] }
def WireReadsSaid : Prop := wireReadsRow.holds Tryd.pinned (OpenSpec.ofChange wireReadsSpec)

/-- ITS FALSE NEIGHBOUR: 'it returns false'. Refute it at one input. -/
def wireReadsWrong : ChangeSpec := { name := "wireReads", fn := fun _ => fun
  | [d1, d2] => { results := [.lit (.bool false)], args := [d1, d2] }
  | _ => none }
def WireReadsWrongFalsely : Prop := wireReadsRow.holds Tryd.pinned (OpenSpec.ofChange wireReadsWrong)

/-- 'bollardlaw05.WireBack': WHATEVER THE INPUT: true; the input reads as it did. -/
def wireBackSpec : ChangeSpec := { name := "wireBack", fn := fun _ => fun
  | [d1, d2] => { results := [.lit (.bool true)], args := [d1, d2] }
  | _ => none }
def wireBackRow : OpenClaim := { program := "ytkhccchjflmcmaadoor", sum := "2d16ad410cfd75c3f32bf2ea559670dc17a35fb8012b78aa9c61f7d6121ad4c9", func := "bollard/bollardlaw05.WireBack", spec := "wireBack", named := ["bollard/api.ErrNumber", "bollard/api.ErrBytes"], apart := false, laid := [("bollard/api.ErrNumber", laid_bollard_api_ErrNumber), ("bollard/api.ErrBytes", laid_bollard_api_ErrBytes)] }
def WireBackSaid : Prop := wireBackRow.holds Tryd.pinned (OpenSpec.ofChange wireBackSpec)

/-- ITS FALSE NEIGHBOUR: 'it returns false'. Refute it at one input. -/
def wireBackWrong : ChangeSpec := { name := "wireBack", fn := fun _ => fun
  | [d1, d2] => { results := [.lit (.bool false)], args := [d1, d2] }
  | _ => none }
def WireBackWrongFalsely : Prop := wireBackRow.holds Tryd.pinned (OpenSpec.ofChange wireBackWrong)

/-- 'bollardlaw05.WireSums': WHATEVER THE INPUT: true; the input reads as it did. -/
def wireSumsSpec : ChangeSpec := { name := "wireSums", fn := fun _ => fun
  | [d] => { results := [.lit (.bool true)], args := [d] }
  | _ => none }
def wireSumsRow : OpenClaim := { program := "ytkhccchjflmcmaadoor", sum := "2d16ad410cfd75c3f32bf2ea559670dc17a35fb8012b78aa9c61f7d6121ad4c9", func := "bollard/bollardlaw05.WireSums", spec := "wireSums", named := ["bollard/api.ErrNumber", "bollard/api.ErrBytes", "bollard/api.ErrDigest", "bollard/api.ErrParams", "bollard/api.ErrData", "bollard/api.ErrLost", "bollard/api.ErrName", "bollard/api.ErrGone", "bollard/api.ErrThere", "bollard/api.ErrFull", "bollard/api.ErrLarge", "bollard/api.ErrBallot", "bollard/api.ErrRequest", "bollard/api.ErrUri", "bollard/api.ErrDenied", "bollard/api.ErrSkew", "bollard/api.ErrMethod", "bollard/api.ErrState"], apart := false, laid := [("bollard/api.ErrParams", laid_bollard_api_ErrParams), ("bollard/api.ErrNumber", laid_bollard_api_ErrNumber), ("bollard/api.ErrData", laid_bollard_api_ErrData), ("bollard/api.ErrLost", laid_bollard_api_ErrLost), ("bollard/api.ErrBytes", laid_bollard_api_ErrBytes), ("bollard/api.ErrDigest", laid_bollard_api_ErrDigest), ("bollard/api.ErrName", laid_bollard_api_ErrName), ("bollard/api.ErrGone", laid_bollard_api_ErrGone), ("bollard/api.ErrThere", laid_bollard_api_ErrThere), ("bollard/api.ErrFull", laid_bollard_api_ErrFull), ("bollard/api.ErrLarge", laid_bollard_api_ErrLarge), ("bollard/api.ErrBallot", laid_bollard_api_ErrBallot), ("bollard/api.ErrRequest", laid_bollard_api_ErrRequest), ("bollard/api.ErrUri", laid_bollard_api_ErrUri), ("bollard/api.ErrDenied", laid_bollard_api_ErrDenied), ("bollard/api.ErrSkew", laid_bollard_api_ErrSkew), ("bollard/api.ErrMethod", laid_bollard_api_ErrMethod), ("bollard/api.ErrState", laid_bollard_api_ErrState)] }
def WireSumsSaid : Prop := wireSumsRow.holds Tryd.pinned (OpenSpec.ofChange wireSumsSpec)

/-- ITS FALSE NEIGHBOUR: 'it returns false'. Refute it at one input. -/
def wireSumsWrong : ChangeSpec := { name := "wireSums", fn := fun _ => fun
  | [d] => { results := [.lit (.bool false)], args := [d] }
  | _ => none }
def WireSumsWrongFalsely : Prop := wireSumsRow.holds Tryd.pinned (OpenSpec.ofChange wireSumsWrong)

/-- 'bollardlaw05.WireSlips': WHATEVER THE INPUT: true; the input reads as it did. -/
def wireSlipsSpec : ChangeSpec := { name := "wireSlips", fn := fun _ => fun
  | [d1, d2, d3] => { results := [.lit (.bool true)], args := [d1, d2, d3] }
  | _ => none }
def wireSlipsRow : OpenClaim := { program := "ytkhccchjflmcmaadoor", sum := "2d16ad410cfd75c3f32bf2ea559670dc17a35fb8012b78aa9c61f7d6121ad4c9", func := "bollard/bollardlaw05.WireSlips", spec := "wireSlips", named := ["bollard/api.ErrDigest", "bollard/api.ErrNumber", "bollard/api.ErrBytes"], apart := false, laid := [("bollard/api.ErrNumber", laid_bollard_api_ErrNumber), ("bollard/api.ErrBytes", laid_bollard_api_ErrBytes), ("bollard/api.ErrDigest", laid_bollard_api_ErrDigest)] }
def WireSlipsSaid : Prop := wireSlipsRow.holds Tryd.pinned (OpenSpec.ofChange wireSlipsSpec)

/-- ITS FALSE NEIGHBOUR: 'it returns false'. Refute it at one input. -/
def wireSlipsWrong : ChangeSpec := { name := "wireSlips", fn := fun _ => fun
  | [d1, d2, d3] => { results := [.lit (.bool false)], args := [d1, d2, d3] }
  | _ => none }
def WireSlipsWrongFalsely : Prop := wireSlipsRow.holds Tryd.pinned (OpenSpec.ofChange wireSlipsWrong)

/- THE SECOND FORM. 'bulk': how many values and letters a reading holds, each counted each time it is reached (what is shared counts as often as it is met; a slice's spare places count too). A statement '..UptoSaid' is the law's where the arguments, and the package variables that the reading takes, are together of bulk at most 1048576: NARROWER than '..Said'. Prove '..Said' where nothing that the law and all that it calls make is longer than what came in: it says more and counts as full. Else prove '..UptoSaid'. A law counts once. -/
mutual
def uptoBulk {H : Type} : DataW H → Nat
  | .lit (.string bytes) => bytes.length + 1
  | .lit _ => 1
  | .nil => 1
  | .ptr d => uptoBulk d + 1
  | .slice elems spare => uptoBulkAll elems + uptoBulkAll spare + 1
  | .agg parts => uptoBulkAll parts + 1
  | .iface _ d => uptoBulk d + 1
  | .map entries => uptoBulkEntries entries + 1
  | .held _ => 1
def uptoBulkAll {H : Type} : List (DataW H) → Nat
  | [] => 0
  | d :: r => uptoBulk d + uptoBulkAll r
def uptoBulkEntries {H : Type} : List (Lit × DataW H) → Nat
  | [] => 0
  | x :: r => uptoBulkEntry x + uptoBulkEntries r
def uptoBulkEntry {H : Type} : Lit × DataW H → Nat
  | (.string bytes, d) => bytes.length + uptoBulk d + 1
  | (_, d) => uptoBulk d + 1
 end
def uptoSmall : (H : Type) → List (DataW H) → Bool := fun _ ds => decide (uptoBulkAll ds ≤ 1048576)
def OpenSpec.upto (s : _root_.Go.ChangeSpec) : _root_.Go.OpenSpec := { _root_.Go.OpenSpec.ofChange s with cond := some uptoSmall }

/-- 'bollardlaw05.WireNumbers', WHERE WHAT IT READS IS OF BULK AT MOST 1048576: true; the input reads as it did. -/
def wireNumbersUptoRow : OpenClaim := { program := "ytkhccchjflmcmaadoor", sum := "2d16ad410cfd75c3f32bf2ea559670dc17a35fb8012b78aa9c61f7d6121ad4c9", func := "bollard/bollardlaw05.WireNumbers", spec := "wireNumbers", named := ["bollard/api.ErrNumber"], apart := false, laid := [("bollard/api.ErrNumber", laid_bollard_api_ErrNumber)], narrowed := true }
def WireNumbersUptoSaid : Prop := wireNumbersUptoRow.holds Tryd.pinned (OpenSpec.upto wireNumbersSpec)

/-- 'bollardlaw05.WireWrites', WHERE WHAT IT READS IS OF BULK AT MOST 1048576: true; the input reads as it did. -/
def wireWritesUptoRow : OpenClaim := { program := "ytkhccchjflmcmaadoor", sum := "2d16ad410cfd75c3f32bf2ea559670dc17a35fb8012b78aa9c61f7d6121ad4c9", func := "bollard/bollardlaw05.WireWrites", spec := "wireWrites", named := ["bollard/api.ErrNumber"], apart := false, laid := [("bollard/api.ErrNumber", laid_bollard_api_ErrNumber)], narrowed := true }
def WireWritesUptoSaid : Prop := wireWritesUptoRow.holds Tryd.pinned (OpenSpec.upto wireWritesSpec)

/-- 'bollardlaw05.WireSpoilt', WHERE WHAT IT READS IS OF BULK AT MOST 1048576: true; the input reads as it did. -/
def wireSpoiltUptoRow : OpenClaim := { program := "ytkhccchjflmcmaadoor", sum := "2d16ad410cfd75c3f32bf2ea559670dc17a35fb8012b78aa9c61f7d6121ad4c9", func := "bollard/bollardlaw05.WireSpoilt", spec := "wireSpoilt", named := ["bollard/api.ErrNumber"], apart := false, laid := [("bollard/api.ErrNumber", laid_bollard_api_ErrNumber)], narrowed := true }
def WireSpoiltUptoSaid : Prop := wireSpoiltUptoRow.holds Tryd.pinned (OpenSpec.upto wireSpoiltSpec)

/-- 'bollardlaw05.WireReads', WHERE WHAT IT READS IS OF BULK AT MOST 1048576: true; the input reads as it did. -/
def wireReadsUptoRow : OpenClaim := { program := "ytkhccchjflmcmaadoor", sum := "2d16ad410cfd75c3f32bf2ea559670dc17a35fb8012b78aa9c61f7d6121ad4c9", func := "bollard/bollardlaw05.WireReads", spec := "wireReads", named := ["bollard/api.ErrBytes", "bollard/api.ErrNumber", "bollard/api.ErrParams", "bollard/api.ErrData", "bollard/api.ErrLost", "bollard/api.ErrDigest", "bollard/api.ErrName", "bollard/api.ErrGone", "bollard/api.ErrThere", "bollard/api.ErrFull", "bollard/api.ErrLarge", "bollard/api.ErrBallot", "bollard/api.ErrRequest", "bollard/api.ErrUri", "bollard/api.ErrDenied", "bollard/api.ErrSkew", "bollard/api.ErrMethod", "bollard/api.ErrState"], apart := false, laid := [("bollard/api.ErrParams", laid_bollard_api_ErrParams), ("bollard/api.ErrNumber", laid_bollard_api_ErrNumber), ("bollard/api.ErrData", laid_bollard_api_ErrData), ("bollard/api.ErrLost", laid_bollard_api_ErrLost), ("bollard/api.ErrBytes", laid_bollard_api_ErrBytes), ("bollard/api.ErrDigest", laid_bollard_api_ErrDigest), ("bollard/api.ErrName", laid_bollard_api_ErrName), ("bollard/api.ErrGone", laid_bollard_api_ErrGone), ("bollard/api.ErrThere", laid_bollard_api_ErrThere), ("bollard/api.ErrFull", laid_bollard_api_ErrFull), ("bollard/api.ErrLarge", laid_bollard_api_ErrLarge), ("bollard/api.ErrBallot", laid_bollard_api_ErrBallot), ("bollard/api.ErrRequest", laid_bollard_api_ErrRequest), ("bollard/api.ErrUri", laid_bollard_api_ErrUri), ("bollard/api.ErrDenied", laid_bollard_api_ErrDenied), ("bollard/api.ErrSkew", laid_bollard_api_ErrSkew), ("bollard/api.ErrMethod", laid_bollard_api_ErrMethod), ("bollard/api.ErrState", laid_bollard_api_ErrState)], narrowed := true }
def WireReadsUptoSaid : Prop := wireReadsUptoRow.holds Tryd.pinned (OpenSpec.upto wireReadsSpec)

/-- 'bollardlaw05.WireBack', WHERE WHAT IT READS IS OF BULK AT MOST 1048576: true; the input reads as it did. -/
def wireBackUptoRow : OpenClaim := { program := "ytkhccchjflmcmaadoor", sum := "2d16ad410cfd75c3f32bf2ea559670dc17a35fb8012b78aa9c61f7d6121ad4c9", func := "bollard/bollardlaw05.WireBack", spec := "wireBack", named := ["bollard/api.ErrNumber", "bollard/api.ErrBytes"], apart := false, laid := [("bollard/api.ErrNumber", laid_bollard_api_ErrNumber), ("bollard/api.ErrBytes", laid_bollard_api_ErrBytes)], narrowed := true }
def WireBackUptoSaid : Prop := wireBackUptoRow.holds Tryd.pinned (OpenSpec.upto wireBackSpec)

/-- 'bollardlaw05.WireSums', WHERE WHAT IT READS IS OF BULK AT MOST 1048576: true; the input reads as it did. -/
def wireSumsUptoRow : OpenClaim := { program := "ytkhccchjflmcmaadoor", sum := "2d16ad410cfd75c3f32bf2ea559670dc17a35fb8012b78aa9c61f7d6121ad4c9", func := "bollard/bollardlaw05.WireSums", spec := "wireSums", named := ["bollard/api.ErrNumber", "bollard/api.ErrBytes", "bollard/api.ErrDigest", "bollard/api.ErrParams", "bollard/api.ErrData", "bollard/api.ErrLost", "bollard/api.ErrName", "bollard/api.ErrGone", "bollard/api.ErrThere", "bollard/api.ErrFull", "bollard/api.ErrLarge", "bollard/api.ErrBallot", "bollard/api.ErrRequest", "bollard/api.ErrUri", "bollard/api.ErrDenied", "bollard/api.ErrSkew", "bollard/api.ErrMethod", "bollard/api.ErrState"], apart := false, laid := [("bollard/api.ErrParams", laid_bollard_api_ErrParams), ("bollard/api.ErrNumber", laid_bollard_api_ErrNumber), ("bollard/api.ErrData", laid_bollard_api_ErrData), ("bollard/api.ErrLost", laid_bollard_api_ErrLost), ("bollard/api.ErrBytes", laid_bollard_api_ErrBytes), ("bollard/api.ErrDigest", laid_bollard_api_ErrDigest), ("bollard/api.ErrName", laid_bollard_api_ErrName), ("bollard/api.ErrGone", laid_bollard_api_ErrGone), ("bollard/api.ErrThere", laid_bollard_api_ErrThere), ("bollard/api.ErrFull", laid_bollard_api_ErrFull), ("bollard/api.ErrLarge", laid_bollard_api_ErrLarge), ("bollard/api.ErrBallot", laid_bollard_api_ErrBallot), ("bollard/api.ErrRequest", laid_bollard_api_ErrRequest), ("bollard/api.ErrUri", laid_bollard_api_ErrUri), ("bollard/api.ErrDenied", laid_bollard_api_ErrDenied), ("bollard/api.ErrSkew", laid_bollard_api_ErrSkew), ("bollard/api.ErrMethod", laid_bollard_api_ErrMethod), ("bollard/api.ErrState", laid_bollard_api_ErrState)], narrowed := true }
def WireSumsUptoSaid : Prop := wireSumsUptoRow.holds Tryd.pinned (OpenSpec.upto wireSumsSpec)

/-- 'bollardlaw05.WireSlips', WHERE WHAT IT READS IS OF BULK AT MOST 1048576: true; the input reads as it did. -/
def wireSlipsUptoRow : OpenClaim := { program := "ytkhccchjflmcmaadoor", sum := "2d16ad410cfd75c3f32bf2ea559670dc17a35fb8012b78aa9c61f7d6121ad4c9", func := "bollard/bollardlaw05.WireSlips", spec := "wireSlips", named := ["bollard/api.ErrDigest", "bollard/api.ErrNumber", "bollard/api.ErrBytes"], apart := false, laid := [("bollard/api.ErrNumber", laid_bollard_api_ErrNumber), ("bollard/api.ErrBytes", laid_bollard_api_ErrBytes), ("bollard/api.ErrDigest", laid_bollard_api_ErrDigest)], narrowed := true }
def WireSlipsUptoSaid : Prop := wireSlipsUptoRow.holds Tryd.pinned (OpenSpec.upto wireSlipsSpec)

end Rows
end Go.Proofs.YtkhccchjflmcmaaDoor
