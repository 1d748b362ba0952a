/- CmpPk, part 36: Forms10. -/
import Derived.Test.YtfeglnpmpgipiaaGreatDoorCmpPk04
import Derived.Test.YtfeglnpmpgipiaaGreatDoorCmpPk10
import Derived.Test.YtfeglnpmpgipiaaGreatDoorCmpPk35
set_option linter.unusedVariables false
set_option maxRecDepth 100000
set_option linter.unusedSimpArgs false
namespace Go.Proofs.YtfeglnpmpgipiaaGreatDoor
section
open Go.RowKit
def plainP (x:UInt8):Prop:=(97≤x.toNat∧x.toNat≤122)∨(48≤x.toNat∧x.toNat≤57)
instance (x:UInt8):Decidable (plainP x):=by unfold plainP;exact inferInstance
end
end Go.Proofs.YtfeglnpmpgipiaaGreatDoor
