/- CmpPk, part 35: GoodIdW. -/
import Derived.Test.YtfeglnpmpgipiaaGreatDoorCmpPk05
import Derived.Test.YtfeglnpmpgipiaaGreatDoorProg
import Derived.Deep.DeepCutAuto
set_option linter.unusedVariables false
set_option maxRecDepth 100000
set_option linter.unusedSimpArgs false
namespace Go.Proofs.YtfeglnpmpgipiaaGreatDoor
section
open Go.RowKit
def idOk (a b q:Int):Prop:=0≤a∧a≤15∧0≤b∧b≤1099511627776∧0≤q∧q≤1099511627776
instance (a b q:Int):Decidable (idOk a b q):=by unfold idOk;exact inferInstance
end
end Go.Proofs.YtfeglnpmpgipiaaGreatDoor
