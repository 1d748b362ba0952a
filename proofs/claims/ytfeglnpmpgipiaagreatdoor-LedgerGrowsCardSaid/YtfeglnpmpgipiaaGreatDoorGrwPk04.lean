/- GrwPk, part 4: Tabs. -/
import Derived.Test.YtfeglnpmpgipiaaGreatDoorGrwPk02
import Derived.Test.YtfeglnpmpgipiaaGreatDoorGrwPk03
set_option linter.unusedVariables false
set_option maxRecDepth 100000
set_option linter.unusedSimpArgs false
namespace Go.Proofs.YtfeglnpmpgipiaaGreatDoor
section
open Go.ChangeShapes Go.WideShapes Go.RowKit
def zJT (h:Array Obj) (g:Nat) (vs:List Value):Array Obj:=h.modify g fun
 | .cells _ t frozen=>.cells vs.toArray t frozen
 | o=>o
def zGN:Array Obj→List (Nat × List Value)→Array Obj
 | h,[]=>h
 | h,x :: r=>zGN (zJT h x.1 x.2) r
noncomputable def zHe (os:Os) (ts:List (Nat × List Value)) (l:List (Nat × List UInt8)):World :=
 { zFL os l with heap:=zGN (zFL os l).heap ts }
end
end Go.Proofs.YtfeglnpmpgipiaaGreatDoor
