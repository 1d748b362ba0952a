/- GrwPk, part 3: Errs. -/
import Derived.Test.YtfeglnpmpgipiaaGreatDoorGrwPk01
import Derived.Test.YtfeglnpmpgipiaaGreatDoorProg
import Derived.LaidLaws
import Derived.LaidEql
import Derived.MakeChecks
import Derived.Stop.Joined
set_option linter.unusedVariables false
set_option maxRecDepth 100000
set_option linter.unusedSimpArgs false
namespace Go.Proofs.YtfeglnpmpgipiaaGreatDoor
section
open Go.ChangeShapes Go.WideShapes Go.RowKit
noncomputable def zJL:Nat:=(World.holding Tryz.prog default ⟨#[],#[],[]⟩).heap.size
def zJN (h:Array Obj) (g at_:Nat):Array Obj:=h.modify g fun
 | .cells _ t frozen=>.cells #[.iface 223 (.pointer (some ⟨at_,0,none⟩))] t frozen
 | o=>o
def zGc:Array Obj→Nat→List Nat→Array Obj
 | h,_,[]=>h
 | h,n,g :: r=>zGc (zJN h g n) (n+1) r
noncomputable def zFL (os:Os) (l:List (Nat × List UInt8)):World :=
 let w0:=World.holding Tryz.prog os ⟨(l.map fun x=>Obj.cells #[.string ⟨x.2.toArray⟩] 238).toArray,#[],[]⟩
 { w0 with heap:=zGc w0.heap zJL (l.map (·.1)) }
end
end Go.Proofs.YtfeglnpmpgipiaaGreatDoor
