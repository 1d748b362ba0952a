/- CmpPk, part 3: Errs, Tabs. -/
import Derived.Test.YtfeglnpmpgipiaaGreatDoorCmpPk01
import Derived.Test.YtfeglnpmpgipiaaGreatDoorProg
import Derived.LaidLaws
import Derived.LaidEql
import Derived.MakeChecks
import Derived.Stop.Joined
set_option linter.unusedVariables false
set_option maxRecDepth 100000
set_option linter.unusedSimpArgs false
namespace Go.Proofs.YtfeglnpmpgipiaaGreatDoor
section
open Go.ChangeShapes Go.WideShapes Go.RowKit
noncomputable def errLow:Nat:=(World.holding Tryz.prog default ⟨#[],#[],[]⟩).heap.size
def setErr (h:Array Obj) (g at_:Nat):Array Obj:=h.modify g fun
 | .cells _ t frozen=>.cells #[.iface 223 (.pointer (some ⟨at_,0,none⟩))] t frozen
 | o=>o
def setErrs:Array Obj→Nat→List Nat→Array Obj
 | h,_,[]=>h
 | h,n,g :: r=>setErrs (setErr h g n) (n+1) r
noncomputable def errWorld (os:Os) (l:List (Nat × List UInt8)):World :=
 let w0:=World.holding Tryz.prog os ⟨(l.map fun x=>Obj.cells #[.string ⟨x.2.toArray⟩] 238).toArray,#[],[]⟩
 { w0 with heap:=setErrs w0.heap errLow (l.map (·.1)) }
end
section
def setTab (h:Array Obj) (g:Nat) (vs:List Value):Array Obj:=h.modify g fun
 | .cells _ t frozen=>.cells vs.toArray t frozen
 | o=>o
def setTabs:Array Obj→List (Nat × List Value)→Array Obj
 | h,[]=>h
 | h,x :: r=>setTabs (setTab h x.1 x.2) r
noncomputable def tabWorld (os:Os) (ts:List (Nat × List Value)) (l:List (Nat × List UInt8)):World :=
 { errWorld os l with heap:=setTabs (errWorld os l).heap ts }
end
end Go.Proofs.YtfeglnpmpgipiaaGreatDoor
