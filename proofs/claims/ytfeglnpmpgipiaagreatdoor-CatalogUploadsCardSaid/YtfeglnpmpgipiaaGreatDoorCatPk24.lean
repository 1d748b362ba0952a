/- CatPk, part 24: Ref11Sum, MadeL. -/
import Derived.Test.YtfeglnpmpgipiaaGreatDoorCatPk06
import Derived.Test.YtfeglnpmpgipiaaGreatDoorCatPk07
import Derived.Test.YtfeglnpmpgipiaaGreatDoorCatPk09
import Derived.Test.YtfeglnpmpgipiaaGreatDoorCatPk10
import Derived.Test.YtfeglnpmpgipiaaGreatDoorCatPk11
import Derived.Test.YtfeglnpmpgipiaaGreatDoorCatPk12
import Derived.Test.YtfeglnpmpgipiaaGreatDoorCatPk19
import Derived.Test.YtfeglnpmpgipiaaGreatDoorCatPk20
import Derived.Test.YtfeglnpmpgipiaaGreatDoorCatPk21
import Derived.Test.YtfeglnpmpgipiaaGreatDoorCatPk22
import Derived.Test.YtfeglnpmpgipiaaGreatDoorCatPk23
import Derived.Great.BuildSlice
import Derived.Test.YtfeglnpmpgipiaaGreatDoorProg
set_option linter.unusedVariables false
set_option maxRecDepth 100000
set_option linter.unusedSimpArgs false
namespace Go.Proofs.YtfeglnpmpgipiaaGreatDoor
section
open Go.RowKit
def etags (ps:List Pc):List UInt8:=ps.flatMap (·.etag)
def smL (ps:List Pc):Bs:=(hexB (shaB (etags ps)) ++ [45]) ++ decB ps.length
theorem smL_len (ps:List Pc) (h:ps.length≤16):(smL ps).length≤100:=by
 unfold smL;rw [List.length_append,List.length_append,hexB_len,shaB_len];have:=decB_len 1 ps.length (by omega);simp only [List.length_cons,List.length_nil];omega
theorem str_app (a b:Bs):str a ++ str b=str (a ++ b):=by apply ByteArray.ext;simp [str]
end
section
open Go.RowKit
theorem bkOk_of {L:LCat} (h:CatOk L.cat) {b:LBk} (hb:b∈L.bs):BkOk b.b:=h.bk b.b (by show b.b∈L.bs.map LBk.b;exact List.mem_map_of_mem hb)
theorem upOk_of {b:LBk} (h:BkOk b.b) {x:LUpl} (hx:x∈b.us):UpOk x.u:=h.up x.u (by show x.u∈b.us.map LUpl.u;exact List.mem_map_of_mem hx)
theorem obOk_of {b:LBk} (h:BkOk b.b) {x:LObj} (hx:x∈b.os):ObOk x.o:=h.ob x.o (by show x.o∈b.os.map LObj.o;exact List.mem_map_of_mem hx)
theorem len_os {b:LBk} (h:BkOk b.b):b.os.length≤128:=by have h1:(b.os.map LObj.o).length≤128:=h.ol;rwa [List.length_map] at h1
theorem len_us {b:LBk} (h:BkOk b.b):b.us.length≤16:=by have h1:(b.us.map LUpl.u).length≤16:=h.ul;rwa [List.length_map] at h1
theorem len_bs {L:LCat} (h:CatOk L.cat):L.bs.length≤16:=by have h1:(L.bs.map LBk.b).length≤16:=h.bl;rwa [List.length_map] at h1
theorem small_of {L:LCat} (h:CatOk L.cat):Small L :=
 ⟨by have:=len_bs h;omega,by have h1:L.fs.length≤16:=h.flen;omega,fun b hb=>⟨by have:=len_os (bkOk_of h hb);omega,by have:=len_us (bkOk_of h hb);omega,fun x hx=>by have:=(obOk_of (bkOk_of h hb) hx).len;omega,fun x hx=>by have:=(upOk_of (bkOk_of h hb) hx).len;omega⟩⟩
end
end Go.Proofs.YtfeglnpmpgipiaaGreatDoor
