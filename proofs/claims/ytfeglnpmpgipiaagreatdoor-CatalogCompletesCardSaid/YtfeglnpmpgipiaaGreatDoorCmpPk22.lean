/- CmpPk, part 22: Ref11Sum, Ref11AppL, MadeL. -/
import Derived.Test.YtfeglnpmpgipiaaGreatDoorCmpPk01
import Derived.Test.YtfeglnpmpgipiaaGreatDoorCmpPk04
import Derived.Test.YtfeglnpmpgipiaaGreatDoorCmpPk06
import Derived.Test.YtfeglnpmpgipiaaGreatDoorCmpPk08
import Derived.Test.YtfeglnpmpgipiaaGreatDoorCmpPk09
import Derived.Test.YtfeglnpmpgipiaaGreatDoorCmpPk10
import Derived.Test.YtfeglnpmpgipiaaGreatDoorCmpPk14
import Derived.Test.YtfeglnpmpgipiaaGreatDoorCmpPk17
import Derived.Test.YtfeglnpmpgipiaaGreatDoorCmpPk18
import Derived.Test.YtfeglnpmpgipiaaGreatDoorCmpPk19
import Derived.Test.YtfeglnpmpgipiaaGreatDoorCmpPk20
import Derived.Test.YtfeglnpmpgipiaaGreatDoorCmpPk21
import Derived.Great.BuildSlice
import Derived.Test.YtfeglnpmpgipiaaGreatDoorProg
import Derived.RangeFuncNested
import Derived.RangeFuncBound
import Derived.RangeFuncCalls
import Derived.RangeFuncLeaves
import Derived.TacticsInMore
import Derived.OwnWalkIn
import Derived.LoopNIn
import Derived.LoopIn
import Derived.Shelf.Abstract
import Derived.MapKept
import Derived.Laws.StructEq
set_option linter.unusedVariables false
set_option maxRecDepth 100000
set_option linter.unusedSimpArgs false
namespace Go.Proofs.YtfeglnpmpgipiaaGreatDoor
section
open Go.RowKit
def etags (ps:List Pc):List UInt8:=ps.flatMap (·.etag)
def smL (ps:List Pc):Bs:=(hexB (shaB (etags ps)) ++ [45]) ++ decB ps.length
theorem smL_len (ps:List Pc) (h:ps.length≤16):(smL ps).length≤100:=by
 unfold smL;rw [List.length_append,List.length_append,hexB_len,shaB_len];have:=decB_len 1 ps.length (by omega);simp only [List.length_cons,List.length_nil];omega
theorem str_app (a b:Bs):str a ++ str b=str (a ++ b):=by apply ByteArray.ext;simp [str]
end
section
open Go.RowKit
def TO (B:Nat) (t:TypeId) (a b:World):Prop:=∃ S,Only S a b∧∀ z∈S,B≤z∧Ty a z t
theorem TO.refl (B:Nat) (t:TypeId) (w:World):TO B t w w:=⟨[],Only.refl _ _,by simp⟩
theorem TO.row {B:Nat} {t e:TypeId} {a b:World} {g:Nat} {vs:List Value} (h:TO B t a b) (r:Row a g e vs) (hn:e≠t):Row b g e vs:=by
 obtain ⟨S,h1,h2⟩:=h;exact r.only h1 (fun hm=>hn ((Ty.row r).uniq (h2 g hm).2))
def PtrT (B:Nat) (e:TypeId) (vs:List Value):Value→World→Prop:=fun v w=>∃ g,v=.pointer (some ⟨g,0,none⟩)∧B≤g∧Row w g e vs
theorem PtrT.stable {B:Nat} {e:TypeId} {vs:List Value}:Stable (Only []) (PtrT B e vs):=fun v a c ⟨g,h1,h2,h3⟩ ho=>⟨g,h1,h2,h3.only0 ho⟩
theorem PtrT.to {B B2:Nat} {e t:TypeId} {vs:List Value} (hn:e≠t):Stable (TO B2 t) (PtrT B e vs):=fun v a c ⟨g,h1,h2,h3⟩ ho=>⟨g,h1,h2,ho.row h3 hn⟩
end
section
open Go.RowKit
theorem bkOk_of {L:LCat} (h:CatOk L.cat) {b:LBk} (hb:b∈L.bs):BkOk b.b:=h.bk b.b (by show b.b∈L.bs.map LBk.b;exact List.mem_map_of_mem hb)
theorem upOk_of {b:LBk} (h:BkOk b.b) {x:LUpl} (hx:x∈b.us):UpOk x.u:=h.up x.u (by show x.u∈b.us.map LUpl.u;exact List.mem_map_of_mem hx)
theorem obOk_of {b:LBk} (h:BkOk b.b) {x:LObj} (hx:x∈b.os):ObOk x.o:=h.ob x.o (by show x.o∈b.os.map LObj.o;exact List.mem_map_of_mem hx)
theorem len_os {b:LBk} (h:BkOk b.b):b.os.length≤128:=by have h1:(b.os.map LObj.o).length≤128:=h.ol;rwa [List.length_map] at h1
theorem len_us {b:LBk} (h:BkOk b.b):b.us.length≤16:=by have h1:(b.us.map LUpl.u).length≤16:=h.ul;rwa [List.length_map] at h1
theorem len_bs {L:LCat} (h:CatOk L.cat):L.bs.length≤16:=by have h1:(L.bs.map LBk.b).length≤16:=h.bl;rwa [List.length_map] at h1
theorem small_of {L:LCat} (h:CatOk L.cat):Small L :=
 ⟨by have:=len_bs h;omega,by have h1:L.fs.length≤16:=h.flen;omega,fun b hb=>⟨by have:=len_os (bkOk_of h hb);omega,by have:=len_us (bkOk_of h hb);omega,fun x hx=>by have:=(obOk_of (bkOk_of h hb) hx).len;omega,fun x hx=>by have:=(upOk_of (bkOk_of h hb) hx).len;omega⟩⟩
end
end Go.Proofs.YtfeglnpmpgipiaaGreatDoor
