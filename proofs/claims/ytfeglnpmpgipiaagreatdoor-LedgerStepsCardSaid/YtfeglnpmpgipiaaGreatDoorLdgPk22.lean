/- LdgPk, part 22: Ref11Sum, Ref11AppL, MadeL, LedMath, EqOc. -/
import Derived.Test.YtfeglnpmpgipiaaGreatDoorLdgPk04
import Derived.Test.YtfeglnpmpgipiaaGreatDoorLdgPk06
import Derived.Test.YtfeglnpmpgipiaaGreatDoorLdgPk08
import Derived.Test.YtfeglnpmpgipiaaGreatDoorLdgPk09
import Derived.Test.YtfeglnpmpgipiaaGreatDoorLdgPk10
import Derived.Test.YtfeglnpmpgipiaaGreatDoorLdgPk14
import Derived.Test.YtfeglnpmpgipiaaGreatDoorLdgPk17
import Derived.Test.YtfeglnpmpgipiaaGreatDoorLdgPk18
import Derived.Test.YtfeglnpmpgipiaaGreatDoorLdgPk19
import Derived.Test.YtfeglnpmpgipiaaGreatDoorLdgPk20
import Derived.Test.YtfeglnpmpgipiaaGreatDoorLdgPk21
import Derived.Great.BuildSlice
import Derived.Test.YtfeglnpmpgipiaaGreatDoorProg
set_option linter.unusedVariables false
set_option maxRecDepth 100000
set_option linter.unusedSimpArgs false
namespace Go.Proofs.YtfeglnpmpgipiaaGreatDoor
section
open Go.RowKit
def vY (ps:List Pc):List UInt8:=ps.flatMap (·.etag)
def smL (ps:List Pc):Bs:=(yR (zFZ (vY ps)) ++ [45]) ++ zBD ps.length
theorem zIp (ps:List Pc) (h:ps.length≤16):(smL ps).length≤100:=by
 unfold smL;rw [List.length_append,List.length_append,zCB,zFc];have:=zDG 1 ps.length (by omega);simp only [List.length_cons,List.length_nil];omega
theorem zGT (a b:Bs):str a ++ str b=str (a ++ b):=by apply ByteArray.ext;simp [str]
end
section
open Go.RowKit
def TO (B:Nat) (t:TypeId) (a b:World):Prop:=∃ S,Only S a b∧∀ z∈S,B≤z∧Ty a z t
theorem TO.refl (B:Nat) (t:TypeId) (w:World):TO B t w w:=⟨[],Only.refl _ _,by simp⟩
theorem TO.row {B:Nat} {t e:TypeId} {a b:World} {g:Nat} {vs:List Value} (h:TO B t a b) (r:Row a g e vs) (hn:e≠t):Row b g e vs:=by
 obtain ⟨S,h1,h2⟩:=h;exact r.only h1 (fun hm=>hn ((Ty.row r).uniq (h2 g hm).2))
def zAz (B:Nat) (e:TypeId) (vs:List Value):Value→World→Prop:=fun v w=>∃ g,v=.pointer (some ⟨g,0,none⟩)∧B≤g∧Row w g e vs
theorem zAz.stable {B:Nat} {e:TypeId} {vs:List Value}:Stable (Only []) (zAz B e vs):=fun v a c ⟨g,h1,h2,h3⟩ ho=>⟨g,h1,h2,h3.zB ho⟩
theorem zAz.to {B B2:Nat} {e t:TypeId} {vs:List Value} (hn:e≠t):Stable (TO B2 t) (zAz B e vs):=fun v a c ⟨g,h1,h2,h3⟩ ho=>⟨g,h1,h2,ho.row h3 hn⟩
end
section
open Go.RowKit
theorem zCm {L:qJ} (h:xB L.cat) {b:LBk} (hb:b∈L.bs):yO b.b:=h.bk b.b (by show b.b∈L.bs.map LBk.b;exact List.mem_map_of_mem hb)
theorem zIc {b:LBk} (h:yO b.b) {x:qM} (hx:x∈b.us):zCk x.u:=h.up x.u (by show x.u∈b.us.map qM.u;exact List.mem_map_of_mem hx)
theorem zIw {b:LBk} (h:yO b.b) {x:qE} (hx:x∈b.os):zJJ x.o:=h.ob x.o (by show x.o∈b.os.map qE.o;exact List.mem_map_of_mem hx)
theorem zJS {b:LBk} (h:yO b.b):b.os.length≤128:=by have h1:(b.os.map qE.o).length≤128:=h.ol;rwa [List.length_map] at h1
theorem zJH {b:LBk} (h:yO b.b):b.us.length≤16:=by have h1:(b.us.map qM.u).length≤16:=h.ul;rwa [List.length_map] at h1
theorem zJN {L:qJ} (h:xB L.cat):L.bs.length≤16:=by have h1:(L.bs.map LBk.b).length≤16:=h.bl;rwa [List.length_map] at h1
theorem zBL {L:qJ} (h:xB L.cat):Small L :=
 ⟨by have:=zJN h;omega,by have h1:L.fs.length≤16:=h.zJW;omega,fun b hb=>⟨by have:=zJS (zCm h hb);omega,by have:=zJH (zCm h hb);omega,fun x hx=>by have:=(zIw (zCm h hb) hx).len;omega,fun x hx=>by have:=(zIc (zCm h hb) hx).len;omega⟩⟩
end
section
def zFD (l:List Cmd):Cat × yN:=l.foldl (fun c x=>apply smL c.1 x) (⟨[],[]⟩,⟨0,[]⟩)
def vF (l:List Cmd):Cat:=(zFD l).1
theorem zGq (l:List Cmd) (x:Cmd):zFD (l ++ [x])=apply smL (vF l) x:=by unfold vF zFD;rw [List.foldl_append];rfl
theorem zEL {l:List Cmd} {i:Nat} {x:Cmd} (h:l[i]?=some x):zFD (l.take (i+1))=apply smL (vF (l.take i)) x:=by rw [List.take_add_one,h];exact zGq _ _
theorem zFf {l:List Cmd} {i:Nat} {x:Cmd} (h:l[i]?=some x):vF (l.take (i+1))=(apply smL (vF (l.take i)) x).1:=by unfold vF;rw [zEL h];rfl
def zAH (l:List Cmd) (d:Cid):Nat:=l.findIdx (fun c=>decide (c.id=d))
def zDd (l:List Cmd) (x:Cmd):List Cmd × Nat:=if zAH l x.id < l.length then (l,zAH l x.id+1) else (l ++ [x],l.length+1)
def zCN (n:Int) (len:Nat):Nat:=min n.toNat len
def zCW (ms:List zT):Prop:=∀ m∈ms,xK m.x
end
section
open Go.RowKit
theorem zJk (d:Nat) (a b:yN) (w:World):(Op.equalIn (d+2) 38 (xN a) (xN b)).run Tryz.prog w=.ok (decide (a=b)) w:=by
 have hu:Tryz.prog.underlying 38=some (.struct (Tryz.prog.fieldsOf 38)):=(by kernel_rfl);have hs:Tryz.prog.stoodInHeld 38=false:=(by kernel_rfl);have h:=Tryz.underlying38;unfold xN;rw [show d+2=(d+1)+1 from rfl,run_equalIn_agg w (d+1) 38 _ _ hu hs];simp only [Program.fieldsOf,h];have q3:=fun (x y:Int) (w:World)=>run_equalIn_int (P:=Tryz.prog) w d 3 .i64 .i64 x y Tryz.underlying3;have q9:=fun (x y:ByteArray) (w:World)=>run_equalIn_string (P:=Tryz.prog) w d 9 x y Tryz.underlying9
 simp [Op.eqFields,part,Tryz.isAgg3,Tryz.isAgg9,q3,q9,qH]
 obtain ⟨a1,a2⟩:=a;obtain ⟨b1,b2⟩:=b;simp only [yN.mk.injEq]
 by_cases h1:a1=b1 <;> by_cases h2:a2=b2 <;> simp [h1,h2]
theorem zDy {k n:Nat} (h:k≤n):zCN (k:Int) n=k:=by unfold zCN;omega
end
end Go.Proofs.YtfeglnpmpgipiaaGreatDoor
