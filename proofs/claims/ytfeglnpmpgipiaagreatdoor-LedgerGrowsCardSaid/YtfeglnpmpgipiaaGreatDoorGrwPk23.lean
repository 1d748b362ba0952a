/- GrwPk, part 23: Ref11Sum, Ref11AppL, MadeL, LedMath, EqOc, GrowMath. -/
import Derived.Test.YtfeglnpmpgipiaaGreatDoorGrwPk05
import Derived.Test.YtfeglnpmpgipiaaGreatDoorGrwPk07
import Derived.Test.YtfeglnpmpgipiaaGreatDoorGrwPk09
import Derived.Test.YtfeglnpmpgipiaaGreatDoorGrwPk10
import Derived.Test.YtfeglnpmpgipiaaGreatDoorGrwPk11
import Derived.Test.YtfeglnpmpgipiaaGreatDoorGrwPk15
import Derived.Test.YtfeglnpmpgipiaaGreatDoorGrwPk18
import Derived.Test.YtfeglnpmpgipiaaGreatDoorGrwPk19
import Derived.Test.YtfeglnpmpgipiaaGreatDoorGrwPk20
import Derived.Test.YtfeglnpmpgipiaaGreatDoorGrwPk21
import Derived.Test.YtfeglnpmpgipiaaGreatDoorGrwPk22
import Derived.Great.BuildSlice
import Derived.Test.YtfeglnpmpgipiaaGreatDoorProg
set_option linter.unusedVariables false
set_option maxRecDepth 100000
set_option linter.unusedSimpArgs false
namespace Go.Proofs.YtfeglnpmpgipiaaGreatDoor
section
open Go.RowKit
def vY (ps:List Pc):List UInt8:=ps.flatMap (·.etag)
def smL (ps:List Pc):Bs:=(yT (zFN (vY ps)) ++ [45]) ++ zBD ps.length
theorem zIe (ps:List Pc) (h:ps.length≤16):(smL ps).length≤100:=by
 unfold smL;rw [List.length_append,List.length_append,zBx,zEq];have:=zCp 1 ps.length (by omega);simp only [List.length_cons,List.length_nil];omega
theorem zGa (a b:Bs):str a ++ str b=str (a ++ b):=by apply ByteArray.ext;simp [str]
end
section
open Go.RowKit
def TO (B:Nat) (t:TypeId) (a b:World):Prop:=∃ S,Only S a b∧∀ z∈S,B≤z∧Ty a z t
theorem TO.refl (B:Nat) (t:TypeId) (w:World):TO B t w w:=⟨[],Only.refl _ _,by simp⟩
theorem TO.row {B:Nat} {t e:TypeId} {a b:World} {g:Nat} {vs:List Value} (h:TO B t a b) (r:Row a g e vs) (hn:e≠t):Row b g e vs:=by
 obtain ⟨S,h1,h2⟩:=h;exact r.only h1 (fun hm=>hn ((Ty.row r).uniq (h2 g hm).2))
def zAp (B:Nat) (e:TypeId) (vs:List Value):Value→World→Prop:=fun v w=>∃ g,v=.pointer (some ⟨g,0,none⟩)∧B≤g∧Row w g e vs
theorem zAp.stable {B:Nat} {e:TypeId} {vs:List Value}:Stable (Only []) (zAp B e vs):=fun v a c ⟨g,h1,h2,h3⟩ ho=>⟨g,h1,h2,h3.zB ho⟩
theorem zAp.to {B B2:Nat} {e t:TypeId} {vs:List Value} (hn:e≠t):Stable (TO B2 t) (zAp B e vs):=fun v a c ⟨g,h1,h2,h3⟩ ho=>⟨g,h1,h2,ho.row h3 hn⟩
end
section
open Go.RowKit
theorem zCj {L:qK} (h:xS L.cat) {b:LBk} (hb:b∈L.bs):yO b.b:=h.bk b.b (by show b.b∈L.bs.map LBk.b;exact List.mem_map_of_mem hb)
theorem zIu {b:LBk} (h:yO b.b) {x:qN} (hx:x∈b.us):zCf x.u:=h.up x.u (by show x.u∈b.us.map qN.u;exact List.mem_map_of_mem hx)
theorem zId {b:LBk} (h:yO b.b) {x:qG} (hx:x∈b.os):zJF x.o:=h.ob x.o (by show x.o∈b.os.map qG.o;exact List.mem_map_of_mem hx)
theorem zJE {b:LBk} (h:yO b.b):b.os.length≤128:=by have h1:(b.os.map qG.o).length≤128:=h.ol;rwa [List.length_map] at h1
theorem zJJ {b:LBk} (h:yO b.b):b.us.length≤16:=by have h1:(b.us.map qN.u).length≤16:=h.ul;rwa [List.length_map] at h1
theorem zJI {L:qK} (h:xS L.cat):L.bs.length≤16:=by have h1:(L.bs.map LBk.b).length≤16:=h.bl;rwa [List.length_map] at h1
theorem zBz {L:qK} (h:xS L.cat):Small L :=
 ⟨by have:=zJI h;omega,by have h1:L.fs.length≤16:=h.zJd;omega,fun b hb=>⟨by have:=zJE (zCj h hb);omega,by have:=zJJ (zCj h hb);omega,fun x hx=>by have:=(zId (zCj h hb) hx).len;omega,fun x hx=>by have:=(zIu (zCj h hb) hx).len;omega⟩⟩
end
section
def zDN (l:List Cmd):Cat × yA:=l.foldl (fun c x=>apply smL c.1 x) (⟨[],[]⟩,⟨0,[]⟩)
def yQ (l:List Cmd):Cat:=(zDN l).1
theorem zGk (l:List Cmd) (x:Cmd):zDN (l ++ [x])=apply smL (yQ l) x:=by unfold yQ zDN;rw [List.foldl_append];rfl
theorem zEF {l:List Cmd} {i:Nat} {x:Cmd} (h:l[i]?=some x):zDN (l.take (i+1))=apply smL (yQ (l.take i)) x:=by rw [List.take_add_one,h];exact zGk _ _
theorem zFi {l:List Cmd} {i:Nat} {x:Cmd} (h:l[i]?=some x):yQ (l.take (i+1))=(apply smL (yQ (l.take i)) x).1:=by unfold yQ;rw [zEF h];rfl
def xL (l:List Cmd) (d:Cid):Nat:=l.findIdx (fun c=>decide (c.id=d))
theorem zIl {l:List Cmd} {d:Cid} (h:xL l d < l.length):∃ x,l[xL l d]?=some x∧x.id=d:=by
 refine ⟨l[xL l d],List.getElem?_eq_getElem h,?_⟩;have h9:=List.findIdx_getElem (p:=fun c:Cmd=>decide (c.id=d)) (xs:=l) (w:=h);exact of_decide_eq_true h9
def vZ (l:List Cmd) (x:Cmd):List Cmd × Nat:=if xL l x.id < l.length then (l,xL l x.id+1) else (l ++ [x],l.length+1)
def zGS (ms:List zS):Prop:=∀ m∈ms,xJ m.x
end
section
open Go.RowKit
theorem zJf (d:Nat) (a b:yA) (w:World):(Op.equalIn (d+2) 38 (xM a) (xM b)).run Tryz.prog w=.ok (decide (a=b)) w:=by
 have hu:Tryz.prog.underlying 38=some (.struct (Tryz.prog.fieldsOf 38)):=(by kernel_rfl);have hs:Tryz.prog.stoodInHeld 38=false:=(by kernel_rfl);have h:=Tryz.underlying38;unfold xM;rw [show d+2=(d+1)+1 from rfl,run_equalIn_agg w (d+1) 38 _ _ hu hs];simp only [Program.fieldsOf,h];have q3:=fun (x y:Int) (w:World)=>run_equalIn_int (P:=Tryz.prog) w d 3 .i64 .i64 x y Tryz.underlying3;have q9:=fun (x y:ByteArray) (w:World)=>run_equalIn_string (P:=Tryz.prog) w d 9 x y Tryz.underlying9
 simp [Op.eqFields,part,Tryz.isAgg3,Tryz.isAgg9,q3,q9,jV]
 obtain ⟨a1,a2⟩:=a;obtain ⟨b1,b2⟩:=b;simp only [yA.mk.injEq]
 by_cases h1:a1=b1 <;> by_cases h2:a2=b2 <;> simp [h1,h2]
end
section
theorem zCX {xs:List Cmd} {d:Cid} (h:xL xs d < xs.length) (ys:List Cmd):xL (xs ++ ys) d=xL xs d:=by
 unfold xL at h ⊢;rw [List.findIdx_append,if_pos h]
theorem zCr {xs:List Cmd} {x:Cmd} (h:¬ xL xs x.id < xs.length):xL (xs ++ [x]) x.id=xs.length:=by
 unfold xL at h ⊢;rw [List.findIdx_append,if_neg h]
 simp [List.findIdx_cons]
theorem zAB {G:List Cmd} {x:Cmd} (h:xL G x.id < G.length):vZ G x=(G,xL G x.id+1):=by unfold vZ;rw [if_pos h]
theorem zAi {G:List Cmd} {x:Cmd} (h:¬ xL G x.id < G.length):vZ G x=(G ++ [x],G.length+1):=by unfold vZ;rw [if_neg h]
def zEN (xs:List Cmd):List Cmd:=xs.foldl (fun l x=>(vZ l x).1) []
theorem zFz {xs:List Cmd} {i:Nat} {x:Cmd} (h:xs[i]?=some x):zEN (xs.take (i+1))=(vZ (zEN (xs.take i)) x).1:=by
 unfold zEN;rw [List.take_add_one,h,Option.toList_some,List.foldl_append]
 rfl
structure zBI (xs G:List Cmd) (i:Nat):Prop where
 uniq:∀ (j:Nat) (x:Cmd),G[j]?=some x→xL G x.id=j
 seen:∀ (j:Nat) (x:Cmd),j < i→xs[j]?=some x→xL G x.id < G.length
 sub:∀ x∈G,x∈xs
 len:G.length≤i
theorem zBI.start (xs:List Cmd):zBI xs [] 0:=⟨fun j x h=>by simp at h,fun j x h=>by omega,fun x h=>by simp at h,Nat.le_refl _⟩
theorem zBI.step {xs G:List Cmd} {i:Nat} {x:Cmd} (h:zBI xs G i) (hx:xs[i]?=some x):zBI xs (vZ G x).1 (i+1):=by
 by_cases hi:xL G x.id < G.length
 ·rw [zAB hi];refine ⟨h.uniq,fun j y hj hy=>?_,h.sub,Nat.le_succ_of_le h.len⟩
  by_cases e:j=i
  ·subst e;rw [hx] at hy
   cases hy
   exact hi
  ·exact h.seen j y (by omega) hy
 ·rw [zAi hi];have hnx:=zCr hi;refine ⟨fun j y hy=>?_,fun j y hj hy=>?_,fun y hy=>?_,by rw [List.length_append];have:=h.len;simp;omega⟩
  ·rcases Nat.lt_or_ge j G.length with hj | hj
   ·rw [List.getElem?_append_left hj] at hy;have h1:=h.uniq j y hy;rw [zCX (by rw [h1];exact hj),h1]
   ·rw [List.getElem?_append_right hj] at hy;obtain ⟨hj2,e⟩:=List.getElem?_eq_some_iff.1 hy
    simp at hj2
    have e2:j=G.length:=by omega
    simp at e
    subst e;rw [hnx,e2]
  ·rw [List.length_append]
   by_cases e:j=i
   ·subst e;rw [hx] at hy
    cases hy
    rw [hnx];simp
   ·have h1:=h.seen j y (by omega) hy;rw [zCX h1];omega
  ·rcases List.mem_append.1 hy with h1 | h1
   ·exact h.sub y h1
   ·rw [List.mem_singleton.1 h1];exact List.mem_of_getElem? hx
theorem zIi (G:List Cmd) (x:Cmd):∃ y,(vZ G x).1[(vZ G x).2 - 1]?=some y∧y.id=x.id:=by
 by_cases hi:xL G x.id < G.length
 ·rw [zAB hi];obtain ⟨y,h1,h2⟩:=zIl hi;exact ⟨y,h1,h2⟩
 ·rw [zAi hi];exact ⟨x,by simp,rfl⟩
theorem zIV (G:List Cmd) (x:Cmd):1≤(vZ G x).2∧(vZ G x).2≤(vZ G x).1.length∧G.length≤(vZ G x).1.length∧(vZ G x).1.length≤G.length+1:=by
 by_cases hi:xL G x.id < G.length
 ·rw [zAB hi];exact ⟨Nat.le_add_left _ _,hi,Nat.le_refl _,Nat.le_succ _⟩
 ·rw [zAi hi];simp
theorem zIO (G:List Cmd) (x:Cmd):xL (vZ G x).1 x.id < (vZ G x).1.length:=by
 by_cases hi:xL G x.id < G.length
 ·rw [zAB hi];exact hi
 ·rw [zAi hi,zCr hi];simp
theorem zIT (G:List Cmd) (x:Cmd):G=(vZ G x).1.take G.length:=by
 by_cases hi:xL G x.id < G.length
 ·rw [zAB hi];simp
 ·rw [zAi hi];simp
def yC (G:List Cmd):List yA:=(List.range G.length).map fun j=>(zDN (G.take (j+1))).2
theorem zIH {G:List Cmd} {j:Nat} (h:j < G.length):(yC G)[j]?=some (zDN (G.take (j+1))).2:=by
 unfold yC;rw [List.getElem?_map,List.getElem?_range h]
 rfl
theorem zGH (G:List Cmd) (x:Cmd):yC (G ++ [x])=yC G ++ [(zDN (G ++ [x])).2]:=by
 unfold yC;rw [List.length_append,List.length_singleton,List.range_succ,List.map_append]
 congr 1
 ·refine List.map_congr_left fun j hj=>?_;rw [List.take_append_of_le_length (by have:=List.mem_range.1 hj;omega)]
 ·simp only [List.map_cons,List.map_nil];rw [List.take_of_length_le (by simp)]
end
end Go.Proofs.YtfeglnpmpgipiaaGreatDoor
