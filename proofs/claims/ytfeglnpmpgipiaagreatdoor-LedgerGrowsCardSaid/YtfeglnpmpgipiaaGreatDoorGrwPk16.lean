/- GrwPk, part 16: CatTools. -/
import Derived.Test.YtfeglnpmpgipiaaGreatDoorGrwPk05
import Derived.Test.YtfeglnpmpgipiaaGreatDoorGrwPk09
import Derived.Test.YtfeglnpmpgipiaaGreatDoorGrwPk14
import Derived.Test.YtfeglnpmpgipiaaGreatDoorGrwPk15
set_option linter.unusedVariables false
set_option maxRecDepth 100000
set_option linter.unusedSimpArgs false
namespace Go.Proofs.YtfeglnpmpgipiaaGreatDoor
section
open Go.RowKit
section
variable {α:Type}
def SlP (f:α→List Value) (e:TypeId) (K base:Nat) (p:Option Addr) (N n:Nat) (ys:List α):Value→World→Prop:=fun v w=>∃ p' c',v=.slice p' n c'∧zN w base e K (.slice p' n c') n (ys.flatMap f)∧∀ z∈blk p',z∈blk p∨N≤z
variable {f:α→List Value} {e:TypeId} {K base N n g off:Nat} {p:Option Addr} {ys:List α} {t:TypeId} {cur:List Value}
theorem SlP.stable:Stable (Only []) (SlP f e K base p N n ys):=fun _ _ _ ⟨p',c',h1,h2,h3⟩ ho=>⟨p',c',h1,h2.zB ho,h3⟩
def SlR (f:α→List Value) (e:TypeId) (K base:Nat) (p:Option Addr) (N n:Nat) (ys:List α) (g:Nat) (t:TypeId) (cur:List Value) (off:Nat):Value→World→Prop:=fun _ w=>∃ p' c',zN w base e K (.slice p' n c') n (ys.flatMap f)∧(∀ z∈blk p',z∈blk p∨N≤z)∧Row w g t (cur.set off (.slice p' n c'))
theorem SlR.stable:Stable (Only []) (SlR f e K base p N n ys g t cur off):=fun _ _ _ ⟨p',c',h2,h3,h4⟩ ho=>⟨p',c',h2.zB ho,h3,h4.zB ho⟩
end
def zGx (e:TypeId) (N:Nat) (vs:List Value):Value→World→Prop:=fun v w=>∃ g,v=.slice (some ⟨g,0,none⟩) 1 1∧N≤g∧Row w g e vs
theorem zGx.stable {e:TypeId} {N:Nat} {vs:List Value}:Stable (Only []) (zGx e N vs):=fun _ _ _ ⟨g,h1,h2,h3⟩ ho=>⟨g,h1,h2,h3.zB ho⟩
structure qX (w0 w':World) (B g o:Nat) (cur:List Value) (b:LBk) (new:List Nat) (cur':List Value) (b':LBk):Prop where
 row:Row w' g 60 cur'
 rcd:jF o cur' (zD b')
 out:Outside o 5 cur cur'
 own:qZ w' B b'
 fp:∀ z∈b'.fp,z∈b.fp∨z∈new∨w0.heap.size≤z
 only:Only (g :: b.fp) w0 w'
theorem qX.refl {w0 w':World} {B g o:Nat} {cur:List Value} {b:LBk} (hr:Row w0 g 60 cur) (ha:jF o cur (zD b)) (hown:qZ w0 B b) (new:List Nat) (ho:Only [] w0 w'):qX w0 w' B g o cur b new cur b :=
 ⟨hr.zB ho,ha,Outside.refl _ _ _,hown.zB ho,fun z hz=>.inl hz,ho.mono (by simp)⟩
theorem qX.trans {w0 w1 w2:World} {B g o:Nat} {cur cur1 cur2:List Value} {b b1 b2:LBk} {new new2:List Nat} (h:qX w0 w1 B g o cur b new cur1 b1) (k:qX w1 w2 B g o cur1 b1 new2 cur2 b2) (hn:∀ z∈new2,z∈b.fp∨w0.heap.size≤z) (hn1:∀ z∈new,z∈b.fp∨w0.heap.size≤z):qX w0 w2 B g o cur b [] cur2 b2:=by
 have hsz:=h.only.size
 have h1:∀ z∈b1.fp,z∈b.fp∨w0.heap.size≤z:=fun z hz=>by
  rcases h.fp z hz with h2 | h2 | h2
  ·exact .inl h2
  ·exact hn1 z h2
  ·exact .inr h2
 refine ⟨k.row,k.rcd,h.out.trans k.out,k.own,fun z hz=>?_,h.only.trans k.only (fun z hz hlt=>?_)⟩
 ·rcases k.fp z hz with h2 | h2 | h2
  ·exact (h1 z h2).imp id .inr
  ·exact (hn z h2).imp id .inr
  ·exact .inr (.inr (by omega))
 ·rcases List.mem_cons.1 hz with rfl | hz
  ·exact List.mem_cons_self ..
  ·rcases h1 z hz with h2 | h2
   ·exact List.mem_cons_of_mem _ h2
   ·omega
theorem qX.step {w0 w1 w2:World} {B g o:Nat} {cur cur1:List Value} {b b1:LBk} {new:List Nat} (h:qX w0 w1 B g o cur b new cur1 b1) (ho:Only [] w1 w2):qX w0 w2 B g o cur b new cur1 b1 :=
 ⟨h.row.zB ho,h.rcd,h.out,h.own.zB ho,h.fp,h.only.zC ho⟩
theorem qX.base {w0 w1 w2:World} {B g o:Nat} {cur cur1:List Value} {b b1:LBk} {new:List Nat} (h:qX w1 w2 B g o cur b new cur1 b1) (ho:Only [] w0 w1):qX w0 w2 B g o cur b new cur1 b1 :=
 ⟨h.row,h.rcd,h.out,h.own,fun z hz=>(h.fp z hz).imp id (fun k=>k.imp id (fun k=>Nat.le_trans ho.size k)),(ho.mono (by simp)).trans h.only (fun _ h _=>h)⟩
theorem qX.zAC {w0 w1 w2:World} {B g o:Nat} {cur cur1:List Value} {b b1:LBk} {new S:List Nat} (h:qX w0 w1 B g o cur b new cur1 b1) (ho:Only S w1 w2) (hg:g ∉ S) (hS:∀ z∈S,w0.heap.size≤z∧z ∉ b1.fp):qX w0 w2 B g o cur b new cur1 b1 :=
 ⟨h.row.only ho hg,h.rcd,h.out,h.own.only ho (fun z hz hm=>(hS z hm).2 hz),h.fp,h.only.zY ho (fun z hz=>(hS z hz).1)⟩
theorem zJK (b:LBk) (x:qG) (p':Option Addr) (c':Nat):zAF b.b x.o=if qC qG.key lt b.os x.o.key=false∧128≤b.os.length then (b.b,⟨7,[]⟩) else (({ b with os:=jN qG.key lt b.os x.o.key x,po:=p',co:=c' }:LBk).b,⟨0,x.o.etag⟩):=by
 unfold zAF;have h1:qC zAd.key lt b.b.vC x.o.key=qC qG.key lt b.os x.o.key:=zAs (key:=qG.key) qG.o (fun _=>rfl) b.os x.o.key;have h2:b.b.vC.length=b.os.length:=(by show (b.os.map qG.o).length=_;rw [List.length_map]);rw [h1,h2]
 split
 ·rfl
 ·rw [show b.b.vC=b.os.map qG.o from rfl,← zDE (key:=qG.key) (key':=zAd.key) qG.o (fun _=>rfl)]
  rfl
theorem vM (n:Int) (w0:World):Calls Tryz.prog 49 #[.int .i64 n] w0 fun e w'=>e=.returned (xM ⟨n,[]⟩)∧Only [] w0 w':=by
 obtain ⟨w1,hw1⟩:∃ w1,w1=w0.alloc (.cells #[.int .i64 n,.string ⟨#[]⟩] 38):=⟨_,rfl⟩;have o1:Only [] w0 w1:=(by rw [hw1];exact Only.alloc _ _);have r1:Row w1 w0.heap.size 38 (jJ ⟨n,[]⟩):=by rw [hw1];exact Row.zV _ _ _ _ rfl
 go_enter Tryz.func49,Tryz.ntmps49
 go_wp2_with fail;rw [← hw1];exact bodyPost_ret (qO rfl _ _ _ rfl r1 Tryz.underlying38 jH) rfl ⟨rfl,o1⟩
end
end Go.Proofs.YtfeglnpmpgipiaaGreatDoor
