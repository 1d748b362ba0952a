/- GrwPk, part 9: Flat, vW, Draw2, Zone. -/
import Derived.Test.YtfeglnpmpgipiaaGreatDoorGrwPk01
import Derived.Test.YtfeglnpmpgipiaaGreatDoorGrwPk06
import Derived.Test.YtfeglnpmpgipiaaGreatDoorGrwPk07
import Derived.Test.YtfeglnpmpgipiaaGreatDoorGrwPk08
import Derived.RangeFuncNested
import Derived.RangeFuncBound
import Derived.RangeFuncCalls
import Derived.RangeFuncLeaves
import Derived.TacticsInMore
import Derived.OwnWalkIn
import Derived.LoopNIn
import Derived.LoopIn
import Derived.Shelf.Abstract
set_option linter.unusedVariables false
set_option maxRecDepth 100000
set_option linter.unusedSimpArgs false
namespace Go.Proofs.YtfeglnpmpgipiaaGreatDoor
section
open Go.RowKit
section
variable {α:Type} (f:α→List Value) (K:Nat)
theorem yI (hf:∀ a,(f a).length=K) (l:List α) (k:Nat):(l.flatMap f).take (k * K)=(l.take k).flatMap f:=by
 induction l generalizing k with
 | nil=>simp
 | cons x l ih =>
  cases k with
  | zero=>simp
  | succ k =>
   rw [List.flatMap_cons,List.take_succ_cons,List.flatMap_cons,← ih k,List.take_append,List.take_of_length_le (by rw [hf,Nat.succ_mul];omega),hf,Nat.succ_mul,Nat.add_sub_cancel]
theorem xU (hf:∀ a,(f a).length=K) (l:List α) (k:Nat):(l.flatMap f).drop (k * K)=(l.drop k).flatMap f:=by
 induction l generalizing k with
 | nil=>simp
 | cons x l ih =>
  cases k with
  | zero=>simp
  | succ k =>
   rw [List.flatMap_cons,List.drop_succ_cons,← ih k,List.drop_append,List.drop_eq_nil_of_le (by rw [hf,Nat.succ_mul];omega),hf,Nat.succ_mul,Nat.add_sub_cancel,List.nil_append]
theorem vD (h1:∀ a,∀ u∈f a,u.oneCell'=true) {l:List α} {v:Value} (h:v∈l.flatMap f):v.oneCell'=true:=by
 obtain ⟨o,_,h⟩:=List.mem_flatMap.1 h;exact h1 o v h
end
theorem zN.nil (w:World) (base K:Nat) (e:TypeId):zN w base e K (.slice none 0 0) 0 []:=⟨by simp,.inl ⟨rfl,rfl⟩⟩
theorem zBw {α:Type} {f:α→List Value} {K:Nat} (hf:∀ a,(f a).length=K) {w:World} {r:Option Addr} {l:List α} (h:Rd w r (l.flatMap f)) (m:Nat):Rd w r ((l.take m).flatMap f):=by
 rw [← yI f K hf];exact h.take _
theorem zN.at {w:World} {base K n c:Nat} {e:TypeId} {p:Option Addr} {vs:List Value} (h:zN w base e K (.slice p n c) n vs) (hn:0 < n):∃ g,p=some ⟨g,0,none⟩∧base≤g∧g < w.heap.size:=by
 rcases h.2 with ⟨e1,rfl⟩ | ⟨g,cap,cur,e1,hg,hh,h1,h2,h3,h4⟩
 ·cases e1;omega
 ·cases e1
  have:=(h.view).2.2.2.2.2.2 g (by simp [blk]);exact ⟨g,rfl,this.1,this.2⟩
theorem zP {α:Type} {f:α→List Value} {K:Nat} (hf:∀ a,(f a).length=K) {w:World} {a:Addr} {l:List α} (h:Rd w (some a) (l.flatMap f)) {j:Nat} {o:α} (hj:l[j]?=some o) {r:Nat} {v:Value} (hv:(f o)[r]?=some v):w.cell? (a.add (j * K+r))=some v:=by
 have hr:r < K:=(by rw [← hf o];exact (List.getElem?_eq_some_iff.1 hv).1);exact h.cells _ _ (by rw [flat_get f K hf l j o r hj hr];exact hv)
theorem zBt {p:Option Addr} {n c x:Nat} (h:(Value.slice p n c).ownBlock=some x):x∈blk p:=by
 cases p with
 | none=>simp [Value.ownBlock] at h
 | some a=>simp [Value.ownBlock] at h;simp [blk,h]
theorem Row.zGW {P:Program} {w:World} {g:Nat} {t ty:TypeId} {fs:Array Field} {vs:List Value} (r:Row w g t vs) (hu:P.underlying ty=some (.struct fs)) (hi:(P.info? ty).map (·.size)=some vs.length):(loadVar ty ⟨g,0,none⟩).run P w=.ok (.agg vs.toArray) w :=
 run_loadVar_row w g t ty vs.toArray (0,0) _ r hu rfl (by simpa using hi)
theorem qO {P:Program} {fn:Func} {a:Tmp} {ty t:TypeId} {fs:Array Field} {vs:List Value} (h:fn.results=#[.cell a ty]) (tmps:Array Value) (w:World) (g:Nat) (ht:tmps.getD a undef=.pointer (some ⟨g,0,none⟩)) (r:Row w g t vs) (hu:P.underlying ty=some (.struct fs)) (hi:(P.info? ty).map (·.size)=some vs.length) :
  (results fn tmps).run P w=.ok (.agg vs.toArray) w:=by
 rw [Array.getD_eq_getD_getElem?] at ht;have hl:=r.zGW hu hi
 simp [results,h,ht,hl,asAddr]
theorem zGJ {P:Program} {fn:Func} {a b:Tmp} {ty t:TypeId} {fs:Array Field} {vs:List Value} (h:fn.results=#[.cell a ty,.tmp b]) (tmps:Array Value) (w:World) (g:Nat) (ht:tmps.getD a undef=.pointer (some ⟨g,0,none⟩)) (r:Row w g t vs) (hu:P.underlying ty=some (.struct fs)) (hi:(P.info? ty).map (·.size)=some vs.length) :
  (results fn tmps).run P w=.ok (.tuple #[.agg vs.toArray,tmps.getD b undef]) w:=by
 rw [Array.getD_eq_getD_getElem?] at ht;have hl:=r.zGW hu hi
 simp [results,h,ht,hl,asAddr]
end
section
open Go.RowKit
def vW {α:Type} (f:α→List Value) (e:TypeId) (K:Nat) (w0 w:World) (q:Option Addr) (m k:Nat) (xs:List α):Prop:=zN w w0.heap.size e K (.slice q m k) m (xs.flatMap f)∧xs.length=m∧Only [] w0 w
theorem zN.rowOf {w:World} {base K n m c:Nat} {e:TypeId} {p:Option Addr} {vs:List Value} (h:zN w base e K (.slice p m c) n vs) (hn:0 < n):∃ g rest,p=some ⟨g,0,none⟩∧base≤g∧Row w g e (vs ++ rest):=by
 rcases h.2 with ⟨e1,rfl⟩ | ⟨g,cap,cur,e1,hg,hh,h1,h2,h3,h4⟩
 ·omega
 ·cases e1
  refine ⟨g,cur.toList.drop (n * K),rfl,hg,?_⟩;rw [← h4,List.take_append_drop];unfold Row;simpa using hh
section
variable {α:Type} {f:α→List Value} {e:TypeId} {K:Nat}
theorem vW.zB {w0 w w':World} {q:Option Addr} {m k:Nat} {ps:List α} (h:vW f e K w0 w q m k ps) (ho:Only [] w w'):vW f e K w0 w' q m k ps:=⟨h.1.zB ho,h.2.1,h.2.2.zC ho⟩
theorem vW.start {w0 w w2:World} (h:Only [] w0 w) (h2:w2=w.alloc (.cells #[] e)):vW f e K w0 w2 (some ⟨w.heap.size,0,none⟩) 0 0 [] :=
 ⟨by rw [h2];exact (zN.new (K:=K) (n:=0) [] (Nat.le_refl _) (by simp) (by omega)).weaken h.size,rfl,by rw [h2];exact h.zC (Only.alloc _ _)⟩
theorem vW.zJS {w0 w:World} (h:Only [] w0 w):vW f e K w0 w none 0 0 []:=⟨zN.nil _ _ _ _,rfl,h⟩
theorem vW.rd {w0 w:World} {q:Option Addr} {m k:Nat} {ps:List α} (h:vW f e K w0 w q m k ps):Rd w q (ps.flatMap f)∧(q=none→m=0∧k=0)∧m≤k:=⟨h.1.view.2.2.1,h.1.view.2.2.2.1,h.1.view.2.2.2.2.1⟩
theorem vW.blk {w0 w:World} {q:Option Addr} {m k:Nat} {ps:List α} (h:vW f e K w0 w q m k ps):∀ z∈blk q,w0.heap.size≤z∧z < w.heap.size:=h.1.view.2.2.2.2.2.2
end
end
section
open Go.RowKit
def qH (g:Nat) (t:TypeId) (vs:List Value):Value→World→Prop:=fun _ w=>Row w g t vs
theorem qH.stable {g:Nat} {t:TypeId} {vs:List Value}:Stable (Only []) (qH g t vs):=fun _ _ _ h ho=>Row.zB h ho
theorem qH.jC {S:List Nat} {g:Nat} {t:TypeId} {vs:List Value} (hg:g ∉ S):Stable (Only S) (qH g t vs):=fun _ _ _ h ho=>Row.only h ho hg
theorem zBN {P:Program} {o:Oper} {a:Act} {K:Act→World→Prop} {w:World} {x:Operand} {ty:TypeId} {pv v:Value} (ho:o.op=.load ty x) (hx:a.eval x=pv)
  (hr:(Instr.loadAt ty pv).run P w=.ok v w) (h:K (a.put o.dst v) w):o.wp P a w K (fun _ _ _=>False):=by
 unfold Oper.wp execOp;simp only [ho,hx,hr,Sem.run_bind,Sem.run_pure,Result.andThen_ok];exact h
end
section
open Go.RowKit
def RZ (Z:Nat) (t:TypeId) (cs:List Nat):World→World→Prop:=fun w w'=>Only [Z] w w'∧∀ vs,Row w Z t vs→∃ vs',Row w' Z t vs'∧vs'.length=vs.length∧∀ i,i ∉ cs→vs'[i]?=vs[i]?
theorem RZ.refl (Z:Nat) (t:TypeId) (cs:List Nat) (w:World):RZ Z t cs w w:=⟨Only.refl _ _,fun vs h=>⟨vs,h,rfl,fun _ _=>rfl⟩⟩
theorem RZ.trans {Z:Nat} {t:TypeId} {cs:List Nat} {a b c:World} (h:RZ Z t cs a b) (k:RZ Z t cs b c):RZ Z t cs a c :=
 ⟨h.1.trans k.1 (fun _ h _=>h),fun vs hr=>by
  obtain ⟨v1,r1,l1,s1⟩:=h.2 vs hr;obtain ⟨v2,r2,l2,s2⟩:=k.2 v1 r1
  exact ⟨v2,r2,l2.trans l1,fun i hi=>(s2 i hi).trans (s1 i hi)⟩⟩
theorem RZ.mono {Z:Nat} {t:TypeId} {cs ds:List Nat} {a b:World} (h:RZ Z t cs a b) (hs:∀ i∈cs,i∈ds):RZ Z t ds a b :=
 ⟨h.1,fun vs hr=>by
  obtain ⟨v1,r1,l1,s1⟩:=h.2 vs hr
  exact ⟨v1,r1,l1,fun i hi=>s1 i (fun hm=>hi (hs i hm))⟩⟩
theorem RZ.of0 {Z:Nat} {t:TypeId} {cs:List Nat} {a b:World} (h:Only [] a b):RZ Z t cs a b:=⟨h.mono (by simp),fun vs hr=>⟨vs,hr.zB h,rfl,fun _ _=>rfl⟩⟩
def StC (Z:Nat) (t:TypeId) (l:List (Nat × Value)):Value→World→Prop:=fun _ w=>∃ vs,Row w Z t vs∧∀ p∈l,vs[p.1]?=some p.2
theorem StC.stable {Z:Nat} {t:TypeId} {l:List (Nat × Value)}:Stable (Only []) (StC Z t l):=fun _ _ _ ⟨vs,h,k⟩ ho=>⟨vs,h.zB ho,k⟩
theorem StC.zAZ {Z:Nat} {t:TypeId} {l:List (Nat × Value)} {cs:List Nat} (h:∀ p∈l,p.1 ∉ cs):Stable (RZ Z t cs) (StC Z t l):=fun _ _ _ ⟨vs,hr,k⟩ ho=>by
 obtain ⟨v1,r1,l1,s1⟩:=ho.2 vs hr;exact ⟨v1,r1,fun p hp=>(s1 p.1 (h p hp)).trans (k p hp)⟩
theorem Row.inj {w:World} {Z:Nat} {t:TypeId} {vs us:List Value} (h:Row w Z t vs) (k:Row w Z t us):vs=us:=by
 unfold Row at h k;rw [h] at k
 simpa using k
theorem StC.app {Z:Nat} {t:TypeId} {l m:List (Nat × Value)} {u v:Value} {w:World} (h:StC Z t l u w) (k:StC Z t m v w):StC Z t (l ++ m) u w:=by
 obtain ⟨vs,hr,h1⟩:=h;obtain ⟨us,kr,k1⟩:=k;obtain rfl:=hr.inj kr;exact ⟨vs,hr,fun p hp=>(List.mem_append.1 hp).elim (h1 p) (k1 p)⟩
def zBu (vs:List Value) (l:List (Nat × Value)):List Value:=l.foldl (fun v p=>v.set p.1 p.2) vs
def zGT (w:World) (Z:Nat) (l:List (Nat × Value)):World:=l.foldl (fun w p=>w.setCell ⟨Z,p.1,none⟩ p.2) w
theorem zEU (l:List (Nat × Value)):∀ vs,(zBu vs l).length=vs.length:=by
 induction l with
 | nil=>intro vs;rfl
 | cons p l ih=>intro vs;show (zBu (vs.set p.1 p.2) l).length=_;rw [ih,List.length_set]
theorem zBH {l:List (Nat × Value)} {i:Nat}:∀ {vs},i ∉ l.map (·.1)→(zBu vs l)[i]?=vs[i]?:=by
 induction l with
 | nil=>intro vs _;rfl
 | cons p l ih =>
  intro vs h;simp only [List.map_cons,List.mem_cons,not_or] at h;show (zBu (vs.set p.1 p.2) l)[i]?=_;rw [ih h.2,List.getElem?_set_ne (fun e=>h.1 e.symm)]
theorem zFO {l:List (Nat × Value)}:∀ {vs},(l.map (·.1)).Nodup→(∀ p∈l,p.1 < vs.length)→∀ p∈l,(zBu vs l)[p.1]?=some p.2:=by
 induction l with
 | nil=>intro vs _ _ p hp;cases hp
 | cons q l ih =>
  intro vs hn hl p hp;simp only [List.map_cons,List.nodup_cons] at hn;show (zBu (vs.set q.1 q.2) l)[p.1]?=_
  rcases List.mem_cons.1 hp with rfl | hp
  ·rw [zBH hn.1,List.getElem?_set_self (hl _ (by simp))]
  ·exact ih hn.2 (fun x hx=>by rw [List.length_set];exact hl x (List.mem_cons_of_mem _ hx)) p hp
theorem zIn {l:List (Nat × Value)} {vs vs':List Value} (hn:(l.map (·.1)).Nodup) (hl:vs'.length=vs.length) (ho:∀ i,i ∉ l.map (·.1)→vs'[i]?=vs[i]?) (h:∀ p∈l,vs'[p.1]?=some p.2):vs'=zBu vs l:=by
 apply List.ext_getElem?;intro i
 by_cases hi:i∈l.map (·.1)
 ·obtain ⟨p,hp,rfl⟩:=List.mem_map.1 hi;rw [h p hp,zFO hn (fun q hq=>by rw [← hl];exact (List.getElem?_eq_some_iff.1 (h q hq)).1) p hp]
 ·rw [ho i hi,zBH hi]
theorem Row.sets {Z:Nat} {t:TypeId} (l:List (Nat × Value)):∀ {w:World} {vs:List Value},Row w Z t vs→Row (zGT w Z l) Z t (zBu vs l)∧Only [Z] w (zGT w Z l):=by
 induction l with
 | nil=>intro w vs h;exact ⟨h,Only.refl _ _⟩
 | cons p l ih =>
  intro w vs h;obtain ⟨h1,h2⟩:=ih (h.setCell p.1 p.2);exact ⟨h1,(Only.setCell w ⟨Z,p.1,none⟩ p.2).trans h2 (fun _ h _=>h)⟩
theorem StC.sets {Z:Nat} {t:TypeId} {w:World} {vs:List Value} (h:Row w Z t vs) (l:List (Nat × Value)) (hn:(l.map (·.1)).Nodup) (hl:∀ p∈l,p.1 < vs.length):StC Z t l undef (zGT w Z l)∧RZ Z t (l.map (·.1)) w (zGT w Z l):=by
 obtain ⟨h1,h2⟩:=h.sets l;refine ⟨⟨_,h1,zFO hn hl⟩,h2,fun us hu=>?_⟩;obtain rfl:=h.inj hu;exact ⟨_,h1,zEU _ _,fun i hi=>zBH hi⟩
theorem zDB {Z:Nat} {t:TypeId} {w0 w:World} {vs:List Value} {l:List (Nat × Value)} {u:Value} (hS:StC Z t l u w) (h0:Row w0 Z t vs) (hR:RZ Z t (l.map (·.1)) w0 w) (hn:(l.map (·.1)).Nodup):Row w Z t (zBu vs l):=by
 obtain ⟨v1,r1,l1,s1⟩:=hR.2 vs h0;obtain ⟨v2,r2,k⟩:=hS;obtain rfl:=r1.inj r2;rw [← zIn hn l1 s1 k];exact r1
end
end Go.Proofs.YtfeglnpmpgipiaaGreatDoor
