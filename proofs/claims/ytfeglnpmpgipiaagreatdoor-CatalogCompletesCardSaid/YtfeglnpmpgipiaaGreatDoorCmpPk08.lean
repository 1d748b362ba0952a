/- CmpPk, part 8: Flat, OutK, Draw2. -/
import Derived.Test.YtfeglnpmpgipiaaGreatDoorCmpPk01
import Derived.Test.YtfeglnpmpgipiaaGreatDoorCmpPk05
import Derived.Test.YtfeglnpmpgipiaaGreatDoorCmpPk06
import Derived.Test.YtfeglnpmpgipiaaGreatDoorCmpPk07
import Derived.RangeFuncNested
import Derived.RangeFuncBound
import Derived.RangeFuncCalls
import Derived.RangeFuncLeaves
import Derived.TacticsInMore
import Derived.OwnWalkIn
import Derived.LoopNIn
import Derived.LoopIn
import Derived.Shelf.Abstract
set_option linter.unusedVariables false
set_option maxRecDepth 100000
set_option linter.unusedSimpArgs false
namespace Go.Proofs.YtfeglnpmpgipiaaGreatDoor
section
open Go.RowKit
section
variable {α:Type} (f:α→List Value) (K:Nat)
theorem flat_take (hf:∀ a,(f a).length=K) (l:List α) (k:Nat):(l.flatMap f).take (k * K)=(l.take k).flatMap f:=by
 induction l generalizing k with
 | nil=>simp
 | cons x l ih =>
  cases k with
  | zero=>simp
  | succ k =>
   rw [List.flatMap_cons,List.take_succ_cons,List.flatMap_cons,← ih k,List.take_append,List.take_of_length_le (by rw [hf,Nat.succ_mul];omega),hf,Nat.succ_mul,Nat.add_sub_cancel]
theorem flat_drop (hf:∀ a,(f a).length=K) (l:List α) (k:Nat):(l.flatMap f).drop (k * K)=(l.drop k).flatMap f:=by
 induction l generalizing k with
 | nil=>simp
 | cons x l ih =>
  cases k with
  | zero=>simp
  | succ k =>
   rw [List.flatMap_cons,List.drop_succ_cons,← ih k,List.drop_append,List.drop_eq_nil_of_le (by rw [hf,Nat.succ_mul];omega),hf,Nat.succ_mul,Nat.add_sub_cancel,List.nil_append]
theorem flat_one (h1:∀ a,∀ u∈f a,u.oneCell'=true) {l:List α} {v:Value} (h:v∈l.flatMap f):v.oneCell'=true:=by
 obtain ⟨o,_,h⟩:=List.mem_flatMap.1 h;exact h1 o v h
end
theorem OwnK.nil (w:World) (base K:Nat) (e:TypeId):OwnK w base e K (.slice none 0 0) 0 []:=⟨by simp,.inl ⟨rfl,rfl⟩⟩
theorem rd_take {α:Type} {f:α→List Value} {K:Nat} (hf:∀ a,(f a).length=K) {w:World} {r:Option Addr} {l:List α} (h:Rd w r (l.flatMap f)) (m:Nat):Rd w r ((l.take m).flatMap f):=by
 rw [← flat_take f K hf];exact h.take _
theorem OwnK.at {w:World} {base K n c:Nat} {e:TypeId} {p:Option Addr} {vs:List Value} (h:OwnK w base e K (.slice p n c) n vs) (hn:0 < n):∃ g,p=some ⟨g,0,none⟩∧base≤g∧g < w.heap.size:=by
 rcases h.2 with ⟨e1,rfl⟩ | ⟨g,cap,cur,e1,hg,hh,h1,h2,h3,h4⟩
 ·cases e1;omega
 ·cases e1
  have:=(h.view).2.2.2.2.2.2 g (by simp [blk]);exact ⟨g,rfl,this.1,this.2⟩
theorem rd_elem {α:Type} {f:α→List Value} {K:Nat} (hf:∀ a,(f a).length=K) {w:World} {a:Addr} {l:List α} (h:Rd w (some a) (l.flatMap f)) {j:Nat} {o:α} (hj:l[j]?=some o) {r:Nat} {v:Value} (hv:(f o)[r]?=some v):w.cell? (a.add (j * K+r))=some v:=by
 have hr:r < K:=(by rw [← hf o];exact (List.getElem?_eq_some_iff.1 hv).1);exact h.cells _ _ (by rw [flat_get f K hf l j o r hj hr];exact hv)
theorem ownBlkF {p:Option Addr} {n c x:Nat} (h:(Value.slice p n c).ownBlock=some x):x∈blk p:=by
 cases p with
 | none=>simp [Value.ownBlock] at h
 | some a=>simp [Value.ownBlock] at h;simp [blk,h]
theorem Row.loadS {P:Program} {w:World} {g:Nat} {t ty:TypeId} {fs:Array Field} {vs:List Value} (r:Row w g t vs) (hu:P.underlying ty=some (.struct fs)) (hi:(P.info? ty).map (·.size)=some vs.length):(loadVar ty ⟨g,0,none⟩).run P w=.ok (.agg vs.toArray) w :=
 run_loadVar_row w g t ty vs.toArray (0,0) _ r hu rfl (by simpa using hi)
theorem results_c1 {P:Program} {fn:Func} {a:Tmp} {ty t:TypeId} {fs:Array Field} {vs:List Value} (h:fn.results=#[.cell a ty]) (tmps:Array Value) (w:World) (g:Nat) (ht:tmps.getD a undef=.pointer (some ⟨g,0,none⟩)) (r:Row w g t vs) (hu:P.underlying ty=some (.struct fs)) (hi:(P.info? ty).map (·.size)=some vs.length) :
  (results fn tmps).run P w=.ok (.agg vs.toArray) w:=by
 rw [Array.getD_eq_getD_getElem?] at ht;have hl:=r.loadS hu hi
 simp [results,h,ht,hl,asAddr]
theorem results_c2 {P:Program} {fn:Func} {a b:Tmp} {ty t:TypeId} {fs:Array Field} {vs:List Value} (h:fn.results=#[.cell a ty,.tmp b]) (tmps:Array Value) (w:World) (g:Nat) (ht:tmps.getD a undef=.pointer (some ⟨g,0,none⟩)) (r:Row w g t vs) (hu:P.underlying ty=some (.struct fs)) (hi:(P.info? ty).map (·.size)=some vs.length) :
  (results fn tmps).run P w=.ok (.tuple #[.agg vs.toArray,tmps.getD b undef]) w:=by
 rw [Array.getD_eq_getD_getElem?] at ht;have hl:=r.loadS hu hi
 simp [results,h,ht,hl,asAddr]
end
section
open Go.RowKit
theorem OwnK.rowOf {w:World} {base K n m c:Nat} {e:TypeId} {p:Option Addr} {vs:List Value} (h:OwnK w base e K (.slice p m c) n vs) (hn:0 < n):∃ g rest,p=some ⟨g,0,none⟩∧base≤g∧Row w g e (vs ++ rest):=by
 rcases h.2 with ⟨e1,rfl⟩ | ⟨g,cap,cur,e1,hg,hh,h1,h2,h3,h4⟩
 ·omega
 ·cases e1
  refine ⟨g,cur.toList.drop (n * K),rfl,hg,?_⟩;rw [← h4,List.take_append_drop];unfold Row;simpa using hh
section
variable {α:Type} {f:α→List Value} {e:TypeId} {K:Nat}
end
end
section
open Go.RowKit
def RowS (g:Nat) (t:TypeId) (vs:List Value):Value→World→Prop:=fun _ w=>Row w g t vs
theorem RowS.stable {g:Nat} {t:TypeId} {vs:List Value}:Stable (Only []) (RowS g t vs):=fun _ _ _ h ho=>Row.only0 h ho
theorem RowS.stableO {S:List Nat} {g:Nat} {t:TypeId} {vs:List Value} (hg:g ∉ S):Stable (Only S) (RowS g t vs):=fun _ _ _ h ho=>Row.only h ho hg
theorem rg_load {P:Program} {o:Oper} {a:Act} {K:Act→World→Prop} {w:World} {x:Operand} {ty:TypeId} {pv v:Value} (ho:o.op=.load ty x) (hx:a.eval x=pv)
  (hr:(Instr.loadAt ty pv).run P w=.ok v w) (h:K (a.put o.dst v) w):o.wp P a w K (fun _ _ _=>False):=by
 unfold Oper.wp execOp;simp only [ho,hx,hr,Sem.run_bind,Sem.run_pure,Result.andThen_ok];exact h
end
end Go.Proofs.YtfeglnpmpgipiaaGreatDoor
