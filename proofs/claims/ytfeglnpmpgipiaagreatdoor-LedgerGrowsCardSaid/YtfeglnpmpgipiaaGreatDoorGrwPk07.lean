/- GrwPk, part 7: Regions. -/
import Derived.Test.YtfeglnpmpgipiaaGreatDoorGrwPk01
import Derived.Test.YtfeglnpmpgipiaaGreatDoorGrwPk06
import Derived.Orders
set_option linter.unusedVariables false
set_option maxRecDepth 100000
set_option linter.unusedSimpArgs false
namespace Go.Proofs.YtfeglnpmpgipiaaGreatDoor
end Go.Proofs.YtfeglnpmpgipiaaGreatDoor
section
set_option linter.unusedVariables false
set_option maxRecDepth 100000
section
namespace Go.Proofs.YtfeglnpmpgipiaaGreatDoor
open Go.RowKit
section
variable {P:Program} {ops:Array Oper} {R:World→World→Prop} {w0:World} {a0:Act}
def Stable (R:World→World→Prop) (S:Value→World→Prop):Prop:=∀ v w w',S v w→R w w'→S v w'
def qL (T:List (Value→World→Prop)) (a0 a:Act) (w:World):List (Tmp × Option Nat)→Prop
 | []=>True
 | (t,none) :: r=>a.tmps.getD t undef=a0.tmps.getD t undef∧qL T a0 a w r
 | (t,some i) :: r=>(T.getD i (fun _ _=>False)) (a.tmps.getD t undef) w∧qL T a0 a w r
def yD (a:Act) (w:World):List Oper→List (Value→World→Prop)→Prop
 | o :: l,S :: T=>(match o.dst with | some d=>S (a.tmps.getD d undef) w | none=>True)∧yD a w l T
 | _,_=>True
def qW (P:Program) (ops:Array Oper) (R:World→World→Prop) (o:Oper) (S:Value→World→Prop) (a:Act) (w:World):Prop :=
 if Region.wanted o (yielded ops a.tmps) then o.wp P a w (fun a' w'=>∃ v,a'=a.put o.dst v∧S v w'∧R w w') (fun _ _ _=>False) else S undef w
def RG (P:Program) (ops:Array Oper) (R:World→World→Prop) (w0:World) (a0:Act) (Q:Exit→Act→World→Prop):List Oper→List (List (Tmp × Option Nat))→List (Value→World→Prop)→Prop
 | [],_,T=>∀ a w,R w0 w→a.defers=a0.defers→a.tmps.size=a0.tmps.size→(∀ t,(∀ (i:Nat) (o:Oper),ops[i]?=some o→o.dst≠some t)→a.tmps.getD t undef=a0.tmps.getD t undef) →
   yD a w ops.toList T→Q .normal a w
 | o :: l,fs :: plan,T=>∃ S,Stable R S∧(∀ a w,R w0 w→qL T a0 a w fs→qW P ops R o S a w)∧RG P ops R w0 a0 Q l plan (T ++ [S])
 | _ :: _,[],_=>False
def waitsFor (o:Oper) (i:Nat):Bool:=o.after.toList.any fun e=>Region.binds .any e && e.on == i
def jT (ops:Array Oper) (k:Nat) (o:Oper):Tmp × Option Nat→Bool
 | (t,none)=>(List.range ops.size).all fun i=>i == k || match ops[i]? with | some x=>x.dst != some t || waitsFor x k | none=>true
 | (t,some i)=>decide (i < k) && waitsFor o i && match ops[i]? with | some x=>x.dst == some t | none=>false
def jR (ops:Array Oper) (plan:List (List (Tmp × Option Nat))):Bool :=
 (plan.length == ops.size) &&
 (List.range ops.size).all fun k=>match ops[k]? with
  | some o=>(o.after.all fun e=>!Region.binds .any e || decide (e.on < k)) &&
    ((plan.getD k []).all (jT ops k o)) &&
    ((List.range ops.size).all fun i=>i == k || match ops[i]? with | some x=>x.dst == none || x.dst != o.dst | none=>true)
  | none=>true
theorem xI {T T':List (Value→World→Prop)} {a:Act} {w:World} {n:Nat} (hT:T'.take n=T) (hn:T.length=n):∀ {fs:List (Tmp × Option Nat)},(∀ t i,(t,some i)∈fs→i < n) →
  qL T' a0 a w fs→qL T a0 a w fs
 | [],_,h=>h
 | (t,none) :: r,hi,h=>⟨h.1,xI hT hn (fun t i hm=>hi t i (List.mem_cons_of_mem _ hm)) h.2⟩
 | (t,some i) :: r,hi,h=>by
  refine ⟨?_,xI hT hn (fun t i hm=>hi t i (List.mem_cons_of_mem _ hm)) h.2⟩;have hlt:=hi t i (by simp);have h1:=h.1
  have e:T.getD i (fun _ _=>False)=T'.getD i (fun _ _=>False):=by
   rw [← hT,List.getD_eq_getElem?_getD,List.getD_eq_getElem?_getD,List.getElem?_take,if_pos hlt]
  rw [e];exact h1
theorem zBk {Q:Exit→Act→World→Prop}:∀ (l:List Oper) (plan:List (List (Tmp × Option Nat))) (T:List (Value→World→Prop)),
  (∀ (k:Nat) fs,plan[k]?=some fs→∀ t i,(t,some i)∈fs→i < T.length+k)→RG P ops R w0 a0 Q l plan T →
  ∃ T',T'.take T.length=T∧T'.length=T.length+l.length ∧
   (∀ (k:Nat) o,l[k]?=some o→∃ fs S,plan[k]?=some fs∧T'[T.length+k]?=some S∧Stable R S∧∀ a w,R w0 w→qL T' a0 a w fs→qW P ops R o S a w) ∧
   (∀ a w,R w0 w→a.defers=a0.defers→a.tmps.size=a0.tmps.size→(∀ t,(∀ (i:Nat) (o:Oper),ops[i]?=some o→o.dst≠some t)→a.tmps.getD t undef=a0.tmps.getD t undef) →
    yD a w ops.toList T'→Q .normal a w)
 | [],_,T,_,h=>⟨T,List.take_length,rfl,fun k o hk=>by simp at hk,h⟩
 | o :: l,[],_,_,h=>h.elim
 | o :: l,fs :: plan,T,hi,h=>by
  obtain ⟨S,hS,hstep,hrest⟩:=h
  obtain ⟨T',h1,h2,h3,h4⟩:=zBk l plan (T ++ [S]) (fun k f hf t i hm=>by
   have:=hi (k+1) f (by simpa using hf) t i hm
   simp;omega) hrest
  have hlen:(T ++ [S]).length=T.length+1:=by simp
  have hT:T'.take T.length=T:=by
   have:=congrArg (List.take T.length) h1;rw [List.take_take,hlen,Nat.min_eq_left (by omega),List.take_left] at this;exact this
  have hS':T'[T.length]?=some S:=by
   have e:(T'.take (T ++ [S]).length)[T.length]?=(T ++ [S])[T.length]?:=(by rw [h1]);rw [List.getElem?_take,if_pos (by omega),List.getElem?_append_right (Nat.le_refl _)] at e
   simpa using e
  refine ⟨T',hT,by rw [h2,hlen];simp;omega,fun k x hk=>?_,h4⟩
  cases k with
  | zero =>
   simp only [List.getElem?_cons_zero,Option.some.injEq] at hk;subst hk;exact ⟨fs,S,rfl,hS',hS,fun a w hR hf=>hstep a w hR (xI hT rfl (fun t i hm=>by have:=hi 0 fs rfl t i hm;omega) hf)⟩
  | succ k =>
   obtain ⟨f,S2,e1,e2,e3,e4⟩:=h3 k x (by simpa using hk);refine ⟨f,S2,by simpa using e1,?_,e3,e4⟩;rw [hlen,show T.length+1+k=T.length+(k+1) by omega] at e2;exact e2
structure zIQ (ops:Array Oper) (R:World→World→Prop) (w0:World) (a0:Act) (T:List (Value→World→Prop)) (listed:Array Bool) (a:Act) (w:World):Prop where
 later:R w0 w
 defers:a.defers=a0.defers
 size:a.tmps.size=a0.tmps.size
 same:∀ t,(∀ (i:Nat) (o:Oper),ops[i]?=some o→listed.getD i true=true→o.dst≠some t)→a.tmps.getD t undef=a0.tmps.getD t undef
 told:∀ (i:Nat) (o:Oper) d,ops[i]?=some o→listed.getD i true=true→o.dst=some d→(T.getD i (fun _ _=>False)) (a.tmps.getD d undef) w
 closed:∀ (i:Nat) (o:Oper) k,ops[i]?=some o→listed.getD i true=true→waitsFor o k=true→listed.getD k true=true
theorem xO (a:Act) (d:Option Tmp) (v:Value) (t:Tmp) (h:d≠some t):(a.put d v).tmps.getD t undef=a.tmps.getD t undef:=by
 cases d with
 | none=>rfl
 | some d =>
  have:d≠t:=fun e=>h (by rw [e]);simp only [Act.put,Array.getD_eq_getD_getElem?];rw [Array.getElem?_setIfInBounds_ne this]
theorem zCH (a:Act) (d:Tmp) (v:Value) (h:d < a.tmps.size):(a.put (some d) v).tmps.getD d undef=v:=by
 simp [Act.put,h]
theorem zAk (a:Act) (d:Option Tmp) (v:Value):(a.put d v).tmps.size=a.tmps.size:=by cases d <;> simp [Act.put]
theorem put_defers (a:Act) (d:Option Tmp) (v:Value):(a.put d v).defers=a.defers:=by cases d <;> rfl
theorem Oper.wp_noexit {o:Oper} {a:Act} {w:World} {K K':Act→World→Prop} {Q:Exit→Act→World→Prop} (h:∀ a w,K a w→K' a w) (hh:o.wp P a w K (fun _ _ _=>False)):o.wp P a w K' Q:=by
 unfold Oper.wp at *;generalize (execOp a.eval o).run P w=r at *
 cases r with
 | ok n w' =>
  cases n <;> simp only [Oper.upon] at hh ⊢ <;>
   first
    | exact h _ _ hh
    | exact Calls.mono hh (fun e w'' he=>by
      cases e with
      | returned v=>exact h _ _ he
      | panicked c=>exact he.elim
      | outgrown=>obtain ⟨_,_,hf⟩:=he;exact hf.elim)
    | exact Rows.mono hh (fun _ _ he=>h _ _ he)
 | halt x w'=>cases x <;> simp only [Oper.upon] at hh ⊢
variable {T:List (Value→World→Prop)}
theorem vI:∀ (l:List Bool) (k:Nat),l[k]?=some false→((l.set k true).filter (!·)).length < (l.filter (!·)).length
 | [],_,h=>by simp at h
 | b :: l,0,h=>by simp at h;subst h;simp
 | b :: l,k+1,h=>by
  have:=vI l k (by simpa using h)
  cases b <;> simp [this]
theorem jI {listed:Array Bool} {k i:Nat} (h:(listed.setIfInBounds k true).getD i true=true):i=k∨listed.getD i true=true:=by
 by_cases e:k=i
 ·exact .inl e.symm
 ·right
  rw [Array.getD_eq_getD_getElem?,Array.getElem?_setIfInBounds_ne e] at h;rw [Array.getD_eq_getD_getElem?];exact h
theorem zJG {Q:Exit→Act→World→Prop} {plan:List (List (Tmp × Option Nat))} (hplan:jR ops plan=true) (htrans:∀ a b c,R a b→R b c→R a c) (hrefl:∀ w,R w w)
  (hdst:∀ (i:Nat) (o:Oper) d,ops[i]?=some o→o.dst=some d→d < a0.tmps.size)
  (hstep:∀ (k:Nat) o,ops[k]?=some o→∃ S,T[k]?=some S∧Stable R S∧∀ a w,R w0 w→qL T a0 a w (plan.getD k [])→qW P ops R o S a w)
  (hend:∀ a w,R w0 w→a.defers=a0.defers→a.tmps.size=a0.tmps.size→(∀ t,(∀ (i:Nat) (o:Oper),ops[i]?=some o→o.dst≠some t)→a.tmps.getD t undef=a0.tmps.getD t undef) →
   (∀ (i:Nat) (o:Oper) d,ops[i]?=some o→o.dst=some d→(T.getD i (fun _ _=>False)) (a.tmps.getD d undef) w)→Q .normal a w) :
  ∀ (fuel:Nat) (listed:Array Bool) (a:Act) (w:World),listed.size=ops.size→(listed.toList.filter (!·)).length≤fuel→zIQ ops R w0 a0 T listed a w→wpAny P .any ops Q fuel listed a w:=by
 simp only [jR,Bool.and_eq_true,beq_iff_eq,List.all_eq_true,List.mem_range] at hplan;obtain ⟨hpl,hpk⟩:=hplan;have hop:∀ (k:Nat) o,ops[k]?=some o→k < ops.size:=fun k o h=>(Array.getElem?_eq_some_iff.1 h).1
 have hall:∀ (k:Nat) o,ops[k]?=some o→(∀ e∈o.after,Region.binds .any e=true→e.on < k)∧(∀ f∈plan.getD k [],jT ops k o f=true) ∧
   (∀ (i:Nat) x,i≠k→ops[i]?=some x→∀ d,x.dst=some d→o.dst≠some d):=by
  intro k o hk;have:=hpk k (hop k o hk);simp only [hk,Bool.and_eq_true,List.all_eq_true,List.mem_range,Array.all_eq_true_iff_forall_mem] at this;obtain ⟨⟨h1,h2⟩,h3⟩:=this;refine ⟨fun e he hb=>?_,h2,fun i x hi hx d hd=>?_⟩
  ·have:=h1 e he;simp only [hb,Bool.not_true,Bool.false_or,decide_eq_true_eq] at this;exact this
  ·have:=h3 i (hop i x hx);simp only [hx,hd,Bool.or_eq_true,beq_iff_eq,hi,false_or,reduceCtorEq,bne_iff_ne,ne_eq] at this;exact fun e=>this e.symm
 have hfull:∀ (listed:Array Bool),listed.size=ops.size→Region.ready .any ops listed=[]→∀ (i:Nat),listed.getD i true=true:=by
  intro listed hs hr i
  induction i using Nat.strongRecOn with
  | _ i ih =>
   rcases Bool.eq_false_or_eq_true (listed.getD i true) with h | h
   ·exact h
   ·exfalso
    have hi:i < ops.size:=by
     rcases Nat.lt_or_ge i ops.size with h' | h'
     ·exact h'
     ·rw [Array.getD_eq_getD_getElem?,Array.getElem?_eq_none (by omega)] at h;cases h
    have ho:ops[i]?=some ops[i]:=Array.getElem?_eq_getElem hi
    have hm:i∈Region.ready .any ops listed:=by
     unfold Region.ready;rw [List.mem_filter];refine ⟨List.mem_range.2 hi,?_⟩;rw [h,ho];simp only [Bool.not_false,Bool.true_and,Option.map_some,Option.getD_some,Array.all_eq_true_iff_forall_mem,Bool.or_eq_true,Bool.not_eq_true'];intro e he
     by_cases hb:Region.binds .any e=true
     ·right
      have hlt:=(hall i _ ho).1 e he hb;have:=ih e.on hlt;rw [Array.getD_eq_getD_getElem?,Array.getElem?_eq_getElem (by omega)] at this ⊢;exact this
     ·left;simpa using hb
    rw [hr] at hm;cases hm
 have hfin:∀ (listed:Array Bool) (a:Act) (w:World),(∀ (i:Nat),listed.getD i true=true)→zIQ ops R w0 a0 T listed a w→Q .normal a w:=fun listed a w hl h =>
  hend a w h.later h.defers h.size (fun t ht=>h.same t (fun i o ho _=>ht i o ho)) (fun i o d ho hd=>h.told i o d ho (hl i) hd)
 intro fuel
 induction fuel with
 | zero =>
  intro listed a w hs hf h
  have hl:∀ (i:Nat),listed.getD i true=true:=by
   intro i;rw [Array.getD_eq_getD_getElem?]
   cases hi:listed[i]? with
   | none=>rfl
   | some b =>
    cases b with
    | true=>rfl
    | false =>
     have hm:false∈listed.toList.filter (!·):=List.mem_filter.2 ⟨by rw [Array.mem_toList_iff];exact Array.mem_of_getElem? hi,rfl⟩;have:listed.toList.filter (!·)=[]:=List.eq_nil_of_length_eq_zero (by omega);rw [this] at hm;cases hm
  refine ⟨?_,hfin listed a w hl h⟩;unfold Region.ready;apply List.filter_eq_nil_iff.2;intro i _;rw [hl i];simp
 | succ fuel ih =>
  intro listed a w hs hf h;refine ⟨fun hr=>hfin listed a w (hfull listed hs hr) h,fun k hk=>?_⟩;unfold Region.ready at hk;rw [List.mem_filter] at hk;obtain ⟨hk1,hk2⟩:=hk;have hkl:k < ops.size:=List.mem_range.1 hk1;have ho:ops[k]?=some ops[k]:=Array.getElem?_eq_getElem hkl;generalize ops[k]=o at ho;rw [ho] at hk2;simp only [Bool.and_eq_true,Bool.not_eq_true',Option.map_some,Option.getD_some,Array.all_eq_true_iff_forall_mem,Bool.or_eq_true] at hk2;obtain ⟨hun,haft⟩:=hk2;obtain ⟨hon,hfs,hdd⟩:=hall k o ho;obtain ⟨S,hS,hst,hrun⟩:=hstep k o ho
  have hwait:∀ i,waitsFor o i=true→listed.getD i true=true:=by
   intro i hw;simp only [waitsFor,List.any_eq_true,Bool.and_eq_true,beq_iff_eq] at hw;obtain ⟨e,he,hb,rfl⟩:=hw;rw [Array.mem_toList_iff] at he;have h1:=haft e he;rw [hb] at h1;have h2:listed.getD e.on false=true:=(by simpa using h1);have h3:=hon e he hb;rw [Array.getD_eq_getD_getElem?,Array.getElem?_eq_getElem (by omega)] at h2 ⊢;exact h2
  have hfacts:∀ fs,(∀ f∈fs,jT ops k o f=true)→qL T a0 a w fs:=by
   intro fs
   induction fs with
   | nil=>intro _;exact trivial
   | cons f fs ihf =>
    intro hf;have hrest:=ihf (fun g hg=>hf g (List.mem_cons_of_mem _ hg));have hf0:=hf f (by simp);obtain ⟨t,x⟩:=f
    cases x with
    | none =>
     refine ⟨h.same t (fun i x hx hl hd=>?_),hrest⟩;simp only [jT,List.all_eq_true,List.mem_range] at hf0;have h1:=hf0 i (hop i x hx);have hik:i≠k:=(by rintro rfl;rw [hun] at hl;cases hl);simp only [hx,hd,Bool.or_eq_true,beq_iff_eq,hik,false_or,bne_self_eq_false,Bool.false_eq_true] at h1;have:=h.closed i x k hx hl h1;rw [hun] at this;cases this
    | some i =>
     simp only [jT,Bool.and_eq_true,decide_eq_true_eq] at hf0;obtain ⟨⟨_,hw⟩,hd⟩:=hf0
     cases hx:ops[i]? with
     | none=>rw [hx] at hd;cases hd
     | some x =>
      rw [hx] at hd;exact ⟨h.told i x t hx (hwait i hw) (by simpa using hd),hrest⟩
  have hgo:=hrun a w h.later (hfacts _ hfs)
  have hnext:∀ v w',S v w'→R w w'→wpAny P .any ops Q fuel (listed.setIfInBounds k true) (a.put o.dst v) w':=by
   intro v w' hv hR;have hks:k < listed.size:=(by omega);refine ih _ _ _ (by simpa using hs) ?_ ⟨htrans _ _ _ h.later hR,by rw [put_defers,h.defers],by rw [zAk,h.size],?_,?_,?_⟩
   ·have hlt:((listed.setIfInBounds k true).toList.filter (!·)).length < (listed.toList.filter (!·)).length:=by
     have hk2:listed.toList[k]?=some false:=by
      rw [Array.getD_eq_getD_getElem?,Array.getElem?_eq_getElem hks] at hun;simp only [Option.getD_some] at hun;rw [Array.getElem?_toList,Array.getElem?_eq_getElem hks,hun]
     rw [Array.toList_setIfInBounds];exact vI _ _ hk2
    omega
   ·intro t ht;have h1:o.dst≠some t:=ht k o ho (by rw [Array.getD_eq_getD_getElem?,Array.getElem?_setIfInBounds_self_of_lt hks];rfl);rw [xO _ _ _ _ h1];refine h.same t (fun i x hx hl=>ht i x hx ?_)
    by_cases e:k=i
    ·subst e;rw [Array.getD_eq_getD_getElem?,Array.getElem?_setIfInBounds_self_of_lt hks];rfl
    ·rw [Array.getD_eq_getD_getElem?,Array.getElem?_setIfInBounds_ne e,← Array.getD_eq_getD_getElem?];exact hl
   ·intro i x d hx hl hd
    rcases jI hl with rfl | hl2
    ·rw [ho] at hx;cases hx;rw [hd,zCH _ _ _ (by rw [h.size];exact hdst i o d ho hd)];rw [List.getD_eq_getElem?_getD,hS];exact hv
    ·have hik:i≠k:=(by rintro rfl;rw [hun] at hl2;cases hl2);rw [xO _ _ _ _ (hdd i x hik hx d hd)];have h1:=h.told i x d hx hl2 hd;obtain ⟨S',hS',hst',_⟩:=hstep i x hx;rw [List.getD_eq_getElem?_getD,hS'] at h1 ⊢;exact hst' _ _ _ h1 hR
   ·intro i x j hx hl hw
    rcases jI hl with rfl | hl2
    ·rw [ho] at hx;cases hx;have:=hwait j hw
     by_cases e:i=j
     ·subst e;rw [Array.getD_eq_getD_getElem?,Array.getElem?_setIfInBounds_self_of_lt hks];rfl
     ·rw [Array.getD_eq_getD_getElem?,Array.getElem?_setIfInBounds_ne e,← Array.getD_eq_getD_getElem?];exact this
    ·have:=h.closed i x j hx hl2 hw
     by_cases e:k=j
     ·subst e;rw [Array.getD_eq_getD_getElem?,Array.getElem?_setIfInBounds_self_of_lt hks];rfl
     ·rw [Array.getD_eq_getD_getElem?,Array.getElem?_setIfInBounds_ne e,← Array.getD_eq_getD_getElem?];exact this
  unfold wpOp;rw [ho];unfold qW at hgo;dsimp only
  split
  ·rename_i hw
   rw [if_pos hw] at hgo;exact .inl (Oper.wp_noexit (fun a' w' ⟨v,e,hv,hR⟩=>by rw [e];exact hnext v w' hv hR) hgo)
  ·rename_i hw
   rw [if_neg hw] at hgo;exact hnext undef w hgo (hrefl w)
theorem zBm {a:Act} {w:World}:∀ (l:List Oper) (T:List (Value→World→Prop)) (n:Nat),(∀ (i:Nat) (o:Oper) d,l[i]?=some o→o.dst=some d→(T.getD i (fun _ _=>False)) (a.tmps.getD d undef) w)→l.length=n→T.length=n→yD a w l T
 | [],_,_,_,_,_=>trivial
 | _ :: _,[],_,_,h1,h2=>by simp at h2;subst h2;simp at h1
 | o :: l,S :: T,n,h,h1,h2=>by
  refine ⟨?_,zBm l T (n - 1) (fun i x d hx hd=>by have:=h (i+1) x d (by simpa using hx) hd;simpa using this) (by simp at h1;omega) (by simp at h2;omega)⟩
  cases hd:o.dst with
  | none=>trivial
  | some d=>simpa using h 0 o d rfl hd
theorem zEQ {id:Nat} {Q:Exit→Act→World→Prop} {l:List Oper} (R:World→World→Prop) (plan:List (List (Tmp × Option Nat))) (hplan:jR l.toArray plan=true)
  (hm:P.follows .mixedOrders=true) (hrefl:∀ w,R w w) (htrans:∀ a b c,R a b→R b c→R a c) (hdrew:R w0 w0.drew)
  (hdst:(l.all fun o=>match o.dst with | some d=>decide (d < a0.tmps.size) | none=>true)=true)
  (h:RG P l.toArray R w0 a0 Q l plan []):(Code.region id l.toArray true).wp P Q a0 w0:=by
 refine wp_region_any hm ?_;have hp:=hplan;simp only [jR,Bool.and_eq_true,beq_iff_eq,List.all_eq_true,List.mem_range] at hp;obtain ⟨hpl,hpk⟩:=hp;have hop:∀ (k:Nat) o,l.toArray[k]?=some o→k < l.toArray.size:=fun k o h=>(Array.getElem?_eq_some_iff.1 h).1
 obtain ⟨T,h1,h2,h3,h4⟩:=zBk l plan [] (fun k fs hk t i hm'=>by
  have hk':k < plan.length:=(List.getElem?_eq_some_iff.1 hk).1;have:=hpk k (by rw [← hpl];exact hk');rw [hpl] at hk';rw [Array.getElem?_eq_getElem hk'] at this;simp only [Bool.and_eq_true,List.all_eq_true] at this;have:=this.1.2 (t,some i) (by rw [List.getD_eq_getElem?_getD,hk];exact hm');simp only [jT,Bool.and_eq_true,decide_eq_true_eq] at this
  simpa using this.1.1) h
 simp only [List.length_nil,Nat.zero_add] at h2 h3;refine zJG (T:=T) (R:=R) (w0:=w0) (a0:=a0) hplan htrans hrefl ?_ ?_ ?_ _ _ _ _ (by simp) (by simp) ?_
 ·intro i o d ho hd
  have hm':o∈l:=by
   have:o∈l.toArray:=Array.mem_of_getElem? ho
   simpa using this
  have:=List.all_eq_true.1 hdst o hm';rw [hd] at this
  simpa using this
 ·intro k o ho;obtain ⟨fs,S,e1,e2,e3,e4⟩:=h3 k o (by simpa using ho);exact ⟨S,e2,e3,by rw [List.getD_eq_getElem?_getD,e1];exact e4⟩
 ·intro a w hR hd hs hsame htold;exact h4 a w hR hd hs hsame (zBm l.toArray.toList T l.length (fun i o d ho hd=>htold i o d (by simpa using ho) hd) (by simp) h2)
 ·refine ⟨hdrew,rfl,rfl,fun _ _=>rfl,fun i o d ho hl _=>?_,fun i o k ho hl _=>?_⟩
  ·have:=hop i o ho;simp only [List.size_toArray] at this
   simp [this] at hl
  ·have:=hop i o ho;simp only [List.size_toArray] at this
   simp [this] at hl
def back (n:Nat) (fs:List (Tmp × Option Nat)):List (Tmp × Option Nat):=fs.map fun x=>(x.1,x.2.map fun d=>n - 1 - d)
def xZ:Nat→List (List (Tmp × Option Nat))→List (List (Tmp × Option Nat))
 | _,[]=>[]
 | n,fs :: plan=>back n fs :: xZ (n+1) plan
def vN:Nat→List (List (Tmp × Option Nat))→Bool
 | _,[]=>true
 | n,fs :: plan=>(fs.all fun x=>match x.2 with | some d=>decide (d < n) | none=>true) && vN (n+1) plan
def RG2 (P:Program) (ops:Array Oper) (R:World→World→Prop) (w0:World) (a0:Act) (E:List (Value→World→Prop)→Prop):List Oper→List (List (Tmp × Option Nat))→List (Value→World→Prop)→Prop
 | [],_,T=>E T
 | o :: l,fs :: plan,T=>∃ S,Stable R S∧(∀ a w,R w0 w→qL T a0 a w fs→qW P ops R o S a w)∧RG2 P ops R w0 a0 E l plan (S :: T)
 | _ :: _,[],_=>False
theorem zBo {α:Type} (T:List α) (x:α) {d:Nat} (h:d < T.length):T.reverse.getD (T.length - 1 - d) x=T.getD d x:=by
 rw [List.getD_eq_getElem?_getD,List.getD_eq_getElem?_getD,List.getElem?_reverse (by omega)]
 congr 2;omega
theorem vB {a:Act} {w:World} (T:List (Value→World→Prop)):∀ (fs:List (Tmp × Option Nat)),(fs.all fun x=>match x.2 with | some d=>decide (d < T.length) | none=>true)=true →
  qL T.reverse a0 a w (back T.length fs)→qL T a0 a w fs
 | [],_,_=>trivial
 | (t,none) :: r,hd,h=>⟨h.1,vB T r (by simp only [List.all_cons,Bool.and_eq_true] at hd;exact hd.2) h.2⟩
 | (t,some d) :: r,hd,h=>by
  simp only [List.all_cons,Bool.and_eq_true,decide_eq_true_eq] at hd;refine ⟨?_,vB T r hd.2 h.2⟩;have h1:=h.1;rw [zBo T _ hd.1] at h1;exact h1
theorem zCL {Q:Exit→Act→World→Prop} {E:List (Value→World→Prop)→Prop}
  (hE:∀ T,E T→T.length=ops.size→∀ a w,R w0 w→a.defers=a0.defers→a.tmps.size=a0.tmps.size→(∀ t,(∀ (i:Nat) (o:Oper),ops[i]?=some o→o.dst≠some t)→a.tmps.getD t undef=a0.tmps.getD t undef) →
   yD a w ops.toList T.reverse→Q .normal a w) :
  ∀ (l:List Oper) (plan:List (List (Tmp × Option Nat))) (T:List (Value→World→Prop)),T.length+l.length=ops.size→vN T.length plan=true →
   RG2 P ops R w0 a0 E l plan T→RG P ops R w0 a0 Q l (xZ T.length plan) T.reverse
 | [],plan,T,hl,_,h=>by
  cases plan <;> exact hE T h (by simpa using hl)
 | o :: l,[],_,_,_,h=>h.elim
 | o :: l,fs :: plan,T,hl,hn,h=>by
  obtain ⟨S,h1,h2,h3⟩:=h;simp only [vN,Bool.and_eq_true] at hn;have:=zCL hE l plan (S :: T) (by simp only [List.length_cons] at hl ⊢;omega) (by simpa using hn.2) h3;rw [List.reverse_cons,List.length_cons] at this;exact ⟨S,h1,fun a w hR hf=>h2 a w hR (vB T fs hn.1 hf),this⟩
def qE:List (Option Tmp)→List Value→(Tmp→Value)→List Value
 | none :: m,v :: L,f=>v :: qE m L f
 | some t :: m,_ :: L,f=>f t :: qE m L f
 | _,_,_=>[]
def zAG (l:List Oper):Nat→List (Option Tmp)→Bool
 | _,[]=>true
 | n,none :: m=>(l.all fun o=>o.dst != some n) && zAG l (n+1) m
 | n,some t :: m=>t == n && zAG l (n+1) m
def zAR (T:List (Value→World→Prop)) (f:Tmp→Value) (w:World):List (Tmp × Nat)→Prop
 | []=>True
 | (t,d) :: r=>(T.getD d (fun _ _=>False)) (f t) w∧zAR T f w r
def zBC (l:List Oper) (fs:List (Tmp × Nat)):Bool:=fs.all fun x=>decide (x.2 < l.length) && match l[l.length - 1 - x.2]? with | some o=>o.dst == some x.1 | none=>false
theorem zAP {l:List Oper} {a:Act}:∀ (m:List (Option Tmp)) (L pre:List Value),zAG l pre.length m=true→m.length=L.length→(pre ++ L).length=a.tmps.size →
  (∀ t,(∀ (i:Nat) (o:Oper),l[i]?=some o→o.dst≠some t)→a.tmps.getD t undef=(pre ++ L).getD t undef)→(qE m L fun t=>a.tmps.getD t undef)=a.tmps.toList.drop pre.length
 | [],[],pre,_,_,h,_=>by
  simp only [List.append_nil] at h;rw [List.drop_of_length_le (by simp;omega)];rfl
 | [],_ :: _,_,_,h,_,_=>by simp at h
 | _ :: _,[],_,_,h,_,_=>by simp at h
 | x :: m,v :: L,pre,hm,hl,hs,hsame=>by
  have hlt:pre.length < a.tmps.toList.length:=by simp at hs ⊢;omega
  have ih:∀ u,zAG l (pre ++ [u]).length m=true→(∀ t,(∀ (i:Nat) (o:Oper),l[i]?=some o→o.dst≠some t)→a.tmps.getD t undef=((pre ++ [u]) ++ L).getD t undef) →
    (qE m L fun t=>a.tmps.getD t undef)=a.tmps.toList.drop (pre.length+1):=fun u h1 h2=>by
   have:=zAP m L (pre ++ [u]) h1 (by simpa using hl) (by simp at hs ⊢;omega) h2
   simpa using this
  have hat:a.tmps.getD pre.length undef=a.tmps.toList[pre.length]:=by
   rw [Array.getD_eq_getD_getElem?,← Array.getElem?_toList,List.getElem?_eq_getElem hlt];rfl
  rw [List.drop_eq_getElem_cons hlt]
  cases x with
  | none =>
   simp only [zAG,Bool.and_eq_true,List.all_eq_true,bne_iff_ne,ne_eq] at hm;have h0:=hsame pre.length (fun i o ho=>hm.1 o (List.mem_of_getElem? ho));simp only [qE];rw [ih v (by simpa using hm.2) (fun t ht=>by rw [hsame t ht];simp)]
   congr 1
   rw [← hat,h0,List.getD_eq_getElem?_getD,List.getElem?_append_right (Nat.le_refl _)]
   simp
  | some t =>
   simp only [zAG,Bool.and_eq_true,beq_iff_eq] at hm;simp only [qE];rw [ih v (by simpa using hm.2) (fun t ht=>by rw [hsame t ht];simp),hm.1,hat]
theorem zBQ {l:List Oper} {a:Act} {w:World} {T:List (Value→World→Prop)} (hlen:T.length=l.length) (hall:yD a w l T.reverse):∀ (fs:List (Tmp × Nat)),zBC l fs=true→zAR T (fun t=>a.tmps.getD t undef) w fs
 | [],_=>trivial
 | (t,d) :: r,h=>by
  simp only [zBC,List.all_cons,Bool.and_eq_true,decide_eq_true_eq] at h;obtain ⟨⟨hd,ho⟩,hr⟩:=h;refine ⟨?_,zBQ hlen hall r (by simpa [zBC] using hr)⟩
  have key:∀ (l:List Oper) (T:List (Value→World→Prop)) (k:Nat) o S d,yD a w l T→l[k]?=some o→T[k]?=some S→o.dst=some d→S (a.tmps.getD d undef) w:=by
   intro l
   induction l with
   | nil=>intro T k o S d _ h;simp at h
   | cons x l ih =>
    intro T k o S d hf h1 h2 h3
    cases T with
    | nil=>simp at h2
    | cons S' T =>
     cases k with
     | zero =>
      simp only [List.getElem?_cons_zero,Option.some.injEq] at h1 h2;subst h1 h2;have:=hf.1;rw [h3] at this;exact this
     | succ k=>exact ih T k o S d hf.2 (by simpa using h1) (by simpa using h2) h3
  have hk:l.length - 1 - d < l.length:=(by omega);rw [List.getElem?_eq_getElem hk] at ho
  have hS:T.reverse[l.length - 1 - d]?=some T[d]:=by
   rw [List.getElem?_reverse (by omega),show T.length - 1 - (l.length - 1 - d)=d by omega,List.getElem?_eq_getElem (by omega)]
  have:=key l T.reverse (l.length - 1 - d) _ _ t hall (List.getElem?_eq_getElem hk) hS (by simpa using ho);rw [List.getD_eq_getElem?_getD,List.getElem?_eq_getElem (by omega:d < T.length)];exact this
theorem qY {id:Nat} {Q:Exit→Act→World→Prop} {l:List Oper} {L:List Value} {ds:List Deferred} (R:World→World→Prop) (plan:List (List (Tmp × Option Nat))) (fin:List (Tmp × Nat)) (mask:List (Option Tmp))
  (hplan:(jR l.toArray (xZ 0 plan) && vN 0 plan && zAG l 0 mask && zBC l fin)=true) (hmask:mask.length=L.length)
  (hm:P.follows .mixedOrders=true) (hrefl:∀ w,R w w) (htrans:∀ a b c,R a b→R b c→R a c) (hdrew:R w0 w0.drew)
  (hdst:(l.all fun o=>match o.dst with | some d=>decide (d < L.length) | none=>true)=true)
  (h:RG2 P l.toArray R w0 ⟨L.toArray,ds⟩ (fun T=>∀ f w,R w0 w→zAR T f w fin→Q .normal ⟨(qE mask L f).toArray,ds⟩ w) l plan []):(Code.region id l.toArray true).wp P Q ⟨L.toArray,ds⟩ w0:=by
 simp only [Bool.and_eq_true] at hplan;obtain ⟨⟨⟨h1,h2⟩,h3⟩,h4⟩:=hplan;refine zEQ R (xZ 0 plan) h1 hm hrefl htrans hdrew (by simpa using hdst) ?_;refine zCL (ops:=l.toArray) ?_ l plan [] (by simp) h2 h;intro T hE hT a w hR hd hs hsame hall;have hT':T.length=l.length:=(by simpa using hT);have hf:=hE _ w hR (zBQ hT' (by simpa using hall) fin h4)
 have hmerge:=zAP (l:=l) (a:=a) mask L [] h3 hmask (by simpa using hs.symm) (fun t ht=>by
  have:=hsame t (fun i o ho=>ht i o (by simpa using ho));rw [this]
  simp [Array.getD_eq_getD_getElem?,List.getD_eq_getElem?_getD])
 rw [hmerge] at hf;simp only [List.length_nil,List.drop_zero] at hf;have e:a=⟨a.tmps,ds⟩:=(by cases a;simp only at hd;rw [hd]);rw [e];exact hf
def EV (v:Value):Value→World→Prop:=fun u _=>u=v
theorem EV.stable {R:World→World→Prop} (v:Value):Stable R (EV v):=fun _ _ _ h _=>h
theorem zJ {E:List (Value→World→Prop)→Prop} {o:Oper} {l:List Oper} {fs:List (Tmp × Option Nat)} {plan:List (List (Tmp × Option Nat))} {T:List (Value→World→Prop)} {v:Value}
  (h1:∀ a w,R w0 w→qL T a0 a w fs→qW P ops R o (EV v) a w) (h2:RG2 P ops R w0 a0 E l plan (EV v :: T)):RG2 P ops R w0 a0 E (o :: l) (fs :: plan) T:=⟨EV v,EV.stable v,h1,h2⟩
theorem zA {o:Oper} {S:Value→World→Prop} {a:Act} {w:World} (hg:o.guard=none)
  (h:∀ K:Act→World→Prop,(∀ v w',S v w'→R w w'→K (a.put o.dst v) w')→o.wp P a w K (fun _ _ _=>False)):qW P ops R o S a w:=by
 unfold qW;rw [if_pos (by simp [Region.wanted,hg])];exact h _ fun v w' hv hR=>⟨v,rfl,hv,hR⟩
theorem zAv {a:Act} {j d:Nat} {b:Bool} (hd:(ops[j]?).bind (·.dst)=some d) (h:a.tmps.getD d undef=.bool b):yielded ops a.tmps j=some b:=by
 unfold yielded;rw [hd];rw [Array.getD_eq_getD_getElem?] at h
 cases hx:a.tmps[d]? with
 | none=>rw [hx] at h;cases h
 | some v=>rw [hx] at h;simp only [Option.getD_some] at h;subst h;simp [hx]
theorem zX {o:Oper} {S:Value→World→Prop} {a:Act} {w:World} {j:Nat} {want:Bool} {d:Nat} (hg:o.guard=some (j,want)) (hd:(ops[j]?).bind (·.dst)=some d) (hb:a.tmps.getD d undef=.bool want)
  (h:∀ K:Act→World→Prop,(∀ v w',S v w'→R w w'→K (a.put o.dst v) w')→o.wp P a w K (fun _ _ _=>False)):qW P ops R o S a w:=by
 unfold qW;rw [if_pos (by simp [Region.wanted,hg,zAv hd hb])];exact h _ fun v w' hv hR=>⟨v,rfl,hv,hR⟩
theorem xQ {o:Oper} {a:Act} {w:World} {j:Nat} {want:Bool} {d:Nat} {b:Bool} (hg:o.guard=some (j,want)) (hd:(ops[j]?).bind (·.dst)=some d) (hb:a.tmps.getD d undef=.bool b) (hne:(b == want)=false):qW P ops R o (EV undef) a w:=by
 unfold qW;rw [if_neg]
 ·rfl
 ·simp only [Region.wanted,hg,zAv hd hb]
  cases b <;> cases want <;> simp_all
end
end Go.Proofs.YtfeglnpmpgipiaaGreatDoor
end
section
namespace Go.Proofs.YtfeglnpmpgipiaaGreatDoor
open Go.RowKit
def zET (ops:Array Oper) (d:Nat) (acc:List Nat) (k:Nat):List Nat :=
 if (d :: acc).any (fun m=>match ops[m]? with | some o=>waitsFor o k | none=>false) then k :: acc else acc
def zAc (ops:Array Oper) (d:Nat):List Nat:=(List.range d).reverse.foldl (zET ops d) []
def before (ops:Array Oper) (dirty:List Nat) (k:Nat):Bool:=dirty.all fun d=>d == k || (zAc ops d).contains k
theorem xK (ops:Array Oper) (d:Nat) (listed:Array Bool) (hd:listed.getD d true=true) (hdl:∃ o,ops[d]?=some o) (hcl:∀ (i:Nat) (o:Oper) k,ops[i]?=some o→listed.getD i true=true→waitsFor o k=true→listed.getD k true=true) :
  ∀ k∈zAc ops d,listed.getD k true=true:=by
 unfold zAc
 suffices H:∀ (l acc:List Nat),(∀ k∈acc,listed.getD k true=true)→∀ k∈l.foldl (zET ops d) acc,listed.getD k true=true from H _ [] (by simp)
 intro l
 induction l with
 | nil=>intro acc h;exact h
 | cons x l ih =>
  intro acc h;refine ih _ ?_;unfold zET
  split
  ·rename_i hany
   intro k hk
   rcases List.mem_cons.1 hk with rfl | hk
   ·obtain ⟨m,hm,hw⟩:=List.any_eq_true.1 hany
    cases ho:ops[m]? with
    | none=>rw [ho] at hw;cases hw
    | some o =>
     rw [ho] at hw;refine hcl m o k ho ?_ hw
     rcases List.mem_cons.1 hm with rfl | hm
     ·exact hd
     ·exact h m hm
   ·exact h k hk
  ·exact h
section
variable {P:Program} {ops:Array Oper} {R:World→World→Prop} {C:World→Prop} {dirty:List Nat} {w0:World} {a0:Act}
variable {T:List (Value→World→Prop)}
end
end Go.Proofs.YtfeglnpmpgipiaaGreatDoor
end
section
set_option linter.unusedVariables false
namespace Go.Proofs.YtfeglnpmpgipiaaGreatDoor
open Go.RowKit
section
variable {P:Program} {ops:Array Oper} {R:World→World→Prop} {Rs:Nat→World→World→Prop} {C:Nat→World→Prop} {dirty:List Nat} {w0:World} {a0:Act}
def ahead (ops:Array Oper) (d k:Nat):Bool:=d == k || (zAc ops d).contains k
def Rk4 (ops:Array Oper) (R:World→World→Prop) (Rs:Nat→World→World→Prop) (C:Nat→World→Prop) (dirty:List Nat) (k:Nat):World→World→Prop:=fun w w'=>R w w'∧Rs k w w'∧(∀ d∈dirty,d≠k→(zAc ops k).contains d=false→C d w→C d w')
def zBF (ops:Array Oper) (Rs:Nat→World→World→Prop) (k:Nat) (S:Value→World→Prop):Prop:=∀ j,j≠k→(zAc ops k).contains j=false→Stable (Rs j) S
theorem zBF.ev {ops:Array Oper} {Rs:Nat→World→World→Prop} {k:Nat} (v:Value):zBF ops Rs k (EV v):=fun _ _ _=>EV.stable _
def RGD (P:Program) (ops:Array Oper) (R:World→World→Prop) (Rs:Nat→World→World→Prop) (C:Nat→World→Prop) (dirty:List Nat) (w0:World) (a0:Act) (Q:Exit→Act→World→Prop):List Oper→List (List (Tmp × Option Nat))→List (Value→World→Prop)→Prop
 | [],_,T=>∀ a w,R w0 w→a.defers=a0.defers→a.tmps.size=a0.tmps.size→(∀ t,(∀ (i:Nat) (o:Oper),ops[i]?=some o→o.dst≠some t)→a.tmps.getD t undef=a0.tmps.getD t undef) →
   yD a w ops.toList T→(∀ S∈T,∃ v,S v w)→Q .normal a w
 | o :: l,fs :: plan,T=>∃ S,zBF ops Rs T.length S∧(∀ a w,R w0 w→(∀ d∈dirty,ahead ops d T.length=true→C d w)→qL T a0 a w fs→qW P ops (Rk4 ops R Rs C dirty T.length) o S a w)∧RGD P ops R Rs C dirty w0 a0 Q l plan (T ++ [S])
 | _ :: _,[],_=>False
theorem zCM {Q:Exit→Act→World→Prop}:∀ (l:List Oper) (plan:List (List (Tmp × Option Nat))) (T:List (Value→World→Prop)),
  (∀ (k:Nat) fs,plan[k]?=some fs→∀ t i,(t,some i)∈fs→i < T.length+k)→RGD P ops R Rs C dirty w0 a0 Q l plan T →
  ∃ T',T'.take T.length=T∧T'.length=T.length+l.length ∧
   (∀ (k:Nat) o,l[k]?=some o→∃ fs S,plan[k]?=some fs∧T'[T.length+k]?=some S∧zBF ops Rs (T.length+k) S∧∀ a w,R w0 w→(∀ d∈dirty,ahead ops d (T.length+k)=true→C d w)→qL T' a0 a w fs→qW P ops (Rk4 ops R Rs C dirty (T.length+k)) o S a w) ∧
   (∀ a w,R w0 w→a.defers=a0.defers→a.tmps.size=a0.tmps.size→(∀ t,(∀ (i:Nat) (o:Oper),ops[i]?=some o→o.dst≠some t)→a.tmps.getD t undef=a0.tmps.getD t undef) →
    yD a w ops.toList T'→(∀ S∈T',∃ v,S v w)→Q .normal a w)
 | [],_,T,_,h=>⟨T,List.take_length,rfl,fun k o hk=>by simp at hk,h⟩
 | o :: l,[],_,_,h=>h.elim
 | o :: l,fs :: plan,T,hi,h=>by
  obtain ⟨S,hS,hstep,hrest⟩:=h
  obtain ⟨T',h1,h2,h3,h4⟩:=zCM l plan (T ++ [S]) (fun k f hf t i hm=>by
   have:=hi (k+1) f (by simpa using hf) t i hm
   simp;omega) hrest
  have hlen:(T ++ [S]).length=T.length+1:=by simp
  have hT:T'.take T.length=T:=by
   have:=congrArg (List.take T.length) h1;rw [List.take_take,hlen,Nat.min_eq_left (by omega),List.take_left] at this;exact this
  have hS':T'[T.length]?=some S:=by
   have e:(T'.take (T ++ [S]).length)[T.length]?=(T ++ [S])[T.length]?:=(by rw [h1]);rw [List.getElem?_take,if_pos (by omega),List.getElem?_append_right (Nat.le_refl _)] at e
   simpa using e
  refine ⟨T',hT,by rw [h2,hlen];simp;omega,fun k x hk=>?_,h4⟩
  cases k with
  | zero =>
   simp only [List.getElem?_cons_zero,Option.some.injEq] at hk;subst hk;exact ⟨fs,S,rfl,hS',hS,fun a w hR hC hf=>hstep a w hR hC (xI hT rfl (fun t i hm=>by have:=hi 0 fs rfl t i hm;omega) hf)⟩
  | succ k =>
   obtain ⟨f,S2,e1,e2,e3,e4⟩:=h3 k x (by simpa using hk);have e5:(T ++ [S]).length+k=T.length+(k+1):=(by rw [hlen];omega);rw [e5] at e2 e3 e4;exact ⟨f,S2,by simpa using e1,e2,e3,e4⟩
structure zIB (ops:Array Oper) (R:World→World→Prop) (Rs:Nat→World→World→Prop) (C:Nat→World→Prop) (dirty:List Nat) (w0:World) (a0:Act) (T:List (Value→World→Prop)) (listed:Array Bool) (a:Act) (w:World):Prop extends zIQ ops R w0 a0 T listed a w where
 clean:∀ d∈dirty,listed.getD d true=false→C d w
 done:∀ (i:Nat) (o:Oper),ops[i]?=some o→listed.getD i true=true→∃ v,(T.getD i (fun _ _=>False)) v w
variable {T:List (Value→World→Prop)}
theorem zIz {Q:Exit→Act→World→Prop} {plan:List (List (Tmp × Option Nat))} (hplan:jR ops plan=true) (htrans:∀ a b c,R a b→R b c→R a c) (hrefl:∀ w,R w w) (hsrefl:∀ k w,Rs k w w)
  (hdst:∀ (i:Nat) (o:Oper) d,ops[i]?=some o→o.dst=some d→d < a0.tmps.size)
  (hstep:∀ (k:Nat) o,ops[k]?=some o→∃ S,T[k]?=some S∧zBF ops Rs k S∧∀ a w,R w0 w→(∀ d∈dirty,ahead ops d k=true→C d w)→qL T a0 a w (plan.getD k [])→qW P ops (Rk4 ops R Rs C dirty k) o S a w)
  (hdirty:∀ d∈dirty,d < ops.size)
  (hend:∀ a w,R w0 w→a.defers=a0.defers→a.tmps.size=a0.tmps.size→(∀ t,(∀ (i:Nat) (o:Oper),ops[i]?=some o→o.dst≠some t)→a.tmps.getD t undef=a0.tmps.getD t undef) →
   (∀ (i:Nat) (o:Oper) d,ops[i]?=some o→o.dst=some d→(T.getD i (fun _ _=>False)) (a.tmps.getD d undef) w)→(∀ (i:Nat) (o:Oper),ops[i]?=some o→∃ v,(T.getD i (fun _ _=>False)) v w)→Q .normal a w) :
  ∀ (fuel:Nat) (listed:Array Bool) (a:Act) (w:World),listed.size=ops.size→(listed.toList.filter (!·)).length≤fuel→zIB ops R Rs C dirty w0 a0 T listed a w→wpAny P .any ops Q fuel listed a w:=by
 simp only [jR,Bool.and_eq_true,beq_iff_eq,List.all_eq_true,List.mem_range] at hplan;obtain ⟨hpl,hpk⟩:=hplan;have hop:∀ (k:Nat) o,ops[k]?=some o→k < ops.size:=fun k o h=>(Array.getElem?_eq_some_iff.1 h).1
 have hall:∀ (k:Nat) o,ops[k]?=some o→(∀ e∈o.after,Region.binds .any e=true→e.on < k)∧(∀ f∈plan.getD k [],jT ops k o f=true) ∧
   (∀ (i:Nat) x,i≠k→ops[i]?=some x→∀ d,x.dst=some d→o.dst≠some d):=by
  intro k o hk;have:=hpk k (hop k o hk);simp only [hk,Bool.and_eq_true,List.all_eq_true,List.mem_range,Array.all_eq_true_iff_forall_mem] at this;obtain ⟨⟨h1,h2⟩,h3⟩:=this;refine ⟨fun e he hb=>?_,h2,fun i x hi hx d hd=>?_⟩
  ·have:=h1 e he;simp only [hb,Bool.not_true,Bool.false_or,decide_eq_true_eq] at this;exact this
  ·have:=h3 i (hop i x hx);simp only [hx,hd,Bool.or_eq_true,beq_iff_eq,hi,false_or,reduceCtorEq,bne_iff_ne,ne_eq] at this;exact fun e=>this e.symm
 have hfull:∀ (listed:Array Bool),listed.size=ops.size→Region.ready .any ops listed=[]→∀ (i:Nat),listed.getD i true=true:=by
  intro listed hs hr i
  induction i using Nat.strongRecOn with
  | _ i ih =>
   rcases Bool.eq_false_or_eq_true (listed.getD i true) with h | h
   ·exact h
   ·exfalso
    have hi:i < ops.size:=by
     rcases Nat.lt_or_ge i ops.size with h' | h'
     ·exact h'
     ·rw [Array.getD_eq_getD_getElem?,Array.getElem?_eq_none (by omega)] at h;cases h
    have ho:ops[i]?=some ops[i]:=Array.getElem?_eq_getElem hi
    have hm:i∈Region.ready .any ops listed:=by
     unfold Region.ready;rw [List.mem_filter];refine ⟨List.mem_range.2 hi,?_⟩;rw [h,ho];simp only [Bool.not_false,Bool.true_and,Option.map_some,Option.getD_some,Array.all_eq_true_iff_forall_mem,Bool.or_eq_true,Bool.not_eq_true'];intro e he
     by_cases hb:Region.binds .any e=true
     ·right
      have hlt:=(hall i _ ho).1 e he hb;have:=ih e.on hlt;rw [Array.getD_eq_getD_getElem?,Array.getElem?_eq_getElem (by omega)] at this ⊢;exact this
     ·left;simpa using hb
    rw [hr] at hm;cases hm
 have hfin:∀ (listed:Array Bool) (a:Act) (w:World),(∀ (i:Nat),listed.getD i true=true)→zIB ops R Rs C dirty w0 a0 T listed a w→Q .normal a w:=fun listed a w hl h =>
  hend a w h.later h.defers h.size (fun t ht=>h.same t (fun i o ho _=>ht i o ho)) (fun i o d ho hd=>h.told i o d ho (hl i) hd) (fun i o ho=>h.done i o ho (hl i))
 intro fuel
 induction fuel with
 | zero =>
  intro listed a w hs hf h
  have hl:∀ (i:Nat),listed.getD i true=true:=by
   intro i;rw [Array.getD_eq_getD_getElem?]
   cases hi:listed[i]? with
   | none=>rfl
   | some b =>
    cases b with
    | true=>rfl
    | false =>
     have hm:false∈listed.toList.filter (!·):=List.mem_filter.2 ⟨by rw [Array.mem_toList_iff];exact Array.mem_of_getElem? hi,rfl⟩;have:listed.toList.filter (!·)=[]:=List.eq_nil_of_length_eq_zero (by omega);rw [this] at hm;cases hm
  refine ⟨?_,hfin listed a w hl h⟩;unfold Region.ready;apply List.filter_eq_nil_iff.2;intro i _;rw [hl i];simp
 | succ fuel ih =>
  intro listed a w hs hf h;refine ⟨fun hr=>hfin listed a w (hfull listed hs hr) h,fun k hk=>?_⟩;unfold Region.ready at hk;rw [List.mem_filter] at hk;obtain ⟨hk1,hk2⟩:=hk;have hkl:k < ops.size:=List.mem_range.1 hk1;have ho:ops[k]?=some ops[k]:=Array.getElem?_eq_getElem hkl;generalize ops[k]=o at ho;rw [ho] at hk2;simp only [Bool.and_eq_true,Bool.not_eq_true',Option.map_some,Option.getD_some,Array.all_eq_true_iff_forall_mem,Bool.or_eq_true] at hk2;obtain ⟨hun,haft⟩:=hk2;obtain ⟨hon,hfs,hdd⟩:=hall k o ho;obtain ⟨S,hS,hst,hrun⟩:=hstep k o ho
  have hwait:∀ i,waitsFor o i=true→listed.getD i true=true:=by
   intro i hw;simp only [waitsFor,List.any_eq_true,Bool.and_eq_true,beq_iff_eq] at hw;obtain ⟨e,he,hb,rfl⟩:=hw;rw [Array.mem_toList_iff] at he;have h1:=haft e he;rw [hb] at h1;have h2:listed.getD e.on false=true:=(by simpa using h1);have h3:=hon e he hb;rw [Array.getD_eq_getD_getElem?,Array.getElem?_eq_getElem (by omega)] at h2 ⊢;exact h2
  have hfacts:∀ fs,(∀ f∈fs,jT ops k o f=true)→qL T a0 a w fs:=by
   intro fs
   induction fs with
   | nil=>intro _;exact trivial
   | cons f fs ihf =>
    intro hf;have hrest:=ihf (fun g hg=>hf g (List.mem_cons_of_mem _ hg));have hf0:=hf f (by simp);obtain ⟨t,x⟩:=f
    cases x with
    | none =>
     refine ⟨h.same t (fun i x hx hl hd=>?_),hrest⟩;simp only [jT,List.all_eq_true,List.mem_range] at hf0;have h1:=hf0 i (hop i x hx);have hik:i≠k:=(by rintro rfl;rw [hun] at hl;cases hl);simp only [hx,hd,Bool.or_eq_true,beq_iff_eq,hik,false_or,bne_self_eq_false,Bool.false_eq_true] at h1;have:=h.closed i x k hx hl h1;rw [hun] at this;cases this
    | some i =>
     simp only [jT,Bool.and_eq_true,decide_eq_true_eq] at hf0;obtain ⟨⟨_,hw⟩,hd⟩:=hf0
     cases hx:ops[i]? with
     | none=>rw [hx] at hd;cases hd
     | some x =>
      rw [hx] at hd;exact ⟨h.told i x t hx (hwait i hw) (by simpa using hd),hrest⟩
  have hgo:=hrun a w h.later (fun d hd hb=>h.clean d hd (by
   rcases Bool.eq_false_or_eq_true (listed.getD d true) with h1 | h1
   ·exfalso
    unfold ahead at hb;rw [Bool.or_eq_true] at hb
    rcases hb with he | h2
    ·obtain rfl:d=k:=(by simpa using he);rw [hun] at h1;cases h1
    have h3:=xK ops d listed h1 ⟨_,Array.getElem?_eq_getElem (hdirty d hd)⟩ h.closed k (by simpa using h2);rw [hun] at h3;cases h3
   ·exact h1)) (hfacts _ hfs)
  have hnext:∀ v w',S v w'→Rk4 ops R Rs C dirty k w w'→wpAny P .any ops Q fuel (listed.setIfInBounds k true) (a.put o.dst v) w':=by
   intro v w' hv hRk;have hR:=hRk.1
   have hstand:∀ (i:Nat) (x:Oper),ops[i]?=some x→listed.getD i true=true→i≠k→∀ u,(T.getD i (fun _ _=>False)) u w→(T.getD i (fun _ _=>False)) u w':=by
    intro i x hx hl2 hik u h1;obtain ⟨S',hS',hst',_⟩:=hstep i x hx;rw [List.getD_eq_getElem?_getD,hS'] at h1 ⊢;refine hst' k (fun e=>hik e.symm) ?_ _ _ _ h1 hRk.2.1
    rcases Bool.eq_false_or_eq_true ((zAc ops i).contains k) with h2 | h2
    ·have h3:=xK ops i listed hl2 ⟨x,hx⟩ h.closed k (by simpa using h2);rw [hun] at h3;cases h3
    ·exact h2
   have hks:k < listed.size:=by omega
   have hclosed:∀ (i:Nat) (x:Oper) j,ops[i]?=some x→(listed.setIfInBounds k true).getD i true=true→waitsFor x j=true→(listed.setIfInBounds k true).getD j true=true:=by
    intro i x j hx hl hw
    rcases jI hl with rfl | hl2
    ·rw [ho] at hx;cases hx;have:=hwait j hw
     by_cases e:i=j
     ·subst e;rw [Array.getD_eq_getD_getElem?,Array.getElem?_setIfInBounds_self_of_lt hks];rfl
     ·rw [Array.getD_eq_getD_getElem?,Array.getElem?_setIfInBounds_ne e,← Array.getD_eq_getD_getElem?];exact this
    ·have:=h.closed i x j hx hl2 hw
     by_cases e:k=j
     ·subst e;rw [Array.getD_eq_getD_getElem?,Array.getElem?_setIfInBounds_self_of_lt hks];rfl
     ·rw [Array.getD_eq_getD_getElem?,Array.getElem?_setIfInBounds_ne e,← Array.getD_eq_getD_getElem?];exact this
   refine ih _ _ _ (by simpa using hs) ?_ ⟨⟨htrans _ _ _ h.later hR,by rw [put_defers,h.defers],by rw [zAk,h.size],?_,?_,?_⟩,?_,?_⟩
   ·have hlt:((listed.setIfInBounds k true).toList.filter (!·)).length < (listed.toList.filter (!·)).length:=by
     have hk2:listed.toList[k]?=some false:=by
      rw [Array.getD_eq_getD_getElem?,Array.getElem?_eq_getElem hks] at hun;simp only [Option.getD_some] at hun;rw [Array.getElem?_toList,Array.getElem?_eq_getElem hks,hun]
     rw [Array.toList_setIfInBounds];exact vI _ _ hk2
    omega
   ·intro t ht;have h1:o.dst≠some t:=ht k o ho (by rw [Array.getD_eq_getD_getElem?,Array.getElem?_setIfInBounds_self_of_lt hks];rfl);rw [xO _ _ _ _ h1];refine h.same t (fun i x hx hl=>ht i x hx ?_)
    by_cases e:k=i
    ·subst e;rw [Array.getD_eq_getD_getElem?,Array.getElem?_setIfInBounds_self_of_lt hks];rfl
    ·rw [Array.getD_eq_getD_getElem?,Array.getElem?_setIfInBounds_ne e,← Array.getD_eq_getD_getElem?];exact hl
   ·intro i x d hx hl hd
    rcases jI hl with rfl | hl2
    ·rw [ho] at hx;cases hx;rw [hd,zCH _ _ _ (by rw [h.size];exact hdst i o d ho hd)];rw [List.getD_eq_getElem?_getD,hS];exact hv
    ·have hik:i≠k:=(by rintro rfl;rw [hun] at hl2;cases hl2);rw [xO _ _ _ _ (hdd i x hik hx d hd)];exact hstand i x hx hl2 hik _ (h.told i x d hx hl2 hd)
   ·exact hclosed
   ·intro d hd hdl
    have hdk:k≠d:=by
     rintro rfl;rw [Array.getD_eq_getD_getElem?,Array.getElem?_setIfInBounds_self_of_lt hks] at hdl;cases hdl
    refine hRk.2.2 d hd (fun e=>hdk e.symm) ?_ (h.clean d hd ?_)
    ·rcases Bool.eq_false_or_eq_true ((zAc ops k).contains d) with h2 | h2
     ·have h3:=xK ops k (listed.setIfInBounds k true) (by rw [Array.getD_eq_getD_getElem?,Array.getElem?_setIfInBounds_self_of_lt hks];rfl) ⟨o,ho⟩ hclosed d (by simpa using h2);rw [hdl] at h3;cases h3
     ·exact h2
    rw [Array.getD_eq_getD_getElem?,Array.getElem?_setIfInBounds_ne hdk,← Array.getD_eq_getD_getElem?] at hdl;exact hdl
   ·intro i x hx hl
    rcases jI hl with rfl | hl2
    ·exact ⟨v,by rw [List.getD_eq_getElem?_getD,hS];exact hv⟩
    ·have hik:i≠k:=(by rintro rfl;rw [hun] at hl2;cases hl2);obtain ⟨u,hu⟩:=h.done i x hx hl2;exact ⟨u,hstand i x hx hl2 hik u hu⟩
  unfold wpOp;rw [ho];unfold qW at hgo;dsimp only
  split
  ·rename_i hw
   rw [if_pos hw] at hgo;exact .inl (Oper.wp_noexit (fun a' w' ⟨v,e,hv,hR⟩=>by rw [e];exact hnext v w' hv hR) hgo)
  ·rename_i hw
   rw [if_neg hw] at hgo;exact hnext undef w hgo ⟨hrefl w,hsrefl _ w,fun _ _ _ _ h=>h⟩
theorem zDo {id:Nat} {Q:Exit→Act→World→Prop} {l:List Oper} (R:World→World→Prop) (Rs:Nat→World→World→Prop) (C:Nat→World→Prop) (dirty:List Nat) (plan:List (List (Tmp × Option Nat))) (hplan:jR l.toArray plan=true)
  (hm:P.follows .mixedOrders=true) (hrefl:∀ w,R w w) (htrans:∀ a b c,R a b→R b c→R a c) (hsrefl:∀ k w,Rs k w w) (hdrew:R w0 w0.drew) (hclean:∀ d∈dirty,C d w0.drew) (hdirty:(dirty.all fun d=>decide (d < l.length))=true)
  (hdst:(l.all fun o=>match o.dst with | some d=>decide (d < a0.tmps.size) | none=>true)=true)
  (h:RGD P l.toArray R Rs C dirty w0 a0 Q l plan []):(Code.region id l.toArray true).wp P Q a0 w0:=by
 refine wp_region_any hm ?_;have hp:=hplan;simp only [jR,Bool.and_eq_true,beq_iff_eq,List.all_eq_true,List.mem_range] at hp;obtain ⟨hpl,hpk⟩:=hp;have hop:∀ (k:Nat) o,l.toArray[k]?=some o→k < l.toArray.size:=fun k o h=>(Array.getElem?_eq_some_iff.1 h).1
 obtain ⟨T,h1,h2,h3,h4⟩:=zCM l plan [] (fun k fs hk t i hm'=>by
  have hk':k < plan.length:=(List.getElem?_eq_some_iff.1 hk).1;have:=hpk k (by rw [← hpl];exact hk');rw [hpl] at hk';rw [Array.getElem?_eq_getElem hk'] at this;simp only [Bool.and_eq_true,List.all_eq_true] at this;have:=this.1.2 (t,some i) (by rw [List.getD_eq_getElem?_getD,hk];exact hm');simp only [jT,Bool.and_eq_true,decide_eq_true_eq] at this
  simpa using this.1.1) h
 simp only [List.length_nil,Nat.zero_add] at h2 h3;refine zIz (T:=T) (R:=R) (Rs:=Rs) (C:=C) (dirty:=dirty) (w0:=w0) (a0:=a0) hplan htrans hrefl hsrefl ?_ ?_ ?_ ?_ _ _ _ _ (by simp) (by simp) ?_
 ·intro i o d ho hd
  have hm':o∈l:=by
   have:o∈l.toArray:=Array.mem_of_getElem? ho
   simpa using this
  have:=List.all_eq_true.1 hdst o hm';rw [hd] at this
  simpa using this
 ·intro k o ho;obtain ⟨fs,S,e1,e2,e3,e4⟩:=h3 k o (by simpa using ho);exact ⟨S,e2,e3,by rw [List.getD_eq_getElem?_getD,e1];exact e4⟩
 ·intro d hd
  simpa using List.all_eq_true.1 hdirty d hd
 ·intro a w hR hd hs hsame htold hdone;refine h4 a w hR hd hs hsame ?_ ?_
  rotate_left
  ·intro S hS;obtain ⟨i,hi⟩:=List.getElem?_of_mem hS;have hil:i < l.length:=(by have:=(List.getElem?_eq_some_iff.1 hi).1;omega);have:=hdone i l[i] (by simp [hil]);rw [List.getD_eq_getElem?_getD,hi] at this;exact this
  exact (zBm l.toArray.toList T l.length (fun i o d ho hd=>htold i o d (by simpa using ho) hd) (by simp) h2)
 ·refine ⟨⟨hdrew,rfl,rfl,fun _ _=>rfl,fun i o d ho hl _=>?_,fun i o k ho hl _=>?_⟩,fun d hd _=>hclean d hd,fun i o ho hl=>?_⟩
  ·have:=hop i o ho;simp only [List.size_toArray] at this
   simp [this] at hl
  ·have:=hop i o ho;simp only [List.size_toArray] at this
   simp [this] at hl
  ·have:=hop i o ho;simp only [List.size_toArray] at this
   simp [this] at hl
def zHj (P:Program) (ops:Array Oper) (R:World→World→Prop) (Rs:Nat→World→World→Prop) (C:Nat→World→Prop) (dirty:List Nat) (w0:World) (a0:Act) (E:List (Value→World→Prop)→Prop):List Oper→List (List (Tmp × Option Nat))→List (Value→World→Prop)→Prop
 | [],_,T=>E T
 | o :: l,fs :: plan,T=>∃ S,zBF ops Rs T.length S∧(∀ a w,R w0 w→(∀ d∈dirty,ahead ops d T.length=true→C d w)→qL T a0 a w fs→qW P ops (Rk4 ops R Rs C dirty T.length) o S a w)∧zHj P ops R Rs C dirty w0 a0 E l plan (S :: T)
 | _ :: _,[],_=>False
theorem zCb {Q:Exit→Act→World→Prop} {E:List (Value→World→Prop)→Prop}
  (hE:∀ T,E T→T.length=ops.size→∀ a w,R w0 w→a.defers=a0.defers→a.tmps.size=a0.tmps.size→(∀ t,(∀ (i:Nat) (o:Oper),ops[i]?=some o→o.dst≠some t)→a.tmps.getD t undef=a0.tmps.getD t undef) →
   yD a w ops.toList T.reverse→(∀ S∈T.reverse,∃ v,S v w)→Q .normal a w) :
  ∀ (l:List Oper) (plan:List (List (Tmp × Option Nat))) (T:List (Value→World→Prop)),T.length+l.length=ops.size→vN T.length plan=true →
   zHj P ops R Rs C dirty w0 a0 E l plan T→RGD P ops R Rs C dirty w0 a0 Q l (xZ T.length plan) T.reverse
 | [],plan,T,hl,_,h=>by
  cases plan <;> exact hE T h (by simpa using hl)
 | o :: l,[],_,_,_,h=>h.elim
 | o :: l,fs :: plan,T,hl,hn,h=>by
  obtain ⟨S,h1,h2,h3⟩:=h;simp only [vN,Bool.and_eq_true] at hn;have:=zCb hE l plan (S :: T) (by simp only [List.length_cons] at hl ⊢;omega) (by simpa using hn.2) h3;rw [List.reverse_cons,List.length_cons] at this;refine ⟨S,by rw [List.length_reverse];exact h1,?_,this⟩;rw [List.length_reverse];exact fun a w hR hC hf=>h2 a w hR hC (vB T fs hn.1 hf)
theorem xG {id:Nat} {Q:Exit→Act→World→Prop} {l:List Oper} {L:List Value} {ds:List Deferred} (R:World→World→Prop) (Rs:Nat→World→World→Prop) (C:Nat→World→Prop) (dirty:List Nat) (plan:List (List (Tmp × Option Nat))) (fin:List (Tmp × Nat)) (mask:List (Option Tmp))
  (hplan:(jR l.toArray (xZ 0 plan) && vN 0 plan && zAG l 0 mask && zBC l fin)=true) (hmask:mask.length=L.length)
  (hm:P.follows .mixedOrders=true) (hrefl:∀ w,R w w) (htrans:∀ a b c,R a b→R b c→R a c) (hsrefl:∀ k w,Rs k w w) (hdrew:R w0 w0.drew) (hclean:∀ d∈dirty,C d w0.drew) (hdirty:(dirty.all fun d=>decide (d < l.length))=true)
  (hdst:(l.all fun o=>match o.dst with | some d=>decide (d < L.length) | none=>true)=true)
  (h:zHj P l.toArray R Rs C dirty w0 ⟨L.toArray,ds⟩ (fun T=>∀ f w,R w0 w→zAR T f w fin→(∀ S∈T,∃ v,S v w)→Q .normal ⟨(qE mask L f).toArray,ds⟩ w) l plan []):(Code.region id l.toArray true).wp P Q ⟨L.toArray,ds⟩ w0:=by
 simp only [Bool.and_eq_true] at hplan;obtain ⟨⟨⟨h1,h2⟩,h3⟩,h4⟩:=hplan;refine zDo R Rs C dirty (xZ 0 plan) h1 hm hrefl htrans hsrefl hdrew hclean hdirty (by simpa using hdst) ?_;refine zCb (ops:=l.toArray) ?_ l plan [] (by simp) h2 h;intro T hE hT a w hR hd hs hsame hall hdone;have hT':T.length=l.length:=(by simpa using hT);have hf:=hE _ w hR (zBQ hT' (by simpa using hall) fin h4) (fun S hS=>hdone S (List.mem_reverse.2 hS))
 have hmerge:=zAP (l:=l) (a:=a) mask L [] h3 hmask (by simpa using hs.symm) (fun t ht=>by
  have:=hsame t (fun i o ho=>ht i o (by simpa using ho));rw [this]
  simp [Array.getD_eq_getD_getElem?,List.getD_eq_getElem?_getD])
 rw [hmerge] at hf;simp only [List.length_nil,List.drop_zero] at hf;have e:a=⟨a.tmps,ds⟩:=(by cases a;simp only at hd;rw [hd]);rw [e];exact hf
theorem zR {E:List (Value→World→Prop)→Prop} {o:Oper} {l:List Oper} {fs:List (Tmp × Option Nat)} {plan:List (List (Tmp × Option Nat))} {T:List (Value→World→Prop)} {v:Value}
  (h1:∀ a w,R w0 w→(∀ d∈dirty,ahead ops d T.length=true→C d w)→qL T a0 a w fs→qW P ops (Rk4 ops R Rs C dirty T.length) o (EV v) a w) (h2:zHj P ops R Rs C dirty w0 a0 E l plan (EV v :: T)):zHj P ops R Rs C dirty w0 a0 E (o :: l) (fs :: plan) T:=⟨EV v,zBF.ev v,h1,h2⟩
end
end Go.Proofs.YtfeglnpmpgipiaaGreatDoor
end
section
set_option linter.unusedVariables false
namespace Go.Proofs.YtfeglnpmpgipiaaGreatDoor
open Go.RowKit
section
variable {P:Program} {ops:Array Oper} {pl:List (List (Tmp × Option Nat))} {R:World→World→Prop} {Rs:Nat→World→World→Prop} {w0:World} {a0:Act}
def zDU (plan:List (List (Tmp × Option Nat))) (i:Nat):List Nat:=(List.range plan.length).filter fun k=>(plan.getD k []).any fun f=>f.2 == some i
def yR (ops:Array Oper) (plan:List (List (Tmp × Option Nat))) (i j:Nat):Bool:=!(zDU plan i).isEmpty && (zDU plan i).all fun k=>k == j || (zAc ops j).contains k
def qI (ops:Array Oper) (plan:List (List (Tmp × Option Nat))) (i:Nat):Bool:=(zDU plan i).isEmpty
theorem zCD {ops:Array Oper} {plan:List (List (Tmp × Option Nat))} {i j k:Nat} {t:Tmp} (hk:(t,some i)∈plan.getD k []) (h:yR ops plan i j=true):k=j∨(zAc ops j).contains k=true:=by
 unfold yR at h;rw [Bool.and_eq_true] at h
 have hlt:k < plan.length:=by
  rcases Nat.lt_or_ge k plan.length with h' | h'
  ·exact h'
  ·rw [List.getD_eq_getElem?_getD,List.getElem?_eq_none h'] at hk;simp at hk
 have hm:k∈zDU plan i:=by
  unfold zDU;rw [List.mem_filter];exact ⟨List.mem_range.2 hlt,List.any_eq_true.2 ⟨_,hk,by simp⟩⟩
 have:=List.all_eq_true.1 h.2 k hm
 simpa using this
theorem vJ {ops:Array Oper} {plan:List (List (Tmp × Option Nat))} {i:Nat} (h:qI ops plan i=true) (j:Nat):yR ops plan i j=false:=by
 unfold qI at h;unfold yR;rw [h];rfl
def Rk5 (R:World→World→Prop) (Rs:Nat→World→World→Prop) (k:Nat):World→World→Prop:=fun w w'=>R w w'∧Rs k w w'
def xC (ops:Array Oper) (plan:List (List (Tmp × Option Nat))) (Rs:Nat→World→World→Prop) (k:Nat) (S:Value→World→Prop):Prop:=∀ j,j≠k→(zAc ops k).contains j=false→yR ops plan k j=false→Stable (Rs j) S
theorem xC.ev {ops:Array Oper} {plan:List (List (Tmp × Option Nat))} {Rs:Nat→World→World→Prop} {k:Nat} (v:Value):xC ops plan Rs k (EV v):=fun _ _ _ _=>EV.stable _
def RGU (P:Program) (ops:Array Oper) (pl:List (List (Tmp × Option Nat))) (R:World→World→Prop) (Rs:Nat→World→World→Prop) (w0:World) (a0:Act) (Q:Exit→Act→World→Prop):List Oper→List (List (Tmp × Option Nat))→List (Value→World→Prop)→Prop
 | [],_,T=>∀ a w,R w0 w→a.defers=a0.defers→a.tmps.size=a0.tmps.size→(∀ t,(∀ (i:Nat) (o:Oper),ops[i]?=some o→o.dst≠some t)→a.tmps.getD t undef=a0.tmps.getD t undef) →
   (∀ (i:Nat) (o:Oper) d,ops[i]?=some o→o.dst=some d→qI ops pl i=true→((T).getD i (fun _ _=>False)) (a.tmps.getD d undef) w)→(∀ (i:Nat) (o:Oper),ops[i]?=some o→qI ops pl i=true→∃ v,((T).getD i (fun _ _=>False)) v w)→Q .normal a w
 | o :: l,fs :: plan,T=>∃ S,xC ops pl Rs T.length S∧(∀ a w,R w0 w→qL T a0 a w fs→qW P ops (Rk5 R Rs T.length) o S a w)∧RGU P ops pl R Rs w0 a0 Q l plan (T ++ [S])
 | _ :: _,[],_=>False
theorem zCT {Q:Exit→Act→World→Prop}:∀ (l:List Oper) (plan:List (List (Tmp × Option Nat))) (T:List (Value→World→Prop)),
  (∀ (k:Nat) fs,plan[k]?=some fs→∀ t i,(t,some i)∈fs→i < T.length+k)→RGU P ops pl R Rs w0 a0 Q l plan T →
  ∃ T',T'.take T.length=T∧T'.length=T.length+l.length ∧
   (∀ (k:Nat) o,l[k]?=some o→∃ fs S,plan[k]?=some fs∧T'[T.length+k]?=some S∧xC ops pl Rs (T.length+k) S∧∀ a w,R w0 w→qL T' a0 a w fs→qW P ops (Rk5 R Rs (T.length+k)) o S a w) ∧
   (∀ a w,R w0 w→a.defers=a0.defers→a.tmps.size=a0.tmps.size→(∀ t,(∀ (i:Nat) (o:Oper),ops[i]?=some o→o.dst≠some t)→a.tmps.getD t undef=a0.tmps.getD t undef) →
    (∀ (i:Nat) (o:Oper) d,ops[i]?=some o→o.dst=some d→qI ops pl i=true→((T').getD i (fun _ _=>False)) (a.tmps.getD d undef) w)→(∀ (i:Nat) (o:Oper),ops[i]?=some o→qI ops pl i=true→∃ v,((T').getD i (fun _ _=>False)) v w)→Q .normal a w)
 | [],_,T,_,h=>⟨T,List.take_length,rfl,fun k o hk=>by simp at hk,h⟩
 | o :: l,[],_,_,h=>h.elim
 | o :: l,fs :: plan,T,hi,h=>by
  obtain ⟨S,hS,hstep,hrest⟩:=h
  obtain ⟨T',h1,h2,h3,h4⟩:=zCT l plan (T ++ [S]) (fun k f hf t i hm=>by
   have:=hi (k+1) f (by simpa using hf) t i hm
   simp;omega) hrest
  have hlen:(T ++ [S]).length=T.length+1:=by simp
  have hT:T'.take T.length=T:=by
   have:=congrArg (List.take T.length) h1;rw [List.take_take,hlen,Nat.min_eq_left (by omega),List.take_left] at this;exact this
  have hS':T'[T.length]?=some S:=by
   have e:(T'.take (T ++ [S]).length)[T.length]?=(T ++ [S])[T.length]?:=(by rw [h1]);rw [List.getElem?_take,if_pos (by omega),List.getElem?_append_right (Nat.le_refl _)] at e
   simpa using e
  refine ⟨T',hT,by rw [h2,hlen];simp;omega,fun k x hk=>?_,h4⟩
  cases k with
  | zero =>
   simp only [List.getElem?_cons_zero,Option.some.injEq] at hk;subst hk;exact ⟨fs,S,rfl,hS',hS,fun a w hR hf=>hstep a w hR (xI hT rfl (fun t i hm=>by have:=hi 0 fs rfl t i hm;omega) hf)⟩
  | succ k =>
   obtain ⟨f,S2,e1,e2,e3,e4⟩:=h3 k x (by simpa using hk);have e5:(T ++ [S]).length+k=T.length+(k+1):=(by rw [hlen];omega);rw [e5] at e2 e3 e4;exact ⟨f,S2,by simpa using e1,e2,e3,e4⟩
structure zIG (ops:Array Oper) (pl:List (List (Tmp × Option Nat))) (R:World→World→Prop) (Rs:Nat→World→World→Prop) (w0:World) (a0:Act) (T:List (Value→World→Prop)) (listed:Array Bool) (a:Act) (w:World):Prop where
 later:R w0 w
 defers:a.defers=a0.defers
 size:a.tmps.size=a0.tmps.size
 same:∀ t,(∀ (i:Nat) (o:Oper),ops[i]?=some o→listed.getD i true=true→o.dst≠some t)→a.tmps.getD t undef=a0.tmps.getD t undef
 closed:∀ (i:Nat) (o:Oper) k,ops[i]?=some o→listed.getD i true=true→waitsFor o k=true→listed.getD k true=true
 told:∀ (i:Nat) (o:Oper) d,ops[i]?=some o→listed.getD i true=true→o.dst=some d→(∀ (j:Nat) x,ops[j]?=some x→listed.getD j true=true→yR ops pl i j=false)→(T.getD i (fun _ _=>False)) (a.tmps.getD d undef) w
 done:∀ (i:Nat) (o:Oper),ops[i]?=some o→listed.getD i true=true→(∀ (j:Nat) x,ops[j]?=some x→listed.getD j true=true→yR ops pl i j=false)→∃ v,(T.getD i (fun _ _=>False)) v w
variable {T:List (Value→World→Prop)}
theorem zIr {Q:Exit→Act→World→Prop} (hplan:jR ops pl=true) (htrans:∀ a b c,R a b→R b c→R a c) (hrefl:∀ w,R w w) (hsrefl:∀ k w,Rs k w w)
  (hdst:∀ (i:Nat) (o:Oper) d,ops[i]?=some o→o.dst=some d→d < a0.tmps.size)
  (hstep:∀ (k:Nat) o,ops[k]?=some o→∃ S,T[k]?=some S∧xC ops pl Rs k S∧∀ a w,R w0 w→qL T a0 a w (pl.getD k [])→qW P ops (Rk5 R Rs k) o S a w)
  (hend:∀ a w,R w0 w→a.defers=a0.defers→a.tmps.size=a0.tmps.size→(∀ t,(∀ (i:Nat) (o:Oper),ops[i]?=some o→o.dst≠some t)→a.tmps.getD t undef=a0.tmps.getD t undef) →
   (∀ (i:Nat) (o:Oper) d,ops[i]?=some o→o.dst=some d→qI ops pl i=true→(T.getD i (fun _ _=>False)) (a.tmps.getD d undef) w)→(∀ (i:Nat) (o:Oper),ops[i]?=some o→qI ops pl i=true→∃ v,(T.getD i (fun _ _=>False)) v w)→Q .normal a w) :
  ∀ (fuel:Nat) (listed:Array Bool) (a:Act) (w:World),listed.size=ops.size→(listed.toList.filter (!·)).length≤fuel→zIG ops pl R Rs w0 a0 T listed a w→wpAny P .any ops Q fuel listed a w:=by
 simp only [jR,Bool.and_eq_true,beq_iff_eq,List.all_eq_true,List.mem_range] at hplan;obtain ⟨hpl,hpk⟩:=hplan;have hop:∀ (k:Nat) o,ops[k]?=some o→k < ops.size:=fun k o h=>(Array.getElem?_eq_some_iff.1 h).1
 have hall:∀ (k:Nat) o,ops[k]?=some o→(∀ e∈o.after,Region.binds .any e=true→e.on < k)∧(∀ f∈pl.getD k [],jT ops k o f=true) ∧
   (∀ (i:Nat) x,i≠k→ops[i]?=some x→∀ d,x.dst=some d→o.dst≠some d):=by
  intro k o hk;have:=hpk k (hop k o hk);simp only [hk,Bool.and_eq_true,List.all_eq_true,List.mem_range,Array.all_eq_true_iff_forall_mem] at this;obtain ⟨⟨h1,h2⟩,h3⟩:=this;refine ⟨fun e he hb=>?_,h2,fun i x hi hx d hd=>?_⟩
  ·have:=h1 e he;simp only [hb,Bool.not_true,Bool.false_or,decide_eq_true_eq] at this;exact this
  ·have:=h3 i (hop i x hx);simp only [hx,hd,Bool.or_eq_true,beq_iff_eq,hi,false_or,reduceCtorEq,bne_iff_ne,ne_eq] at this;exact fun e=>this e.symm
 have hfull:∀ (listed:Array Bool),listed.size=ops.size→Region.ready .any ops listed=[]→∀ (i:Nat),listed.getD i true=true:=by
  intro listed hs hr i
  induction i using Nat.strongRecOn with
  | _ i ih =>
   rcases Bool.eq_false_or_eq_true (listed.getD i true) with h | h
   ·exact h
   ·exfalso
    have hi:i < ops.size:=by
     rcases Nat.lt_or_ge i ops.size with h' | h'
     ·exact h'
     ·rw [Array.getD_eq_getD_getElem?,Array.getElem?_eq_none (by omega)] at h;cases h
    have ho:ops[i]?=some ops[i]:=Array.getElem?_eq_getElem hi
    have hm:i∈Region.ready .any ops listed:=by
     unfold Region.ready;rw [List.mem_filter];refine ⟨List.mem_range.2 hi,?_⟩;rw [h,ho];simp only [Bool.not_false,Bool.true_and,Option.map_some,Option.getD_some,Array.all_eq_true_iff_forall_mem,Bool.or_eq_true,Bool.not_eq_true'];intro e he
     by_cases hb:Region.binds .any e=true
     ·right
      have hlt:=(hall i _ ho).1 e he hb;have:=ih e.on hlt;rw [Array.getD_eq_getD_getElem?,Array.getElem?_eq_getElem (by omega)] at this ⊢;exact this
     ·left;simpa using hb
    rw [hr] at hm;cases hm
 have hfin:∀ (listed:Array Bool) (a:Act) (w:World),(∀ (i:Nat),listed.getD i true=true)→zIG ops pl R Rs w0 a0 T listed a w→Q .normal a w:=fun listed a w hl h =>
  hend a w h.later h.defers h.size (fun t ht=>h.same t (fun i o ho _=>ht i o ho)) (fun i o d ho hd hn=>h.told i o d ho (hl i) hd (fun j _ _ _=>vJ hn j)) (fun i o ho hn=>h.done i o ho (hl i) (fun j _ _ _=>vJ hn j))
 intro fuel
 induction fuel with
 | zero =>
  intro listed a w hs hf h
  have hl:∀ (i:Nat),listed.getD i true=true:=by
   intro i;rw [Array.getD_eq_getD_getElem?]
   cases hi:listed[i]? with
   | none=>rfl
   | some b =>
    cases b with
    | true=>rfl
    | false =>
     have hm:false∈listed.toList.filter (!·):=List.mem_filter.2 ⟨by rw [Array.mem_toList_iff];exact Array.mem_of_getElem? hi,rfl⟩;have:listed.toList.filter (!·)=[]:=List.eq_nil_of_length_eq_zero (by omega);rw [this] at hm;cases hm
  refine ⟨?_,hfin listed a w hl h⟩;unfold Region.ready;apply List.filter_eq_nil_iff.2;intro i _;rw [hl i];simp
 | succ fuel ih =>
  intro listed a w hs hf h;refine ⟨fun hr=>hfin listed a w (hfull listed hs hr) h,fun k hk=>?_⟩;unfold Region.ready at hk;rw [List.mem_filter] at hk;obtain ⟨hk1,hk2⟩:=hk;have hkl:k < ops.size:=List.mem_range.1 hk1;have ho:ops[k]?=some ops[k]:=Array.getElem?_eq_getElem hkl;generalize ops[k]=o at ho;rw [ho] at hk2;simp only [Bool.and_eq_true,Bool.not_eq_true',Option.map_some,Option.getD_some,Array.all_eq_true_iff_forall_mem,Bool.or_eq_true] at hk2;obtain ⟨hun,haft⟩:=hk2;obtain ⟨hon,hfs,hdd⟩:=hall k o ho;obtain ⟨S,hS,hst,hrun⟩:=hstep k o ho
  have hwait:∀ i,waitsFor o i=true→listed.getD i true=true:=by
   intro i hw;simp only [waitsFor,List.any_eq_true,Bool.and_eq_true,beq_iff_eq] at hw;obtain ⟨e,he,hb,rfl⟩:=hw;rw [Array.mem_toList_iff] at he;have h1:=haft e he;rw [hb] at h1;have h2:listed.getD e.on false=true:=(by simpa using h1);have h3:=hon e he hb;rw [Array.getD_eq_getD_getElem?,Array.getElem?_eq_getElem (by omega)] at h2 ⊢;exact h2
  have hfacts:∀ fs,(∀ f∈fs,jT ops k o f=true)→(∀ f∈fs,f∈pl.getD k [])→qL T a0 a w fs:=by
   intro fs
   induction fs with
   | nil=>intro _ _;exact trivial
   | cons f fs ihf =>
    intro hf hin;have hrest:=ihf (fun g hg=>hf g (List.mem_cons_of_mem _ hg)) (fun g hg=>hin g (List.mem_cons_of_mem _ hg));have hf0:=hf f (by simp);obtain ⟨t,x⟩:=f
    cases x with
    | none =>
     refine ⟨h.same t (fun i x hx hl hd=>?_),hrest⟩;simp only [jT,List.all_eq_true,List.mem_range] at hf0;have h1:=hf0 i (hop i x hx);have hik:i≠k:=(by rintro rfl;rw [hun] at hl;cases hl);simp only [hx,hd,Bool.or_eq_true,beq_iff_eq,hik,false_or,bne_self_eq_false,Bool.false_eq_true] at h1;have:=h.closed i x k hx hl h1;rw [hun] at this;cases this
    | some i =>
     simp only [jT,Bool.and_eq_true,decide_eq_true_eq] at hf0;obtain ⟨⟨_,hw⟩,hd⟩:=hf0
     cases hx:ops[i]? with
     | none=>rw [hx] at hd;cases hd
     | some x =>
      rw [hx] at hd;refine ⟨h.told i x t hx (hwait i hw) (by simpa using hd) (fun j y hy hlj=>?_),hrest⟩
      rcases Bool.eq_false_or_eq_true (yR ops pl i j) with ho2 | ho2
      ·exfalso
       rcases zCD (hin (t,some i) (by simp)) ho2 with e | e
       ·subst e;rw [hun] at hlj;cases hlj
       ·have h3:=xK ops j listed hlj ⟨y,hy⟩ h.closed k (by simpa using e);rw [hun] at h3;cases h3
      ·exact ho2
  have hgo:=hrun a w h.later (hfacts _ hfs (fun f hf=>hf))
  have hnext:∀ v w',S v w'→Rk5 R Rs k w w'→wpAny P .any ops Q fuel (listed.setIfInBounds k true) (a.put o.dst v) w':=by
   intro v w' hv hRk;have hR:=hRk.1
   have hstand:∀ (i:Nat) (x:Oper),ops[i]?=some x→listed.getD i true=true→i≠k→yR ops pl i k=false→∀ u,(T.getD i (fun _ _=>False)) u w→(T.getD i (fun _ _=>False)) u w':=by
    intro i x hx hl2 hik hov u h1;obtain ⟨S',hS',hst',_⟩:=hstep i x hx;rw [List.getD_eq_getElem?_getD,hS'] at h1 ⊢;refine hst' k (fun e=>hik e.symm) ?_ hov _ _ _ h1 hRk.2
    rcases Bool.eq_false_or_eq_true ((zAc ops i).contains k) with h2 | h2
    ·have h3:=xK ops i listed hl2 ⟨x,hx⟩ h.closed k (by simpa using h2);rw [hun] at h3;cases h3
    ·exact h2
   have hks:k < listed.size:=by omega
   have hclosed:∀ (i:Nat) (x:Oper) j,ops[i]?=some x→(listed.setIfInBounds k true).getD i true=true→waitsFor x j=true→(listed.setIfInBounds k true).getD j true=true:=by
    intro i x j hx hl hw
    rcases jI hl with rfl | hl2
    ·rw [ho] at hx;cases hx;have:=hwait j hw
     by_cases e:i=j
     ·subst e;rw [Array.getD_eq_getD_getElem?,Array.getElem?_setIfInBounds_self_of_lt hks];rfl
     ·rw [Array.getD_eq_getD_getElem?,Array.getElem?_setIfInBounds_ne e,← Array.getD_eq_getD_getElem?];exact this
    ·have:=h.closed i x j hx hl2 hw
     by_cases e:k=j
     ·subst e;rw [Array.getD_eq_getD_getElem?,Array.getElem?_setIfInBounds_self_of_lt hks];rfl
     ·rw [Array.getD_eq_getD_getElem?,Array.getElem?_setIfInBounds_ne e,← Array.getD_eq_getD_getElem?];exact this
   have hk1:(listed.setIfInBounds k true).getD k true=true:=by rw [Array.getD_eq_getD_getElem?,Array.getElem?_setIfInBounds_self_of_lt hks];rfl
   have hmono:∀ j,listed.getD j true=true→(listed.setIfInBounds k true).getD j true=true:=fun j hj=>by
    by_cases e:k=j
    ·subst e;exact hk1
    ·rw [Array.getD_eq_getD_getElem?,Array.getElem?_setIfInBounds_ne e,← Array.getD_eq_getD_getElem?];exact hj
   refine ih _ _ _ (by simpa using hs) ?_ ⟨htrans _ _ _ h.later hR,by rw [put_defers,h.defers],by rw [zAk,h.size],?_,hclosed,?_,?_⟩
   ·have hlt:((listed.setIfInBounds k true).toList.filter (!·)).length < (listed.toList.filter (!·)).length:=by
     have hk2:listed.toList[k]?=some false:=by
      rw [Array.getD_eq_getD_getElem?,Array.getElem?_eq_getElem hks] at hun;simp only [Option.getD_some] at hun;rw [Array.getElem?_toList,Array.getElem?_eq_getElem hks,hun]
     rw [Array.toList_setIfInBounds];exact vI _ _ hk2
    omega
   ·intro t ht;have h1:o.dst≠some t:=ht k o ho (by rw [Array.getD_eq_getD_getElem?,Array.getElem?_setIfInBounds_self_of_lt hks];rfl);rw [xO _ _ _ _ h1];refine h.same t (fun i x hx hl=>ht i x hx ?_)
    by_cases e:k=i
    ·subst e;rw [Array.getD_eq_getD_getElem?,Array.getElem?_setIfInBounds_self_of_lt hks];rfl
    ·rw [Array.getD_eq_getD_getElem?,Array.getElem?_setIfInBounds_ne e,← Array.getD_eq_getD_getElem?];exact hl
   ·intro i x d hx hl hd hal
    rcases jI hl with rfl | hl2
    ·rw [ho] at hx;cases hx;rw [hd,zCH _ _ _ (by rw [h.size];exact hdst i o d ho hd)];rw [List.getD_eq_getElem?_getD,hS];exact hv
    ·have hik:i≠k:=(by rintro rfl;rw [hun] at hl2;cases hl2);rw [xO _ _ _ _ (hdd i x hik hx d hd)];exact hstand i x hx hl2 hik (hal k o ho hk1) _ (h.told i x d hx hl2 hd (fun j y hy hj=>hal j y hy (hmono j hj)))
   ·intro i x hx hl hal
    rcases jI hl with rfl | hl2
    ·exact ⟨v,by rw [List.getD_eq_getElem?_getD,hS];exact hv⟩
    ·have hik:i≠k:=(by rintro rfl;rw [hun] at hl2;cases hl2);obtain ⟨u,hu⟩:=h.done i x hx hl2 (fun j y hy hj=>hal j y hy (hmono j hj));exact ⟨u,hstand i x hx hl2 hik (hal k o ho hk1) u hu⟩
  unfold wpOp;rw [ho];unfold qW at hgo;dsimp only
  split
  ·rename_i hw
   rw [if_pos hw] at hgo;exact .inl (Oper.wp_noexit (fun a' w' ⟨v,e,hv,hR⟩=>by rw [e];exact hnext v w' hv hR) hgo)
  ·rename_i hw
   rw [if_neg hw] at hgo;exact hnext undef w hgo ⟨hrefl w,hsrefl _ w⟩
theorem zDf {id:Nat} {Q:Exit→Act→World→Prop} {l:List Oper} (R:World→World→Prop) (Rs:Nat→World→World→Prop) (plan:List (List (Tmp × Option Nat))) (hplan:jR l.toArray plan=true)
  (hm:P.follows .mixedOrders=true) (hrefl:∀ w,R w w) (htrans:∀ a b c,R a b→R b c→R a c) (hsrefl:∀ k w,Rs k w w) (hdrew:R w0 w0.drew)
  (hdst:(l.all fun o=>match o.dst with | some d=>decide (d < a0.tmps.size) | none=>true)=true)
  (h:RGU P l.toArray plan R Rs w0 a0 Q l plan []):(Code.region id l.toArray true).wp P Q a0 w0:=by
 refine wp_region_any hm ?_;have hp:=hplan;simp only [jR,Bool.and_eq_true,beq_iff_eq,List.all_eq_true,List.mem_range] at hp;obtain ⟨hpl,hpk⟩:=hp;have hop:∀ (k:Nat) o,l.toArray[k]?=some o→k < l.toArray.size:=fun k o h=>(Array.getElem?_eq_some_iff.1 h).1
 obtain ⟨T,h1,h2,h3,h4⟩:=zCT l plan [] (fun k fs hk t i hm'=>by
  have hk':k < plan.length:=(List.getElem?_eq_some_iff.1 hk).1;have:=hpk k (by rw [← hpl];exact hk');rw [hpl] at hk';rw [Array.getElem?_eq_getElem hk'] at this;simp only [Bool.and_eq_true,List.all_eq_true] at this;have:=this.1.2 (t,some i) (by rw [List.getD_eq_getElem?_getD,hk];exact hm');simp only [jT,Bool.and_eq_true,decide_eq_true_eq] at this
  simpa using this.1.1) h
 simp only [List.length_nil,Nat.zero_add] at h2 h3;refine zIr (T:=T) (pl:=plan) (R:=R) (Rs:=Rs) (w0:=w0) (a0:=a0) hplan htrans hrefl hsrefl ?_ ?_ ?_ _ _ _ _ (by simp) (by simp) ?_
 ·intro i o d ho hd
  have hm':o∈l:=by
   have:o∈l.toArray:=Array.mem_of_getElem? ho
   simpa using this
  have:=List.all_eq_true.1 hdst o hm';rw [hd] at this
  simpa using this
 ·intro k o ho;obtain ⟨fs,S,e1,e2,e3,e4⟩:=h3 k o (by simpa using ho);exact ⟨S,e2,e3,by rw [List.getD_eq_getElem?_getD,e1];exact e4⟩
 ·intro a w hR hd hs hsame htold hdone;exact h4 a w hR hd hs hsame htold hdone
 ·refine ⟨hdrew,rfl,rfl,fun _ _=>rfl,fun i o k ho hl _=>?_,fun i o d ho hl _ _=>?_,fun i o ho hl _=>?_⟩
  ·have:=hop i o ho;simp only [List.size_toArray] at this
   simp [this] at hl
  ·have:=hop i o ho;simp only [List.size_toArray] at this
   simp [this] at hl
  ·have:=hop i o ho;simp only [List.size_toArray] at this
   simp [this] at hl
def zIY (P:Program) (ops:Array Oper) (pl:List (List (Tmp × Option Nat))) (R:World→World→Prop) (Rs:Nat→World→World→Prop) (w0:World) (a0:Act) (E:List (Value→World→Prop)→Prop):List Oper→List (List (Tmp × Option Nat))→List (Value→World→Prop)→Prop
 | [],_,T=>E T
 | o :: l,fs :: plan,T=>∃ S,xC ops pl Rs T.length S∧(∀ a w,R w0 w→qL T a0 a w fs→qW P ops (Rk5 R Rs T.length) o S a w)∧zIY P ops pl R Rs w0 a0 E l plan (S :: T)
 | _ :: _,[],_=>False
theorem zCO {Q:Exit→Act→World→Prop} {E:List (Value→World→Prop)→Prop}
  (hE:∀ T,E T→T.length=ops.size→∀ a w,R w0 w→a.defers=a0.defers→a.tmps.size=a0.tmps.size→(∀ t,(∀ (i:Nat) (o:Oper),ops[i]?=some o→o.dst≠some t)→a.tmps.getD t undef=a0.tmps.getD t undef) →
   (∀ (i:Nat) (o:Oper) d,ops[i]?=some o→o.dst=some d→qI ops pl i=true→((T.reverse).getD i (fun _ _=>False)) (a.tmps.getD d undef) w)→(∀ (i:Nat) (o:Oper),ops[i]?=some o→qI ops pl i=true→∃ v,((T.reverse).getD i (fun _ _=>False)) v w)→Q .normal a w) :
  ∀ (l:List Oper) (plan:List (List (Tmp × Option Nat))) (T:List (Value→World→Prop)),T.length+l.length=ops.size→vN T.length plan=true →
   zIY P ops pl R Rs w0 a0 E l plan T→RGU P ops pl R Rs w0 a0 Q l (xZ T.length plan) T.reverse
 | [],plan,T,hl,_,h=>by
  cases plan <;> exact hE T h (by simpa using hl)
 | o :: l,[],_,_,_,h=>h.elim
 | o :: l,fs :: plan,T,hl,hn,h=>by
  obtain ⟨S,h1,h2,h3⟩:=h;simp only [vN,Bool.and_eq_true] at hn;have:=zCO hE l plan (S :: T) (by simp only [List.length_cons] at hl ⊢;omega) (by simpa using hn.2) h3;rw [List.reverse_cons,List.length_cons] at this;refine ⟨S,by rw [List.length_reverse];exact h1,?_,this⟩;rw [List.length_reverse];exact fun a w hR hf=>h2 a w hR (vB T fs hn.1 hf)
def zAf (ops:Array Oper) (plan:List (List (Tmp × Option Nat))) (n:Nat) (fin:List (Tmp × Nat)):Bool:=fin.all fun x=>decide (x.2 < n) && qI ops plan (n - 1 - x.2)
theorem zAn {l:List Oper} {plan:List (List (Tmp × Option Nat))} {a:Act} {w:World} {T:List (Value→World→Prop)} (hlen:T.length=l.length) (hall:∀ (i:Nat) (o:Oper) d,l.toArray[i]?=some o→o.dst=some d→qI l.toArray plan i=true→((T.reverse).getD i (fun _ _=>False)) (a.tmps.getD d undef) w) :
  ∀ (fs:List (Tmp × Nat)),zBC l fs=true→zAf l.toArray plan l.length fs=true→zAR T (fun t=>a.tmps.getD t undef) w fs
 | [],_,_=>trivial
 | (t,d) :: r,h,h2=>by
  simp only [zBC,List.all_cons,Bool.and_eq_true,decide_eq_true_eq] at h;simp only [zAf,List.all_cons,Bool.and_eq_true,decide_eq_true_eq] at h2;obtain ⟨⟨hd,ho⟩,hr⟩:=h;obtain ⟨⟨_,hn⟩,hr2⟩:=h2;refine ⟨?_,zAn hlen hall r (by simpa [zBC] using hr) (by simpa [zAf] using hr2)⟩
  cases hx:l[l.length - 1 - d]? with
  | none=>rw [hx] at ho;cases ho
  | some o =>
   rw [hx] at ho;have:=hall (l.length - 1 - d) o t (by simpa using hx) (by simpa using ho) hn;rw [← hlen,zBo T _ (by omega)] at this;exact this
theorem zDi {id:Nat} {Q:Exit→Act→World→Prop} {l:List Oper} {L:List Value} {ds:List Deferred} (R:World→World→Prop) (Rs:Nat→World→World→Prop) (plan:List (List (Tmp × Option Nat))) (fin:List (Tmp × Nat)) (mask:List (Option Tmp))
  (hplan:(jR l.toArray (xZ 0 plan) && vN 0 plan && zAG l 0 mask && zBC l fin && zAf l.toArray (xZ 0 plan) l.length fin)=true) (hmask:mask.length=L.length)
  (hm:P.follows .mixedOrders=true) (hrefl:∀ w,R w w) (htrans:∀ a b c,R a b→R b c→R a c) (hsrefl:∀ k w,Rs k w w) (hdrew:R w0 w0.drew)
  (hdst:(l.all fun o=>match o.dst with | some d=>decide (d < L.length) | none=>true)=true)
  (h:zIY P l.toArray (xZ 0 plan) R Rs w0 ⟨L.toArray,ds⟩ (fun T=>∀ f w,R w0 w→zAR T f w fin→Q .normal ⟨(qE mask L f).toArray,ds⟩ w) l plan []):(Code.region id l.toArray true).wp P Q ⟨L.toArray,ds⟩ w0:=by
 simp only [Bool.and_eq_true] at hplan;obtain ⟨⟨⟨⟨h1,h2⟩,h3⟩,h4⟩,h5⟩:=hplan;refine zDf R Rs (xZ 0 plan) h1 hm hrefl htrans hsrefl hdrew (by simpa using hdst) ?_;refine zCO (ops:=l.toArray) ?_ l plan [] (by simp) h2 h;intro T hE hT a w hR hd hs hsame hall hdone;have hT':T.length=l.length:=(by simpa using hT);have hf:=hE _ w hR (zAn hT' hall fin h4 h5)
 have hmerge:=zAP (l:=l) (a:=a) mask L [] h3 hmask (by simpa using hs.symm) (fun t ht=>by
  have:=hsame t (fun i o ho=>ht i o (by simpa using ho));rw [this]
  simp [Array.getD_eq_getD_getElem?,List.getD_eq_getElem?_getD])
 rw [hmerge] at hf;simp only [List.length_nil,List.drop_zero] at hf;have e:a=⟨a.tmps,ds⟩:=(by cases a;simp only at hd;rw [hd]);rw [e];exact hf
theorem zIP {E:List (Value→World→Prop)→Prop} {o:Oper} {l:List Oper} {fs:List (Tmp × Option Nat)} {plan:List (List (Tmp × Option Nat))} {T:List (Value→World→Prop)} {v:Value}
  (h1:∀ a w,R w0 w→qL T a0 a w fs→qW P ops (Rk5 R Rs T.length) o (EV v) a w) (h2:zIY P ops pl R Rs w0 a0 E l plan (EV v :: T)):zIY P ops pl R Rs w0 a0 E (o :: l) (fs :: plan) T:=⟨EV v,xC.ev v,h1,h2⟩
end
def zZ (dl:List (Nat × (World→World→Prop))) (j:Nat):World→World→Prop:=(dl.lookup j).getD (Only [])
theorem zCQ {dl:List (Nat × (World→World→Prop))} {j:Nat} {S:World→World→Prop} (h:dl.lookup j=some S):(j,S)∈dl:=by
 induction dl with
 | nil=>cases h
 | cons x r ih =>
  obtain ⟨a,b⟩:=x;rw [List.lookup_cons] at h
  split at h
  ·rename_i he
   obtain rfl:j=a:=(by simpa using he);obtain rfl:=Option.some.inj h
   simp
  ·exact List.mem_cons_of_mem _ (ih h)
theorem zZ.refl {dl:List (Nat × (World→World→Prop))} (h:∀ x∈dl,∀ w,x.2 w w) (j:Nat) (w:World):zZ dl j w w:=by
 unfold zZ
 cases e:dl.lookup j with
 | none=>exact Only.refl _ _
 | some D=>exact h _ (zCQ e) w
theorem zL {ops:Array Oper} {plan:List (List (Tmp × Option Nat))} {dl:List (Nat × (World→World→Prop))} {k:Nat} {S:Value→World→Prop} (h0:Stable (Only []) S) (h:∀ x∈dl,(x.1 == k || (zAc ops k).contains x.1 || yR ops plan k x.1)=false→Stable x.2 S):xC ops plan (zZ dl) k S:=by
 intro j hj hc ho;unfold zZ
 cases e:dl.lookup j with
 | none=>exact h0
 | some D =>
  refine h (j,D) (zCQ e) ?_;simp only [Bool.or_eq_false_iff];exact ⟨⟨by simpa using hj,hc⟩,ho⟩
end Go.Proofs.YtfeglnpmpgipiaaGreatDoor
end
section
set_option linter.unusedVariables false
namespace Go.Proofs.YtfeglnpmpgipiaaGreatDoor
open Go.RowKit
section
variable {P:Program} {ops:Array Oper} {pl:List (List (Tmp × Option Nat))} {R:World→World→Prop} {Rs:Nat→World→World→Prop} {w0:World} {a0:Act}
def zAU (o:Oper):Option Tmp:=match o.dst,o.op with | none,.store _ (.tmp t) _=>some t | _,_=>none
def Linked (o:Oper) (a:Act) (v:Value):Prop:=∀ t,zAU o=some t→v=a.tmps.getD t undef
theorem zFt {o:Oper} {t:Tmp} (h:zAU o=some t):o.dst=none:=by
 unfold zAU at h
 split at h
 ·assumption
 ·cases h
theorem Linked.none {o:Oper} {a:Act} {v:Value} (h:zAU o=none):Linked o a v:=fun t ht=>by rw [h] at ht;cases ht
def zEj (ops:Array Oper):Bool:=(List.range ops.size).all fun i=>match ops[i]? with
 | none=>true
 | some x=>match zAU x with
  | none=>true
  | some t=>(List.range ops.size).any fun j=>match ops[j]? with
   | none=>false
   | some y=>y.dst == some t && waitsFor x j
theorem zDn {ops:Array Oper} (h:zEj ops=true):∀ (i:Nat) (x:Oper) t,ops[i]?=some x→zAU x=some t→∃ (j:Nat) (y:Oper),ops[j]?=some y∧y.dst=some t∧waitsFor x j=true:=by
 intro i x t hx ht;have h1:=List.all_eq_true.1 h i (List.mem_range.2 (Array.getElem?_eq_some_iff.1 hx).1);simp only [hx,ht] at h1;obtain ⟨j,_,hj⟩:=List.any_eq_true.1 h1
 cases hy:ops[j]? with
 | none=>rw [hy] at hj;cases hj
 | some y =>
  rw [hy] at hj;simp only [Bool.and_eq_true,beq_iff_eq] at hj;exact ⟨j,y,hy,hj.1,hj.2⟩
def RGL (P:Program) (ops:Array Oper) (pl:List (List (Tmp × Option Nat))) (R:World→World→Prop) (Rs:Nat→World→World→Prop) (w0:World) (a0:Act) (Q:Exit→Act→World→Prop):List Oper→List (List (Tmp × Option Nat))→List (Value→World→Prop)→Prop
 | [],_,T=>∀ a w,R w0 w→a.defers=a0.defers→a.tmps.size=a0.tmps.size→(∀ t,(∀ (i:Nat) (o:Oper),ops[i]?=some o→o.dst≠some t)→a.tmps.getD t undef=a0.tmps.getD t undef) →
   (∀ (i:Nat) (o:Oper) d,ops[i]?=some o→o.dst=some d→qI ops pl i=true→((T).getD i (fun _ _=>False)) (a.tmps.getD d undef) w)→(∀ (i:Nat) (o:Oper),ops[i]?=some o→qI ops pl i=true→∃ v,((T).getD i (fun _ _=>False)) v w∧Linked o a v)→Q .normal a w
 | o :: l,fs :: plan,T=>∃ S,xC ops pl Rs T.length S∧(∀ a w,R w0 w→qL T a0 a w fs→qW P ops (Rk5 R Rs T.length) o (fun v w'=>S v w'∧Linked o a v) a w)∧RGL P ops pl R Rs w0 a0 Q l plan (T ++ [S])
 | _ :: _,[],_=>False
theorem zCP {Q:Exit→Act→World→Prop}:∀ (l:List Oper) (plan:List (List (Tmp × Option Nat))) (T:List (Value→World→Prop)),
  (∀ (k:Nat) fs,plan[k]?=some fs→∀ t i,(t,some i)∈fs→i < T.length+k)→RGL P ops pl R Rs w0 a0 Q l plan T →
  ∃ T',T'.take T.length=T∧T'.length=T.length+l.length ∧
   (∀ (k:Nat) o,l[k]?=some o→∃ fs S,plan[k]?=some fs∧T'[T.length+k]?=some S∧xC ops pl Rs (T.length+k) S∧∀ a w,R w0 w→qL T' a0 a w fs→qW P ops (Rk5 R Rs (T.length+k)) o (fun v w'=>S v w'∧Linked o a v) a w) ∧
   (∀ a w,R w0 w→a.defers=a0.defers→a.tmps.size=a0.tmps.size→(∀ t,(∀ (i:Nat) (o:Oper),ops[i]?=some o→o.dst≠some t)→a.tmps.getD t undef=a0.tmps.getD t undef) →
    (∀ (i:Nat) (o:Oper) d,ops[i]?=some o→o.dst=some d→qI ops pl i=true→((T').getD i (fun _ _=>False)) (a.tmps.getD d undef) w)→(∀ (i:Nat) (o:Oper),ops[i]?=some o→qI ops pl i=true→∃ v,((T').getD i (fun _ _=>False)) v w∧Linked o a v)→Q .normal a w)
 | [],_,T,_,h=>⟨T,List.take_length,rfl,fun k o hk=>by simp at hk,h⟩
 | o :: l,[],_,_,h=>h.elim
 | o :: l,fs :: plan,T,hi,h=>by
  obtain ⟨S,hS,hstep,hrest⟩:=h
  obtain ⟨T',h1,h2,h3,h4⟩:=zCP l plan (T ++ [S]) (fun k f hf t i hm=>by
   have:=hi (k+1) f (by simpa using hf) t i hm
   simp;omega) hrest
  have hlen:(T ++ [S]).length=T.length+1:=by simp
  have hT:T'.take T.length=T:=by
   have:=congrArg (List.take T.length) h1;rw [List.take_take,hlen,Nat.min_eq_left (by omega),List.take_left] at this;exact this
  have hS':T'[T.length]?=some S:=by
   have e:(T'.take (T ++ [S]).length)[T.length]?=(T ++ [S])[T.length]?:=(by rw [h1]);rw [List.getElem?_take,if_pos (by omega),List.getElem?_append_right (Nat.le_refl _)] at e
   simpa using e
  refine ⟨T',hT,by rw [h2,hlen];simp;omega,fun k x hk=>?_,h4⟩
  cases k with
  | zero =>
   simp only [List.getElem?_cons_zero,Option.some.injEq] at hk;subst hk;exact ⟨fs,S,rfl,hS',hS,fun a w hR hf=>hstep a w hR (xI hT rfl (fun t i hm=>by have:=hi 0 fs rfl t i hm;omega) hf)⟩
  | succ k =>
   obtain ⟨f,S2,e1,e2,e3,e4⟩:=h3 k x (by simpa using hk);have e5:(T ++ [S]).length+k=T.length+(k+1):=(by rw [hlen];omega);rw [e5] at e2 e3 e4;exact ⟨f,S2,by simpa using e1,e2,e3,e4⟩
structure zHw (ops:Array Oper) (pl:List (List (Tmp × Option Nat))) (R:World→World→Prop) (Rs:Nat→World→World→Prop) (w0:World) (a0:Act) (T:List (Value→World→Prop)) (listed:Array Bool) (a:Act) (w:World):Prop where
 later:R w0 w
 defers:a.defers=a0.defers
 size:a.tmps.size=a0.tmps.size
 same:∀ t,(∀ (i:Nat) (o:Oper),ops[i]?=some o→listed.getD i true=true→o.dst≠some t)→a.tmps.getD t undef=a0.tmps.getD t undef
 closed:∀ (i:Nat) (o:Oper) k,ops[i]?=some o→listed.getD i true=true→waitsFor o k=true→listed.getD k true=true
 told:∀ (i:Nat) (o:Oper) d,ops[i]?=some o→listed.getD i true=true→o.dst=some d→(∀ (j:Nat) x,ops[j]?=some x→listed.getD j true=true→yR ops pl i j=false)→(T.getD i (fun _ _=>False)) (a.tmps.getD d undef) w
 done:∀ (i:Nat) (o:Oper),ops[i]?=some o→listed.getD i true=true→(∀ (j:Nat) x,ops[j]?=some x→listed.getD j true=true→yR ops pl i j=false)→∃ v,(T.getD i (fun _ _=>False)) v w∧Linked o a v
variable {T:List (Value→World→Prop)}
theorem zIx {Q:Exit→Act→World→Prop} (hlinks:∀ (i:Nat) (x:Oper) t,ops[i]?=some x→zAU x=some t→∃ (j:Nat) (y:Oper),ops[j]?=some y∧y.dst=some t∧waitsFor x j=true) (hplan:jR ops pl=true) (htrans:∀ a b c,R a b→R b c→R a c) (hrefl:∀ w,R w w) (hsrefl:∀ k w,Rs k w w)
  (hdst:∀ (i:Nat) (o:Oper) d,ops[i]?=some o→o.dst=some d→d < a0.tmps.size)
  (hstep:∀ (k:Nat) o,ops[k]?=some o→∃ S,T[k]?=some S∧xC ops pl Rs k S∧∀ a w,R w0 w→qL T a0 a w (pl.getD k [])→qW P ops (Rk5 R Rs k) o (fun v w'=>S v w'∧Linked o a v) a w)
  (hend:∀ a w,R w0 w→a.defers=a0.defers→a.tmps.size=a0.tmps.size→(∀ t,(∀ (i:Nat) (o:Oper),ops[i]?=some o→o.dst≠some t)→a.tmps.getD t undef=a0.tmps.getD t undef) →
   (∀ (i:Nat) (o:Oper) d,ops[i]?=some o→o.dst=some d→qI ops pl i=true→(T.getD i (fun _ _=>False)) (a.tmps.getD d undef) w)→(∀ (i:Nat) (o:Oper),ops[i]?=some o→qI ops pl i=true→∃ v,(T.getD i (fun _ _=>False)) v w∧Linked o a v)→Q .normal a w) :
  ∀ (fuel:Nat) (listed:Array Bool) (a:Act) (w:World),listed.size=ops.size→(listed.toList.filter (!·)).length≤fuel→zHw ops pl R Rs w0 a0 T listed a w→wpAny P .any ops Q fuel listed a w:=by
 simp only [jR,Bool.and_eq_true,beq_iff_eq,List.all_eq_true,List.mem_range] at hplan;obtain ⟨hpl,hpk⟩:=hplan;have hop:∀ (k:Nat) o,ops[k]?=some o→k < ops.size:=fun k o h=>(Array.getElem?_eq_some_iff.1 h).1
 have hall:∀ (k:Nat) o,ops[k]?=some o→(∀ e∈o.after,Region.binds .any e=true→e.on < k)∧(∀ f∈pl.getD k [],jT ops k o f=true) ∧
   (∀ (i:Nat) x,i≠k→ops[i]?=some x→∀ d,x.dst=some d→o.dst≠some d):=by
  intro k o hk;have:=hpk k (hop k o hk);simp only [hk,Bool.and_eq_true,List.all_eq_true,List.mem_range,Array.all_eq_true_iff_forall_mem] at this;obtain ⟨⟨h1,h2⟩,h3⟩:=this;refine ⟨fun e he hb=>?_,h2,fun i x hi hx d hd=>?_⟩
  ·have:=h1 e he;simp only [hb,Bool.not_true,Bool.false_or,decide_eq_true_eq] at this;exact this
  ·have:=h3 i (hop i x hx);simp only [hx,hd,Bool.or_eq_true,beq_iff_eq,hi,false_or,reduceCtorEq,bne_iff_ne,ne_eq] at this;exact fun e=>this e.symm
 have hfull:∀ (listed:Array Bool),listed.size=ops.size→Region.ready .any ops listed=[]→∀ (i:Nat),listed.getD i true=true:=by
  intro listed hs hr i
  induction i using Nat.strongRecOn with
  | _ i ih =>
   rcases Bool.eq_false_or_eq_true (listed.getD i true) with h | h
   ·exact h
   ·exfalso
    have hi:i < ops.size:=by
     rcases Nat.lt_or_ge i ops.size with h' | h'
     ·exact h'
     ·rw [Array.getD_eq_getD_getElem?,Array.getElem?_eq_none (by omega)] at h;cases h
    have ho:ops[i]?=some ops[i]:=Array.getElem?_eq_getElem hi
    have hm:i∈Region.ready .any ops listed:=by
     unfold Region.ready;rw [List.mem_filter];refine ⟨List.mem_range.2 hi,?_⟩;rw [h,ho];simp only [Bool.not_false,Bool.true_and,Option.map_some,Option.getD_some,Array.all_eq_true_iff_forall_mem,Bool.or_eq_true,Bool.not_eq_true'];intro e he
     by_cases hb:Region.binds .any e=true
     ·right
      have hlt:=(hall i _ ho).1 e he hb;have:=ih e.on hlt;rw [Array.getD_eq_getD_getElem?,Array.getElem?_eq_getElem (by omega)] at this ⊢;exact this
     ·left;simpa using hb
    rw [hr] at hm;cases hm
 have hfin:∀ (listed:Array Bool) (a:Act) (w:World),(∀ (i:Nat),listed.getD i true=true)→zHw ops pl R Rs w0 a0 T listed a w→Q .normal a w:=fun listed a w hl h =>
  hend a w h.later h.defers h.size (fun t ht=>h.same t (fun i o ho _=>ht i o ho)) (fun i o d ho hd hn=>h.told i o d ho (hl i) hd (fun j _ _ _=>vJ hn j)) (fun i o ho hn=>h.done i o ho (hl i) (fun j _ _ _=>vJ hn j))
 intro fuel
 induction fuel with
 | zero =>
  intro listed a w hs hf h
  have hl:∀ (i:Nat),listed.getD i true=true:=by
   intro i;rw [Array.getD_eq_getD_getElem?]
   cases hi:listed[i]? with
   | none=>rfl
   | some b =>
    cases b with
    | true=>rfl
    | false =>
     have hm:false∈listed.toList.filter (!·):=List.mem_filter.2 ⟨by rw [Array.mem_toList_iff];exact Array.mem_of_getElem? hi,rfl⟩;have:listed.toList.filter (!·)=[]:=List.eq_nil_of_length_eq_zero (by omega);rw [this] at hm;cases hm
  refine ⟨?_,hfin listed a w hl h⟩;unfold Region.ready;apply List.filter_eq_nil_iff.2;intro i _;rw [hl i];simp
 | succ fuel ih =>
  intro listed a w hs hf h;refine ⟨fun hr=>hfin listed a w (hfull listed hs hr) h,fun k hk=>?_⟩;unfold Region.ready at hk;rw [List.mem_filter] at hk;obtain ⟨hk1,hk2⟩:=hk;have hkl:k < ops.size:=List.mem_range.1 hk1;have ho:ops[k]?=some ops[k]:=Array.getElem?_eq_getElem hkl;generalize ops[k]=o at ho;rw [ho] at hk2;simp only [Bool.and_eq_true,Bool.not_eq_true',Option.map_some,Option.getD_some,Array.all_eq_true_iff_forall_mem,Bool.or_eq_true] at hk2;obtain ⟨hun,haft⟩:=hk2;obtain ⟨hon,hfs,hdd⟩:=hall k o ho;obtain ⟨S,hS,hst,hrun⟩:=hstep k o ho
  have hwait:∀ i,waitsFor o i=true→listed.getD i true=true:=by
   intro i hw;simp only [waitsFor,List.any_eq_true,Bool.and_eq_true,beq_iff_eq] at hw;obtain ⟨e,he,hb,rfl⟩:=hw;rw [Array.mem_toList_iff] at he;have h1:=haft e he;rw [hb] at h1;have h2:listed.getD e.on false=true:=(by simpa using h1);have h3:=hon e he hb;rw [Array.getD_eq_getD_getElem?,Array.getElem?_eq_getElem (by omega)] at h2 ⊢;exact h2
  have hfacts:∀ fs,(∀ f∈fs,jT ops k o f=true)→(∀ f∈fs,f∈pl.getD k [])→qL T a0 a w fs:=by
   intro fs
   induction fs with
   | nil=>intro _ _;exact trivial
   | cons f fs ihf =>
    intro hf hin;have hrest:=ihf (fun g hg=>hf g (List.mem_cons_of_mem _ hg)) (fun g hg=>hin g (List.mem_cons_of_mem _ hg));have hf0:=hf f (by simp);obtain ⟨t,x⟩:=f
    cases x with
    | none =>
     refine ⟨h.same t (fun i x hx hl hd=>?_),hrest⟩;simp only [jT,List.all_eq_true,List.mem_range] at hf0;have h1:=hf0 i (hop i x hx);have hik:i≠k:=(by rintro rfl;rw [hun] at hl;cases hl);simp only [hx,hd,Bool.or_eq_true,beq_iff_eq,hik,false_or,bne_self_eq_false,Bool.false_eq_true] at h1;have:=h.closed i x k hx hl h1;rw [hun] at this;cases this
    | some i =>
     simp only [jT,Bool.and_eq_true,decide_eq_true_eq] at hf0;obtain ⟨⟨_,hw⟩,hd⟩:=hf0
     cases hx:ops[i]? with
     | none=>rw [hx] at hd;cases hd
     | some x =>
      rw [hx] at hd;refine ⟨h.told i x t hx (hwait i hw) (by simpa using hd) (fun j y hy hlj=>?_),hrest⟩
      rcases Bool.eq_false_or_eq_true (yR ops pl i j) with ho2 | ho2
      ·exfalso
       rcases zCD (hin (t,some i) (by simp)) ho2 with e | e
       ·subst e;rw [hun] at hlj;cases hlj
       ·have h3:=xK ops j listed hlj ⟨y,hy⟩ h.closed k (by simpa using e);rw [hun] at h3;cases h3
      ·exact ho2
  have hgo:=hrun a w h.later (hfacts _ hfs (fun f hf=>hf))
  have hnext:∀ v w',S v w'∧Linked o a v→Rk5 R Rs k w w'→wpAny P .any ops Q fuel (listed.setIfInBounds k true) (a.put o.dst v) w':=by
   intro v w' ⟨hv,hlk⟩ hRk;have hR:=hRk.1
   have hstand:∀ (i:Nat) (x:Oper),ops[i]?=some x→listed.getD i true=true→i≠k→yR ops pl i k=false→∀ u,(T.getD i (fun _ _=>False)) u w→(T.getD i (fun _ _=>False)) u w':=by
    intro i x hx hl2 hik hov u h1;obtain ⟨S',hS',hst',_⟩:=hstep i x hx;rw [List.getD_eq_getElem?_getD,hS'] at h1 ⊢;refine hst' k (fun e=>hik e.symm) ?_ hov _ _ _ h1 hRk.2
    rcases Bool.eq_false_or_eq_true ((zAc ops i).contains k) with h2 | h2
    ·have h3:=xK ops i listed hl2 ⟨x,hx⟩ h.closed k (by simpa using h2);rw [hun] at h3;cases h3
    ·exact h2
   have hks:k < listed.size:=by omega
   have hclosed:∀ (i:Nat) (x:Oper) j,ops[i]?=some x→(listed.setIfInBounds k true).getD i true=true→waitsFor x j=true→(listed.setIfInBounds k true).getD j true=true:=by
    intro i x j hx hl hw
    rcases jI hl with rfl | hl2
    ·rw [ho] at hx;cases hx;have:=hwait j hw
     by_cases e:i=j
     ·subst e;rw [Array.getD_eq_getD_getElem?,Array.getElem?_setIfInBounds_self_of_lt hks];rfl
     ·rw [Array.getD_eq_getD_getElem?,Array.getElem?_setIfInBounds_ne e,← Array.getD_eq_getD_getElem?];exact this
    ·have:=h.closed i x j hx hl2 hw
     by_cases e:k=j
     ·subst e;rw [Array.getD_eq_getD_getElem?,Array.getElem?_setIfInBounds_self_of_lt hks];rfl
     ·rw [Array.getD_eq_getD_getElem?,Array.getElem?_setIfInBounds_ne e,← Array.getD_eq_getD_getElem?];exact this
   have hk1:(listed.setIfInBounds k true).getD k true=true:=by rw [Array.getD_eq_getD_getElem?,Array.getElem?_setIfInBounds_self_of_lt hks];rfl
   have hmono:∀ j,listed.getD j true=true→(listed.setIfInBounds k true).getD j true=true:=fun j hj=>by
    by_cases e:k=j
    ·subst e;exact hk1
    ·rw [Array.getD_eq_getD_getElem?,Array.getElem?_setIfInBounds_ne e,← Array.getD_eq_getD_getElem?];exact hj
   refine ih _ _ _ (by simpa using hs) ?_ ⟨htrans _ _ _ h.later hR,by rw [put_defers,h.defers],by rw [zAk,h.size],?_,hclosed,?_,?_⟩
   ·have hlt:((listed.setIfInBounds k true).toList.filter (!·)).length < (listed.toList.filter (!·)).length:=by
     have hk2:listed.toList[k]?=some false:=by
      rw [Array.getD_eq_getD_getElem?,Array.getElem?_eq_getElem hks] at hun;simp only [Option.getD_some] at hun;rw [Array.getElem?_toList,Array.getElem?_eq_getElem hks,hun]
     rw [Array.toList_setIfInBounds];exact vI _ _ hk2
    omega
   ·intro t ht;have h1:o.dst≠some t:=ht k o ho (by rw [Array.getD_eq_getD_getElem?,Array.getElem?_setIfInBounds_self_of_lt hks];rfl);rw [xO _ _ _ _ h1];refine h.same t (fun i x hx hl=>ht i x hx ?_)
    by_cases e:k=i
    ·subst e;rw [Array.getD_eq_getD_getElem?,Array.getElem?_setIfInBounds_self_of_lt hks];rfl
    ·rw [Array.getD_eq_getD_getElem?,Array.getElem?_setIfInBounds_ne e,← Array.getD_eq_getD_getElem?];exact hl
   ·intro i x d hx hl hd hal
    rcases jI hl with rfl | hl2
    ·rw [ho] at hx;cases hx;rw [hd,zCH _ _ _ (by rw [h.size];exact hdst i o d ho hd)];rw [List.getD_eq_getElem?_getD,hS];exact hv
    ·have hik:i≠k:=(by rintro rfl;rw [hun] at hl2;cases hl2);rw [xO _ _ _ _ (hdd i x hik hx d hd)];exact hstand i x hx hl2 hik (hal k o ho hk1) _ (h.told i x d hx hl2 hd (fun j y hy hj=>hal j y hy (hmono j hj)))
   ·intro i x hx hl hal
    rcases jI hl with rfl | hl2
    ·rw [ho] at hx;cases hx;exact ⟨v,by rw [List.getD_eq_getElem?_getD,hS];exact hv,fun t ht=>by rw [xO _ _ _ _ (by rw [zFt ht];simp)];exact hlk t ht⟩
    ·have hik:i≠k:=(by rintro rfl;rw [hun] at hl2;cases hl2);obtain ⟨u,hu,hlu⟩:=h.done i x hx hl2 (fun j y hy hj=>hal j y hy (hmono j hj));refine ⟨u,hstand i x hx hl2 hik (hal k o ho hk1) u hu,fun t ht=>?_⟩;obtain ⟨j,y,hy,hyd,hyw⟩:=hlinks i x t hx ht;have hjl:=h.closed i x j hx hl2 hyw;have hjk:j≠k:=(by rintro rfl;rw [hun] at hjl;cases hjl);rw [xO _ _ _ _ (hdd j y hjk hy t hyd)];exact hlu t ht
  unfold wpOp;rw [ho];unfold qW at hgo;dsimp only
  split
  ·rename_i hw
   rw [if_pos hw] at hgo;exact .inl (Oper.wp_noexit (fun a' w' ⟨v,e,hv,hR⟩=>by rw [e];exact hnext v w' hv hR) hgo)
  ·rename_i hw
   rw [if_neg hw] at hgo;exact hnext undef w hgo ⟨hrefl w,hsrefl _ w⟩
theorem zDe {id:Nat} {Q:Exit→Act→World→Prop} {l:List Oper} (R:World→World→Prop) (Rs:Nat→World→World→Prop) (plan:List (List (Tmp × Option Nat))) (hlk:zEj l.toArray=true) (hplan:jR l.toArray plan=true)
  (hm:P.follows .mixedOrders=true) (hrefl:∀ w,R w w) (htrans:∀ a b c,R a b→R b c→R a c) (hsrefl:∀ k w,Rs k w w) (hdrew:R w0 w0.drew)
  (hdst:(l.all fun o=>match o.dst with | some d=>decide (d < a0.tmps.size) | none=>true)=true)
  (h:RGL P l.toArray plan R Rs w0 a0 Q l plan []):(Code.region id l.toArray true).wp P Q a0 w0:=by
 refine wp_region_any hm ?_;have hp:=hplan;simp only [jR,Bool.and_eq_true,beq_iff_eq,List.all_eq_true,List.mem_range] at hp;obtain ⟨hpl,hpk⟩:=hp;have hop:∀ (k:Nat) o,l.toArray[k]?=some o→k < l.toArray.size:=fun k o h=>(Array.getElem?_eq_some_iff.1 h).1
 obtain ⟨T,h1,h2,h3,h4⟩:=zCP l plan [] (fun k fs hk t i hm'=>by
  have hk':k < plan.length:=(List.getElem?_eq_some_iff.1 hk).1;have:=hpk k (by rw [← hpl];exact hk');rw [hpl] at hk';rw [Array.getElem?_eq_getElem hk'] at this;simp only [Bool.and_eq_true,List.all_eq_true] at this;have:=this.1.2 (t,some i) (by rw [List.getD_eq_getElem?_getD,hk];exact hm');simp only [jT,Bool.and_eq_true,decide_eq_true_eq] at this
  simpa using this.1.1) h
 simp only [List.length_nil,Nat.zero_add] at h2 h3;refine zIx (T:=T) (pl:=plan) (R:=R) (Rs:=Rs) (w0:=w0) (a0:=a0) (zDn hlk) hplan htrans hrefl hsrefl ?_ ?_ ?_ _ _ _ _ (by simp) (by simp) ?_
 ·intro i o d ho hd
  have hm':o∈l:=by
   have:o∈l.toArray:=Array.mem_of_getElem? ho
   simpa using this
  have:=List.all_eq_true.1 hdst o hm';rw [hd] at this
  simpa using this
 ·intro k o ho;obtain ⟨fs,S,e1,e2,e3,e4⟩:=h3 k o (by simpa using ho);exact ⟨S,e2,e3,by rw [List.getD_eq_getElem?_getD,e1];exact e4⟩
 ·intro a w hR hd hs hsame htold hdone;exact h4 a w hR hd hs hsame htold hdone
 ·refine ⟨hdrew,rfl,rfl,fun _ _=>rfl,fun i o k ho hl _=>?_,fun i o d ho hl _ _=>?_,fun i o ho hl _=>?_⟩
  ·have:=hop i o ho;simp only [List.size_toArray] at this
   simp [this] at hl
  ·have:=hop i o ho;simp only [List.size_toArray] at this
   simp [this] at hl
  ·have:=hop i o ho;simp only [List.size_toArray] at this
   simp [this] at hl
def zEP (P:Program) (ops:Array Oper) (pl:List (List (Tmp × Option Nat))) (R:World→World→Prop) (Rs:Nat→World→World→Prop) (w0:World) (a0:Act) (E:List (Value→World→Prop)→Prop):List Oper→List (List (Tmp × Option Nat))→List (Value→World→Prop)→Prop
 | [],_,T=>E T
 | o :: l,fs :: plan,T=>∃ S,xC ops pl Rs T.length S∧(∀ a w,R w0 w→qL T a0 a w fs→qW P ops (Rk5 R Rs T.length) o (fun v w'=>S v w'∧Linked o a v) a w)∧zEP P ops pl R Rs w0 a0 E l plan (S :: T)
 | _ :: _,[],_=>False
theorem zCa {Q:Exit→Act→World→Prop} {E:List (Value→World→Prop)→Prop}
  (hE:∀ T,E T→T.length=ops.size→∀ a w,R w0 w→a.defers=a0.defers→a.tmps.size=a0.tmps.size→(∀ t,(∀ (i:Nat) (o:Oper),ops[i]?=some o→o.dst≠some t)→a.tmps.getD t undef=a0.tmps.getD t undef) →
   (∀ (i:Nat) (o:Oper) d,ops[i]?=some o→o.dst=some d→qI ops pl i=true→((T.reverse).getD i (fun _ _=>False)) (a.tmps.getD d undef) w)→(∀ (i:Nat) (o:Oper),ops[i]?=some o→qI ops pl i=true→∃ v,((T.reverse).getD i (fun _ _=>False)) v w∧Linked o a v)→Q .normal a w) :
  ∀ (l:List Oper) (plan:List (List (Tmp × Option Nat))) (T:List (Value→World→Prop)),T.length+l.length=ops.size→vN T.length plan=true →
   zEP P ops pl R Rs w0 a0 E l plan T→RGL P ops pl R Rs w0 a0 Q l (xZ T.length plan) T.reverse
 | [],plan,T,hl,_,h=>by
  cases plan <;> exact hE T h (by simpa using hl)
 | o :: l,[],_,_,_,h=>h.elim
 | o :: l,fs :: plan,T,hl,hn,h=>by
  obtain ⟨S,h1,h2,h3⟩:=h;simp only [vN,Bool.and_eq_true] at hn;have:=zCa hE l plan (S :: T) (by simp only [List.length_cons] at hl ⊢;omega) (by simpa using hn.2) h3;rw [List.reverse_cons,List.length_cons] at this;refine ⟨S,by rw [List.length_reverse];exact h1,?_,this⟩;rw [List.length_reverse];exact fun a w hR hf=>h2 a w hR (vB T fs hn.1 hf)
def zBR (l:List Oper) (fin:List (Tmp × Nat)):Bool:=fin.all fun x=>match l[l.length - 1 - x.2]? with | none=>false | some o=>zAU o == some x.1
theorem zCt {l:List Oper} {plan:List (List (Tmp × Option Nat))} {a:Act} {w:World} {T:List (Value→World→Prop)} (hlen:T.length=l.length) (hall:∀ (i:Nat) (o:Oper),l.toArray[i]?=some o→qI l.toArray plan i=true→∃ v,((T.reverse).getD i (fun _ _=>False)) v w∧Linked o a v) :
  ∀ (fs:List (Tmp × Nat)),zBR l fs=true→zAf l.toArray plan l.length fs=true→zAR T (fun t=>a.tmps.getD t undef) w fs
 | [],_,_=>trivial
 | (t,d) :: r,h,h2=>by
  simp only [zBR,List.all_cons,Bool.and_eq_true] at h;simp only [zAf,List.all_cons,Bool.and_eq_true,decide_eq_true_eq] at h2;obtain ⟨ho,hr⟩:=h;obtain ⟨⟨hd,hn⟩,hr2⟩:=h2;refine ⟨?_,zCt hlen hall r (by simpa [zBR] using hr) (by simpa [zAf] using hr2)⟩
  cases hx:l[l.length - 1 - d]? with
  | none=>rw [hx] at ho;cases ho
  | some o =>
   rw [hx] at ho;obtain ⟨v,hv,hlk⟩:=hall (l.length - 1 - d) o (by simpa using hx) hn;rw [hlk t (by simpa using ho),← hlen,zBo T _ (by omega)] at hv;exact hv
theorem zDX {id:Nat} {Q:Exit→Act→World→Prop} {l:List Oper} {L:List Value} {ds:List Deferred} (R:World→World→Prop) (Rs:Nat→World→World→Prop) (plan:List (List (Tmp × Option Nat))) (fin lnk:List (Tmp × Nat)) (mask:List (Option Tmp))
  (hplan:(jR l.toArray (xZ 0 plan) && vN 0 plan && zAG l 0 mask && zBC l fin && zAf l.toArray (xZ 0 plan) l.length fin && zEj l.toArray && zBR l lnk && zAf l.toArray (xZ 0 plan) l.length lnk)=true) (hmask:mask.length=L.length)
  (hm:P.follows .mixedOrders=true) (hrefl:∀ w,R w w) (htrans:∀ a b c,R a b→R b c→R a c) (hsrefl:∀ k w,Rs k w w) (hdrew:R w0 w0.drew)
  (hdst:(l.all fun o=>match o.dst with | some d=>decide (d < L.length) | none=>true)=true)
  (h:zEP P l.toArray (xZ 0 plan) R Rs w0 ⟨L.toArray,ds⟩ (fun T=>∀ f w,R w0 w→zAR T f w fin→zAR T f w lnk→Q .normal ⟨(qE mask L f).toArray,ds⟩ w) l plan []):(Code.region id l.toArray true).wp P Q ⟨L.toArray,ds⟩ w0:=by
 simp only [Bool.and_eq_true] at hplan;obtain ⟨⟨⟨⟨⟨⟨⟨h1,h2⟩,h3⟩,h4⟩,h5⟩,h6⟩,h7⟩,h8⟩:=hplan;refine zDe R Rs (xZ 0 plan) h6 h1 hm hrefl htrans hsrefl hdrew (by simpa using hdst) ?_;refine zCa (ops:=l.toArray) ?_ l plan [] (by simp) h2 h;intro T hE hT a w hR hd hs hsame hall hdone;have hT':T.length=l.length:=(by simpa using hT);have hf:=hE _ w hR (zAn hT' hall fin h4 h5) (zCt hT' hdone lnk h7 h8)
 have hmerge:=zAP (l:=l) (a:=a) mask L [] h3 hmask (by simpa using hs.symm) (fun t ht=>by
  have:=hsame t (fun i o ho=>ht i o (by simpa using ho));rw [this]
  simp [Array.getD_eq_getD_getElem?,List.getD_eq_getElem?_getD])
 rw [hmerge] at hf;simp only [List.length_nil,List.drop_zero] at hf;have e:a=⟨a.tmps,ds⟩:=(by cases a;simp only at hd;rw [hd]);rw [e];exact hf
theorem qW.more {R:World→World→Prop} {o:Oper} {S S':Value→World→Prop} {a:Act} {w:World} (hS:∀ v w',S v w'→S' v w') (h:qW P ops R o S a w):qW P ops R o S' a w:=by
 unfold qW at h ⊢
 split
 ·rename_i hw
  rw [if_pos hw] at h;exact Oper.wp_mono (fun a' w' ⟨v,e,hv,hR⟩=>⟨v,e,hS v w' hv,hR⟩) h
 ·rename_i hw
  rw [if_neg hw] at h;exact hS _ _ h
theorem zBK {E:List (Value→World→Prop)→Prop} {o:Oper} {l:List Oper} {fs:List (Tmp × Option Nat)} {plan:List (List (Tmp × Option Nat))} {T:List (Value→World→Prop)} (S:Value→World→Prop) (hst:xC ops pl Rs T.length S) (hn:zAU o=none)
  (h1:∀ a w,R w0 w→qL T a0 a w fs→qW P ops (Rk5 R Rs T.length) o S a w) (h2:zEP P ops pl R Rs w0 a0 E l plan (S :: T)):zEP P ops pl R Rs w0 a0 E (o :: l) (fs :: plan) T :=
 ⟨S,hst,fun a w hR hf=>(h1 a w hR hf).more (fun v w' hv=>⟨hv,Linked.none hn⟩),h2⟩
theorem zBd {E:List (Value→World→Prop)→Prop} {o:Oper} {l:List Oper} {fs:List (Tmp × Option Nat)} {plan:List (List (Tmp × Option Nat))} {T:List (Value→World→Prop)} {v:Value} (hn:zAU o=none)
  (h1:∀ a w,R w0 w→qL T a0 a w fs→qW P ops (Rk5 R Rs T.length) o (EV v) a w) (h2:zEP P ops pl R Rs w0 a0 E l plan (EV v :: T)):zEP P ops pl R Rs w0 a0 E (o :: l) (fs :: plan) T:=zBK (EV v) (xC.ev v) hn h1 h2
theorem zEB {E:List (Value→World→Prop)→Prop} {o:Oper} {l:List Oper} {fs:List (Tmp × Option Nat)} {plan:List (List (Tmp × Option Nat))} {T:List (Value→World→Prop)} {t:Tmp} (S:Value→World→Prop) (hst:xC ops pl Rs T.length S) (hn:zAU o=some t)
  (h1:∀ a w,R w0 w→qL T a0 a w fs→qW P ops (Rk5 R Rs T.length) o (fun v w'=>v=a.tmps.getD t undef∧S v w') a w) (h2:zEP P ops pl R Rs w0 a0 E l plan (S :: T)):zEP P ops pl R Rs w0 a0 E (o :: l) (fs :: plan) T :=
 ⟨S,hst,fun a w hR hf=>(h1 a w hR hf).more (fun v w' hv=>⟨hv.2,fun t' ht'=>by rw [hn] at ht';cases ht';exact hv.1⟩),h2⟩
end
end Go.Proofs.YtfeglnpmpgipiaaGreatDoor
end
section
set_option linter.unusedVariables false
namespace Go.Proofs.YtfeglnpmpgipiaaGreatDoor
open Go.RowKit
section
variable {P:Program} {ops:Array Oper} {pl:List (List (Tmp × Option Nat))} {R:World→World→Prop} {Rs:Nat→World→World→Prop} {C:Nat→World→Prop} {dirty:List Nat} {w0:World} {a0:Act}
def Rk7 (ops:Array Oper) (R:World→World→Prop) (Rs:Nat→World→World→Prop) (C:Nat→World→Prop) (dirty:List Nat) (k:Nat):World→World→Prop:=fun w w'=>R w w'∧Rs k w w'∧(∀ d∈dirty,d≠k→(zAc ops k).contains d=false→C d w→C d w')
def RG7 (P:Program) (ops:Array Oper) (pl:List (List (Tmp × Option Nat))) (R:World→World→Prop) (Rs:Nat→World→World→Prop) (C:Nat→World→Prop) (dirty:List Nat) (w0:World) (a0:Act) (Q:Exit→Act→World→Prop):List Oper→List (List (Tmp × Option Nat))→List (Value→World→Prop)→Prop
 | [],_,T=>∀ a w,R w0 w→a.defers=a0.defers→a.tmps.size=a0.tmps.size→(∀ t,(∀ (i:Nat) (o:Oper),ops[i]?=some o→o.dst≠some t)→a.tmps.getD t undef=a0.tmps.getD t undef) →
   (∀ (i:Nat) (o:Oper) d,ops[i]?=some o→o.dst=some d→qI ops pl i=true→((T).getD i (fun _ _=>False)) (a.tmps.getD d undef) w)→(∀ (i:Nat) (o:Oper),ops[i]?=some o→qI ops pl i=true→∃ v,((T).getD i (fun _ _=>False)) v w)→Q .normal a w
 | o :: l,fs :: plan,T=>∃ S,xC ops pl Rs T.length S∧(∀ a w,R w0 w→(∀ d∈dirty,ahead ops d T.length=true→C d w)→qL T a0 a w fs→qW P ops (Rk7 ops R Rs C dirty T.length) o S a w)∧RG7 P ops pl R Rs C dirty w0 a0 Q l plan (T ++ [S])
 | _ :: _,[],_=>False
theorem zCN {Q:Exit→Act→World→Prop}:∀ (l:List Oper) (plan:List (List (Tmp × Option Nat))) (T:List (Value→World→Prop)),
  (∀ (k:Nat) fs,plan[k]?=some fs→∀ t i,(t,some i)∈fs→i < T.length+k)→RG7 P ops pl R Rs C dirty w0 a0 Q l plan T →
  ∃ T',T'.take T.length=T∧T'.length=T.length+l.length ∧
   (∀ (k:Nat) o,l[k]?=some o→∃ fs S,plan[k]?=some fs∧T'[T.length+k]?=some S∧xC ops pl Rs (T.length+k) S∧∀ a w,R w0 w→(∀ d∈dirty,ahead ops d (T.length+k)=true→C d w)→qL T' a0 a w fs→qW P ops (Rk7 ops R Rs C dirty (T.length+k)) o S a w) ∧
   (∀ a w,R w0 w→a.defers=a0.defers→a.tmps.size=a0.tmps.size→(∀ t,(∀ (i:Nat) (o:Oper),ops[i]?=some o→o.dst≠some t)→a.tmps.getD t undef=a0.tmps.getD t undef) →
    (∀ (i:Nat) (o:Oper) d,ops[i]?=some o→o.dst=some d→qI ops pl i=true→((T').getD i (fun _ _=>False)) (a.tmps.getD d undef) w)→(∀ (i:Nat) (o:Oper),ops[i]?=some o→qI ops pl i=true→∃ v,((T').getD i (fun _ _=>False)) v w)→Q .normal a w)
 | [],_,T,_,h=>⟨T,List.take_length,rfl,fun k o hk=>by simp at hk,h⟩
 | o :: l,[],_,_,h=>h.elim
 | o :: l,fs :: plan,T,hi,h=>by
  obtain ⟨S,hS,hstep,hrest⟩:=h
  obtain ⟨T',h1,h2,h3,h4⟩:=zCN l plan (T ++ [S]) (fun k f hf t i hm=>by
   have:=hi (k+1) f (by simpa using hf) t i hm
   simp;omega) hrest
  have hlen:(T ++ [S]).length=T.length+1:=by simp
  have hT:T'.take T.length=T:=by
   have:=congrArg (List.take T.length) h1;rw [List.take_take,hlen,Nat.min_eq_left (by omega),List.take_left] at this;exact this
  have hS':T'[T.length]?=some S:=by
   have e:(T'.take (T ++ [S]).length)[T.length]?=(T ++ [S])[T.length]?:=(by rw [h1]);rw [List.getElem?_take,if_pos (by omega),List.getElem?_append_right (Nat.le_refl _)] at e
   simpa using e
  refine ⟨T',hT,by rw [h2,hlen];simp;omega,fun k x hk=>?_,h4⟩
  cases k with
  | zero =>
   simp only [List.getElem?_cons_zero,Option.some.injEq] at hk;subst hk;exact ⟨fs,S,rfl,hS',hS,fun a w hR hC hf=>hstep a w hR hC (xI hT rfl (fun t i hm=>by have:=hi 0 fs rfl t i hm;omega) hf)⟩
  | succ k =>
   obtain ⟨f,S2,e1,e2,e3,e4⟩:=h3 k x (by simpa using hk);have e5:(T ++ [S]).length+k=T.length+(k+1):=(by rw [hlen];omega);rw [e5] at e2 e3 e4;exact ⟨f,S2,by simpa using e1,e2,e3,e4⟩
structure zIS (ops:Array Oper) (pl:List (List (Tmp × Option Nat))) (R:World→World→Prop) (Rs:Nat→World→World→Prop) (C:Nat→World→Prop) (dirty:List Nat) (w0:World) (a0:Act) (T:List (Value→World→Prop)) (listed:Array Bool) (a:Act) (w:World):Prop where
 later:R w0 w
 defers:a.defers=a0.defers
 size:a.tmps.size=a0.tmps.size
 same:∀ t,(∀ (i:Nat) (o:Oper),ops[i]?=some o→listed.getD i true=true→o.dst≠some t)→a.tmps.getD t undef=a0.tmps.getD t undef
 closed:∀ (i:Nat) (o:Oper) k,ops[i]?=some o→listed.getD i true=true→waitsFor o k=true→listed.getD k true=true
 told:∀ (i:Nat) (o:Oper) d,ops[i]?=some o→listed.getD i true=true→o.dst=some d→(∀ (j:Nat) x,ops[j]?=some x→listed.getD j true=true→yR ops pl i j=false)→(T.getD i (fun _ _=>False)) (a.tmps.getD d undef) w
 done:∀ (i:Nat) (o:Oper),ops[i]?=some o→listed.getD i true=true→(∀ (j:Nat) x,ops[j]?=some x→listed.getD j true=true→yR ops pl i j=false)→∃ v,(T.getD i (fun _ _=>False)) v w
 clean:∀ d∈dirty,listed.getD d true=false→C d w
variable {T:List (Value→World→Prop)}
theorem zIs {Q:Exit→Act→World→Prop} (hplan:jR ops pl=true) (htrans:∀ a b c,R a b→R b c→R a c) (hrefl:∀ w,R w w) (hsrefl:∀ k w,Rs k w w)
  (hdst:∀ (i:Nat) (o:Oper) d,ops[i]?=some o→o.dst=some d→d < a0.tmps.size)
  (hdirty:∀ d∈dirty,d < ops.size)
  (hstep:∀ (k:Nat) o,ops[k]?=some o→∃ S,T[k]?=some S∧xC ops pl Rs k S∧∀ a w,R w0 w→(∀ d∈dirty,ahead ops d k=true→C d w)→qL T a0 a w (pl.getD k [])→qW P ops (Rk7 ops R Rs C dirty k) o S a w)
  (hend:∀ a w,R w0 w→a.defers=a0.defers→a.tmps.size=a0.tmps.size→(∀ t,(∀ (i:Nat) (o:Oper),ops[i]?=some o→o.dst≠some t)→a.tmps.getD t undef=a0.tmps.getD t undef) →
   (∀ (i:Nat) (o:Oper) d,ops[i]?=some o→o.dst=some d→qI ops pl i=true→(T.getD i (fun _ _=>False)) (a.tmps.getD d undef) w)→(∀ (i:Nat) (o:Oper),ops[i]?=some o→qI ops pl i=true→∃ v,(T.getD i (fun _ _=>False)) v w)→Q .normal a w) :
  ∀ (fuel:Nat) (listed:Array Bool) (a:Act) (w:World),listed.size=ops.size→(listed.toList.filter (!·)).length≤fuel→zIS ops pl R Rs C dirty w0 a0 T listed a w→wpAny P .any ops Q fuel listed a w:=by
 simp only [jR,Bool.and_eq_true,beq_iff_eq,List.all_eq_true,List.mem_range] at hplan;obtain ⟨hpl,hpk⟩:=hplan;have hop:∀ (k:Nat) o,ops[k]?=some o→k < ops.size:=fun k o h=>(Array.getElem?_eq_some_iff.1 h).1
 have hall:∀ (k:Nat) o,ops[k]?=some o→(∀ e∈o.after,Region.binds .any e=true→e.on < k)∧(∀ f∈pl.getD k [],jT ops k o f=true) ∧
   (∀ (i:Nat) x,i≠k→ops[i]?=some x→∀ d,x.dst=some d→o.dst≠some d):=by
  intro k o hk;have:=hpk k (hop k o hk);simp only [hk,Bool.and_eq_true,List.all_eq_true,List.mem_range,Array.all_eq_true_iff_forall_mem] at this;obtain ⟨⟨h1,h2⟩,h3⟩:=this;refine ⟨fun e he hb=>?_,h2,fun i x hi hx d hd=>?_⟩
  ·have:=h1 e he;simp only [hb,Bool.not_true,Bool.false_or,decide_eq_true_eq] at this;exact this
  ·have:=h3 i (hop i x hx);simp only [hx,hd,Bool.or_eq_true,beq_iff_eq,hi,false_or,reduceCtorEq,bne_iff_ne,ne_eq] at this;exact fun e=>this e.symm
 have hfull:∀ (listed:Array Bool),listed.size=ops.size→Region.ready .any ops listed=[]→∀ (i:Nat),listed.getD i true=true:=by
  intro listed hs hr i
  induction i using Nat.strongRecOn with
  | _ i ih =>
   rcases Bool.eq_false_or_eq_true (listed.getD i true) with h | h
   ·exact h
   ·exfalso
    have hi:i < ops.size:=by
     rcases Nat.lt_or_ge i ops.size with h' | h'
     ·exact h'
     ·rw [Array.getD_eq_getD_getElem?,Array.getElem?_eq_none (by omega)] at h;cases h
    have ho:ops[i]?=some ops[i]:=Array.getElem?_eq_getElem hi
    have hm:i∈Region.ready .any ops listed:=by
     unfold Region.ready;rw [List.mem_filter];refine ⟨List.mem_range.2 hi,?_⟩;rw [h,ho];simp only [Bool.not_false,Bool.true_and,Option.map_some,Option.getD_some,Array.all_eq_true_iff_forall_mem,Bool.or_eq_true,Bool.not_eq_true'];intro e he
     by_cases hb:Region.binds .any e=true
     ·right
      have hlt:=(hall i _ ho).1 e he hb;have:=ih e.on hlt;rw [Array.getD_eq_getD_getElem?,Array.getElem?_eq_getElem (by omega)] at this ⊢;exact this
     ·left;simpa using hb
    rw [hr] at hm;cases hm
 have hfin:∀ (listed:Array Bool) (a:Act) (w:World),(∀ (i:Nat),listed.getD i true=true)→zIS ops pl R Rs C dirty w0 a0 T listed a w→Q .normal a w:=fun listed a w hl h =>
  hend a w h.later h.defers h.size (fun t ht=>h.same t (fun i o ho _=>ht i o ho)) (fun i o d ho hd hn=>h.told i o d ho (hl i) hd (fun j _ _ _=>vJ hn j)) (fun i o ho hn=>h.done i o ho (hl i) (fun j _ _ _=>vJ hn j))
 intro fuel
 induction fuel with
 | zero =>
  intro listed a w hs hf h
  have hl:∀ (i:Nat),listed.getD i true=true:=by
   intro i;rw [Array.getD_eq_getD_getElem?]
   cases hi:listed[i]? with
   | none=>rfl
   | some b =>
    cases b with
    | true=>rfl
    | false =>
     have hm:false∈listed.toList.filter (!·):=List.mem_filter.2 ⟨by rw [Array.mem_toList_iff];exact Array.mem_of_getElem? hi,rfl⟩;have:listed.toList.filter (!·)=[]:=List.eq_nil_of_length_eq_zero (by omega);rw [this] at hm;cases hm
  refine ⟨?_,hfin listed a w hl h⟩;unfold Region.ready;apply List.filter_eq_nil_iff.2;intro i _;rw [hl i];simp
 | succ fuel ih =>
  intro listed a w hs hf h;refine ⟨fun hr=>hfin listed a w (hfull listed hs hr) h,fun k hk=>?_⟩;unfold Region.ready at hk;rw [List.mem_filter] at hk;obtain ⟨hk1,hk2⟩:=hk;have hkl:k < ops.size:=List.mem_range.1 hk1;have ho:ops[k]?=some ops[k]:=Array.getElem?_eq_getElem hkl;generalize ops[k]=o at ho;rw [ho] at hk2;simp only [Bool.and_eq_true,Bool.not_eq_true',Option.map_some,Option.getD_some,Array.all_eq_true_iff_forall_mem,Bool.or_eq_true] at hk2;obtain ⟨hun,haft⟩:=hk2;obtain ⟨hon,hfs,hdd⟩:=hall k o ho;obtain ⟨S,hS,hst,hrun⟩:=hstep k o ho
  have hwait:∀ i,waitsFor o i=true→listed.getD i true=true:=by
   intro i hw;simp only [waitsFor,List.any_eq_true,Bool.and_eq_true,beq_iff_eq] at hw;obtain ⟨e,he,hb,rfl⟩:=hw;rw [Array.mem_toList_iff] at he;have h1:=haft e he;rw [hb] at h1;have h2:listed.getD e.on false=true:=(by simpa using h1);have h3:=hon e he hb;rw [Array.getD_eq_getD_getElem?,Array.getElem?_eq_getElem (by omega)] at h2 ⊢;exact h2
  have hfacts:∀ fs,(∀ f∈fs,jT ops k o f=true)→(∀ f∈fs,f∈pl.getD k [])→qL T a0 a w fs:=by
   intro fs
   induction fs with
   | nil=>intro _ _;exact trivial
   | cons f fs ihf =>
    intro hf hin;have hrest:=ihf (fun g hg=>hf g (List.mem_cons_of_mem _ hg)) (fun g hg=>hin g (List.mem_cons_of_mem _ hg));have hf0:=hf f (by simp);obtain ⟨t,x⟩:=f
    cases x with
    | none =>
     refine ⟨h.same t (fun i x hx hl hd=>?_),hrest⟩;simp only [jT,List.all_eq_true,List.mem_range] at hf0;have h1:=hf0 i (hop i x hx);have hik:i≠k:=(by rintro rfl;rw [hun] at hl;cases hl);simp only [hx,hd,Bool.or_eq_true,beq_iff_eq,hik,false_or,bne_self_eq_false,Bool.false_eq_true] at h1;have:=h.closed i x k hx hl h1;rw [hun] at this;cases this
    | some i =>
     simp only [jT,Bool.and_eq_true,decide_eq_true_eq] at hf0;obtain ⟨⟨_,hw⟩,hd⟩:=hf0
     cases hx:ops[i]? with
     | none=>rw [hx] at hd;cases hd
     | some x =>
      rw [hx] at hd;refine ⟨h.told i x t hx (hwait i hw) (by simpa using hd) (fun j y hy hlj=>?_),hrest⟩
      rcases Bool.eq_false_or_eq_true (yR ops pl i j) with ho2 | ho2
      ·exfalso
       rcases zCD (hin (t,some i) (by simp)) ho2 with e | e
       ·subst e;rw [hun] at hlj;cases hlj
       ·have h3:=xK ops j listed hlj ⟨y,hy⟩ h.closed k (by simpa using e);rw [hun] at h3;cases h3
      ·exact ho2
  have hgo:=hrun a w h.later (fun d hd hb=>h.clean d hd (by
   rcases Bool.eq_false_or_eq_true (listed.getD d true) with h1 | h1
   ·exfalso
    unfold ahead at hb;rw [Bool.or_eq_true] at hb
    rcases hb with he | h2
    ·obtain rfl:d=k:=(by simpa using he);rw [hun] at h1;cases h1
    have h3:=xK ops d listed h1 ⟨_,Array.getElem?_eq_getElem (hdirty d hd)⟩ h.closed k (by simpa using h2);rw [hun] at h3;cases h3
   ·exact h1)) (hfacts _ hfs (fun f hf=>hf))
  have hnext:∀ v w',S v w'→Rk7 ops R Rs C dirty k w w'→wpAny P .any ops Q fuel (listed.setIfInBounds k true) (a.put o.dst v) w':=by
   intro v w' hv hRk;have hR:=hRk.1
   have hstand:∀ (i:Nat) (x:Oper),ops[i]?=some x→listed.getD i true=true→i≠k→yR ops pl i k=false→∀ u,(T.getD i (fun _ _=>False)) u w→(T.getD i (fun _ _=>False)) u w':=by
    intro i x hx hl2 hik hov u h1;obtain ⟨S',hS',hst',_⟩:=hstep i x hx;rw [List.getD_eq_getElem?_getD,hS'] at h1 ⊢;refine hst' k (fun e=>hik e.symm) ?_ hov _ _ _ h1 hRk.2.1
    rcases Bool.eq_false_or_eq_true ((zAc ops i).contains k) with h2 | h2
    ·have h3:=xK ops i listed hl2 ⟨x,hx⟩ h.closed k (by simpa using h2);rw [hun] at h3;cases h3
    ·exact h2
   have hks:k < listed.size:=by omega
   have hclosed:∀ (i:Nat) (x:Oper) j,ops[i]?=some x→(listed.setIfInBounds k true).getD i true=true→waitsFor x j=true→(listed.setIfInBounds k true).getD j true=true:=by
    intro i x j hx hl hw
    rcases jI hl with rfl | hl2
    ·rw [ho] at hx;cases hx;have:=hwait j hw
     by_cases e:i=j
     ·subst e;rw [Array.getD_eq_getD_getElem?,Array.getElem?_setIfInBounds_self_of_lt hks];rfl
     ·rw [Array.getD_eq_getD_getElem?,Array.getElem?_setIfInBounds_ne e,← Array.getD_eq_getD_getElem?];exact this
    ·have:=h.closed i x j hx hl2 hw
     by_cases e:k=j
     ·subst e;rw [Array.getD_eq_getD_getElem?,Array.getElem?_setIfInBounds_self_of_lt hks];rfl
     ·rw [Array.getD_eq_getD_getElem?,Array.getElem?_setIfInBounds_ne e,← Array.getD_eq_getD_getElem?];exact this
   have hk1:(listed.setIfInBounds k true).getD k true=true:=by rw [Array.getD_eq_getD_getElem?,Array.getElem?_setIfInBounds_self_of_lt hks];rfl
   have hmono:∀ j,listed.getD j true=true→(listed.setIfInBounds k true).getD j true=true:=fun j hj=>by
    by_cases e:k=j
    ·subst e;exact hk1
    ·rw [Array.getD_eq_getD_getElem?,Array.getElem?_setIfInBounds_ne e,← Array.getD_eq_getD_getElem?];exact hj
   refine ih _ _ _ (by simpa using hs) ?_ ⟨htrans _ _ _ h.later hR,by rw [put_defers,h.defers],by rw [zAk,h.size],?_,hclosed,?_,?_,?_⟩
   ·have hlt:((listed.setIfInBounds k true).toList.filter (!·)).length < (listed.toList.filter (!·)).length:=by
     have hk2:listed.toList[k]?=some false:=by
      rw [Array.getD_eq_getD_getElem?,Array.getElem?_eq_getElem hks] at hun;simp only [Option.getD_some] at hun;rw [Array.getElem?_toList,Array.getElem?_eq_getElem hks,hun]
     rw [Array.toList_setIfInBounds];exact vI _ _ hk2
    omega
   ·intro t ht;have h1:o.dst≠some t:=ht k o ho (by rw [Array.getD_eq_getD_getElem?,Array.getElem?_setIfInBounds_self_of_lt hks];rfl);rw [xO _ _ _ _ h1];refine h.same t (fun i x hx hl=>ht i x hx ?_)
    by_cases e:k=i
    ·subst e;rw [Array.getD_eq_getD_getElem?,Array.getElem?_setIfInBounds_self_of_lt hks];rfl
    ·rw [Array.getD_eq_getD_getElem?,Array.getElem?_setIfInBounds_ne e,← Array.getD_eq_getD_getElem?];exact hl
   ·intro i x d hx hl hd hal
    rcases jI hl with rfl | hl2
    ·rw [ho] at hx;cases hx;rw [hd,zCH _ _ _ (by rw [h.size];exact hdst i o d ho hd)];rw [List.getD_eq_getElem?_getD,hS];exact hv
    ·have hik:i≠k:=(by rintro rfl;rw [hun] at hl2;cases hl2);rw [xO _ _ _ _ (hdd i x hik hx d hd)];exact hstand i x hx hl2 hik (hal k o ho hk1) _ (h.told i x d hx hl2 hd (fun j y hy hj=>hal j y hy (hmono j hj)))
   ·intro i x hx hl hal
    rcases jI hl with rfl | hl2
    ·exact ⟨v,by rw [List.getD_eq_getElem?_getD,hS];exact hv⟩
    ·have hik:i≠k:=(by rintro rfl;rw [hun] at hl2;cases hl2);obtain ⟨u,hu⟩:=h.done i x hx hl2 (fun j y hy hj=>hal j y hy (hmono j hj));exact ⟨u,hstand i x hx hl2 hik (hal k o ho hk1) u hu⟩
   ·intro d hd hdl
    have hdk:k≠d:=by
     rintro rfl;rw [Array.getD_eq_getD_getElem?,Array.getElem?_setIfInBounds_self_of_lt hks] at hdl;cases hdl
    refine hRk.2.2 d hd (fun e=>hdk e.symm) ?_ (h.clean d hd ?_)
    ·rcases Bool.eq_false_or_eq_true ((zAc ops k).contains d) with h2 | h2
     ·have h3:=xK ops k (listed.setIfInBounds k true) (by rw [Array.getD_eq_getD_getElem?,Array.getElem?_setIfInBounds_self_of_lt hks];rfl) ⟨o,ho⟩ hclosed d (by simpa using h2);rw [hdl] at h3;cases h3
     ·exact h2
    rw [Array.getD_eq_getD_getElem?,Array.getElem?_setIfInBounds_ne hdk,← Array.getD_eq_getD_getElem?] at hdl;exact hdl
  unfold wpOp;rw [ho];unfold qW at hgo;dsimp only
  split
  ·rename_i hw
   rw [if_pos hw] at hgo;exact .inl (Oper.wp_noexit (fun a' w' ⟨v,e,hv,hR⟩=>by rw [e];exact hnext v w' hv hR) hgo)
  ·rename_i hw
   rw [if_neg hw] at hgo;exact hnext undef w hgo ⟨hrefl w,hsrefl _ w,fun _ _ _ _ h=>h⟩
theorem zDD {id:Nat} {Q:Exit→Act→World→Prop} {l:List Oper} (R:World→World→Prop) (Rs:Nat→World→World→Prop) (C:Nat→World→Prop) (dirty:List Nat) (plan:List (List (Tmp × Option Nat))) (hplan:jR l.toArray plan=true)
  (hm:P.follows .mixedOrders=true) (hrefl:∀ w,R w w) (htrans:∀ a b c,R a b→R b c→R a c) (hsrefl:∀ k w,Rs k w w) (hdrew:R w0 w0.drew) (hclean:∀ d∈dirty,C d w0.drew) (hdirty:(dirty.all fun d=>decide (d < l.length))=true)
  (hdst:(l.all fun o=>match o.dst with | some d=>decide (d < a0.tmps.size) | none=>true)=true)
  (h:RG7 P l.toArray plan R Rs C dirty w0 a0 Q l plan []):(Code.region id l.toArray true).wp P Q a0 w0:=by
 refine wp_region_any hm ?_;have hp:=hplan;simp only [jR,Bool.and_eq_true,beq_iff_eq,List.all_eq_true,List.mem_range] at hp;obtain ⟨hpl,hpk⟩:=hp;have hop:∀ (k:Nat) o,l.toArray[k]?=some o→k < l.toArray.size:=fun k o h=>(Array.getElem?_eq_some_iff.1 h).1
 obtain ⟨T,h1,h2,h3,h4⟩:=zCN l plan [] (fun k fs hk t i hm'=>by
  have hk':k < plan.length:=(List.getElem?_eq_some_iff.1 hk).1;have:=hpk k (by rw [← hpl];exact hk');rw [hpl] at hk';rw [Array.getElem?_eq_getElem hk'] at this;simp only [Bool.and_eq_true,List.all_eq_true] at this;have:=this.1.2 (t,some i) (by rw [List.getD_eq_getElem?_getD,hk];exact hm');simp only [jT,Bool.and_eq_true,decide_eq_true_eq] at this
  simpa using this.1.1) h
 simp only [List.length_nil,Nat.zero_add] at h2 h3;refine zIs (T:=T) (pl:=plan) (R:=R) (Rs:=Rs) (C:=C) (dirty:=dirty) (w0:=w0) (a0:=a0) hplan htrans hrefl hsrefl ?_ ?_ ?_ ?_ _ _ _ _ (by simp) (by simp) ?_
 ·intro i o d ho hd
  have hm':o∈l:=by
   have:o∈l.toArray:=Array.mem_of_getElem? ho
   simpa using this
  have:=List.all_eq_true.1 hdst o hm';rw [hd] at this
  simpa using this
 ·intro d hd
  simpa using List.all_eq_true.1 hdirty d hd
 ·intro k o ho;obtain ⟨fs,S,e1,e2,e3,e4⟩:=h3 k o (by simpa using ho);exact ⟨S,e2,e3,by rw [List.getD_eq_getElem?_getD,e1];exact e4⟩
 ·intro a w hR hd hs hsame htold hdone;exact h4 a w hR hd hs hsame htold hdone
 ·refine ⟨hdrew,rfl,rfl,fun _ _=>rfl,fun i o k ho hl _=>?_,fun i o d ho hl _ _=>?_,fun i o ho hl _=>?_,fun d hd _=>hclean d hd⟩
  ·have:=hop i o ho;simp only [List.size_toArray] at this
   simp [this] at hl
  ·have:=hop i o ho;simp only [List.size_toArray] at this
   simp [this] at hl
  ·have:=hop i o ho;simp only [List.size_toArray] at this
   simp [this] at hl
def zHi (P:Program) (ops:Array Oper) (pl:List (List (Tmp × Option Nat))) (R:World→World→Prop) (Rs:Nat→World→World→Prop) (C:Nat→World→Prop) (dirty:List Nat) (w0:World) (a0:Act) (E:List (Value→World→Prop)→Prop):List Oper→List (List (Tmp × Option Nat))→List (Value→World→Prop)→Prop
 | [],_,T=>E T
 | o :: l,fs :: plan,T=>∃ S,xC ops pl Rs T.length S∧(∀ a w,R w0 w→(∀ d∈dirty,ahead ops d T.length=true→C d w)→qL T a0 a w fs→qW P ops (Rk7 ops R Rs C dirty T.length) o S a w)∧zHi P ops pl R Rs C dirty w0 a0 E l plan (S :: T)
 | _ :: _,[],_=>False
theorem zCY {Q:Exit→Act→World→Prop} {E:List (Value→World→Prop)→Prop}
  (hE:∀ T,E T→T.length=ops.size→∀ a w,R w0 w→a.defers=a0.defers→a.tmps.size=a0.tmps.size→(∀ t,(∀ (i:Nat) (o:Oper),ops[i]?=some o→o.dst≠some t)→a.tmps.getD t undef=a0.tmps.getD t undef) →
   (∀ (i:Nat) (o:Oper) d,ops[i]?=some o→o.dst=some d→qI ops pl i=true→((T.reverse).getD i (fun _ _=>False)) (a.tmps.getD d undef) w)→(∀ (i:Nat) (o:Oper),ops[i]?=some o→qI ops pl i=true→∃ v,((T.reverse).getD i (fun _ _=>False)) v w)→Q .normal a w) :
  ∀ (l:List Oper) (plan:List (List (Tmp × Option Nat))) (T:List (Value→World→Prop)),T.length+l.length=ops.size→vN T.length plan=true →
   zHi P ops pl R Rs C dirty w0 a0 E l plan T→RG7 P ops pl R Rs C dirty w0 a0 Q l (xZ T.length plan) T.reverse
 | [],plan,T,hl,_,h=>by
  cases plan <;> exact hE T h (by simpa using hl)
 | o :: l,[],_,_,_,h=>h.elim
 | o :: l,fs :: plan,T,hl,hn,h=>by
  obtain ⟨S,h1,h2,h3⟩:=h;simp only [vN,Bool.and_eq_true] at hn;have:=zCY hE l plan (S :: T) (by simp only [List.length_cons] at hl ⊢;omega) (by simpa using hn.2) h3;rw [List.reverse_cons,List.length_cons] at this;refine ⟨S,by rw [List.length_reverse];exact h1,?_,this⟩;rw [List.length_reverse];exact fun a w hR hC hf=>h2 a w hR hC (vB T fs hn.1 hf)
def zGI (T:List (Value→World→Prop)) (w:World):List Nat→Prop
 | []=>True
 | d :: r=>(∃ v,(T.getD d (fun _ _=>False)) v w)∧zGI T w r
def zEl (ops:Array Oper) (plan:List (List (Tmp × Option Nat))) (n:Nat) (l:List Nat):Bool:=l.all fun d=>decide (d < n) && qI ops plan (n - 1 - d)
theorem zDz {l:List Oper} {plan:List (List (Tmp × Option Nat))} {w:World} {T:List (Value→World→Prop)} (hlen:T.length=l.length) (hall:∀ (i:Nat) (o:Oper),l.toArray[i]?=some o→qI l.toArray plan i=true→∃ v,((T.reverse).getD i (fun _ _=>False)) v w) :
  ∀ (ds:List Nat),zEl l.toArray plan l.length ds=true→zGI T w ds
 | [],_=>trivial
 | d :: r,h=>by
  simp only [zEl,List.all_cons,Bool.and_eq_true,decide_eq_true_eq] at h;obtain ⟨⟨hd,hn⟩,hr⟩:=h;refine ⟨?_,zDz hlen hall r (by simpa [zEl] using hr)⟩;have:=hall (l.length - 1 - d) l[l.length - 1 - d] (by simp [show l.length - 1 - d < l.length by omega]) hn;rw [← hlen,zBo T _ (by omega)] at this;exact this
theorem zU {id:Nat} {Q:Exit→Act→World→Prop} {l:List Oper} {L:List Value} {ds:List Deferred} (R:World→World→Prop) (Rs:Nat→World→World→Prop) (C:Nat→World→Prop) (dirty:List Nat) (plan:List (List (Tmp × Option Nat))) (fin:List (Tmp × Nat)) (lnk:List Nat) (mask:List (Option Tmp))
  (hplan:(jR l.toArray (xZ 0 plan) && vN 0 plan && zAG l 0 mask && zBC l fin && zAf l.toArray (xZ 0 plan) l.length fin && zEl l.toArray (xZ 0 plan) l.length lnk)=true) (hmask:mask.length=L.length)
  (hm:P.follows .mixedOrders=true) (hrefl:∀ w,R w w) (htrans:∀ a b c,R a b→R b c→R a c) (hsrefl:∀ k w,Rs k w w) (hdrew:R w0 w0.drew) (hclean:∀ d∈dirty,C d w0.drew) (hdirty:(dirty.all fun d=>decide (d < l.length))=true)
  (hdst:(l.all fun o=>match o.dst with | some d=>decide (d < L.length) | none=>true)=true)
  (h:zHi P l.toArray (xZ 0 plan) R Rs C dirty w0 ⟨L.toArray,ds⟩ (fun T=>∀ f w,R w0 w→zAR T f w fin→zGI T w lnk→Q .normal ⟨(qE mask L f).toArray,ds⟩ w) l plan []):(Code.region id l.toArray true).wp P Q ⟨L.toArray,ds⟩ w0:=by
 simp only [Bool.and_eq_true] at hplan;obtain ⟨⟨⟨⟨⟨h1,h2⟩,h3⟩,h4⟩,h5⟩,h6⟩:=hplan;refine zDD R Rs C dirty (xZ 0 plan) h1 hm hrefl htrans hsrefl hdrew hclean hdirty (by simpa using hdst) ?_;refine zCY (ops:=l.toArray) ?_ l plan [] (by simp) h2 h;intro T hE hT a w hR hd hs hsame hall hdone;have hT':T.length=l.length:=(by simpa using hT);have hf:=hE _ w hR (zAn hT' hall fin h4 h5) (zDz hT' hdone lnk h6)
 have hmerge:=zAP (l:=l) (a:=a) mask L [] h3 hmask (by simpa using hs.symm) (fun t ht=>by
  have:=hsame t (fun i o ho=>ht i o (by simpa using ho));rw [this]
  simp [Array.getD_eq_getD_getElem?,List.getD_eq_getElem?_getD])
 rw [hmerge] at hf;simp only [List.length_nil,List.drop_zero] at hf;have e:a=⟨a.tmps,ds⟩:=(by cases a;simp only at hd;rw [hd]);rw [e];exact hf
theorem zF {E:List (Value→World→Prop)→Prop} {o:Oper} {l:List Oper} {fs:List (Tmp × Option Nat)} {plan:List (List (Tmp × Option Nat))} {T:List (Value→World→Prop)} {v:Value}
  (h1:∀ a w,R w0 w→(∀ d∈dirty,ahead ops d T.length=true→C d w)→qL T a0 a w fs→qW P ops (Rk7 ops R Rs C dirty T.length) o (EV v) a w) (h2:zHi P ops pl R Rs C dirty w0 a0 E l plan (EV v :: T)):zHi P ops pl R Rs C dirty w0 a0 E (o :: l) (fs :: plan) T:=⟨EV v,xC.ev v,h1,h2⟩
end
end Go.Proofs.YtfeglnpmpgipiaaGreatDoor
end
section
set_option linter.unusedVariables false
namespace Go.Proofs.YtfeglnpmpgipiaaGreatDoor
open Go.RowKit
theorem vF {P:Program} {o:Oper} {a:Act} {K:Act→World→Prop} {w w':World} {s x:Operand} {t t':TypeId} {sv xv v:Value}
  (ho:o.op=.call { callee:=.builtin .append,args:=#[s,x],argTypes:=#[t,t'] }) (hs:a.eval s=sv) (hx:a.eval x=xv)
  (hr:(Builtin.append_ #[t,t'] o.type #[sv,xv]).run P w=.ok v w') (h:K (a.put o.dst v) w'):o.wp P a w K (fun _ _ _=>False):=by
 unfold Oper.wp execOp;simp only [ho,resolve,invoke,builtin,Sem.run_bind,Sem.run_pure,Result.andThen_ok,List.map_toArray,List.map_cons,List.map_nil,hs,hx,hr];exact h
end Go.Proofs.YtfeglnpmpgipiaaGreatDoor
end
section
set_option linter.unusedVariables false
namespace Go.Proofs.YtfeglnpmpgipiaaGreatDoor
open Go.RowKit
def Rz (D:List Nat) (Z:World→Prop):World→World→Prop:=fun a b=>Only D a b∧(Z a→Z b)
end Go.Proofs.YtfeglnpmpgipiaaGreatDoor
end
section
set_option linter.unusedVariables false
namespace Go.Proofs.YtfeglnpmpgipiaaGreatDoor
open Go.RowKit
def zDm (dl:List (Nat × List Nat)) (j:Nat):World→World→Prop:=Only ((dl.lookup j).getD [])
theorem zGD {dl:List (Nat × List Nat)} {j:Nat} {S:List Nat} (h:dl.lookup j=some S):(j,S)∈dl:=by
 induction dl with
 | nil=>cases h
 | cons x r ih =>
  obtain ⟨a,b⟩:=x;rw [List.lookup_cons] at h
  split at h
  ·rename_i he
   obtain rfl:j=a:=(by simpa using he);obtain rfl:=Option.some.inj h
   simp
  ·exact List.mem_cons_of_mem _ (ih h)
theorem jP {ops:Array Oper} {dl:List (Nat × List Nat)} {k:Nat} {S:Value→World→Prop} (h0:Stable (Only []) S) (h:∀ x∈dl,(x.1 == k || (zAc ops k).contains x.1)=false→Stable (Only x.2) S):zBF ops (zDm dl) k S:=by
 intro j hj hc;unfold zDm
 cases e:dl.lookup j with
 | none=>exact h0
 | some D =>
  refine h (j,D) (zGD e) ?_;simp only [Bool.or_eq_false_iff];exact ⟨by simpa using hj,hc⟩
theorem vE {ops:Array Oper} {a b k:Nat} {A B:List Nat} {Z:Nat × List Nat→Prop} (h1:(a == k || (zAc ops k).contains a)=false→Z (a,A)) (h2:(b == k || (zAc ops k).contains b)=false→Z (b,B)) :
  ∀ x∈[(a,A),(b,B)],(x.1 == k || (zAc ops k).contains x.1)=false→Z x:=by
 intro x hx;simp only [List.mem_cons,List.not_mem_nil,or_false] at hx
 rcases hx with rfl | rfl
 ·exact h1
 ·exact h2
end Go.Proofs.YtfeglnpmpgipiaaGreatDoor
end
end
namespace Go.Proofs.YtfeglnpmpgipiaaGreatDoor
end Go.Proofs.YtfeglnpmpgipiaaGreatDoor
