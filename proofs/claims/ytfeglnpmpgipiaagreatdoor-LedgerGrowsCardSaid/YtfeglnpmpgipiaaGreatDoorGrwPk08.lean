/- GrwPk, part 8: zN, OwnKAt, RegionO. -/
import Derived.Test.YtfeglnpmpgipiaaGreatDoorGrwPk07
set_option linter.unusedVariables false
set_option maxRecDepth 100000
set_option linter.unusedSimpArgs false
namespace Go.Proofs.YtfeglnpmpgipiaaGreatDoor
section
open Go.RowKit
def zN (w:World) (base:Nat) (e:TypeId) (K:Nat) (v:Value) (n:Nat) (vs:List Value):Prop:=w.ownsRow base e K v n vs
theorem zN.only {S:List Nat} {w w':World} {base K n:Nat} {e:TypeId} {v:Value} {vs:List Value} (h:zN w base e K v n vs) (ho:Only S w w') (hn:∀ k,v.ownBlock=some k→k ∉ S):zN w' base e K v n vs:=by
 refine ⟨h.1,?_⟩
 rcases h.2 with h2 | ⟨g,cap,cur,rfl,hg,hh,r⟩
 ·exact .inl h2
 ·refine .inr ⟨g,cap,cur,rfl,hg,?_,r⟩;rw [ho.block g (Array.getElem?_eq_some_iff.1 hh).1 (hn g rfl)];exact hh
theorem zN.zB {w w':World} {base K n:Nat} {e:TypeId} {v:Value} {vs:List Value} (h:zN w base e K v n vs) (ho:Only [] w w'):zN w' base e K v n vs:=h.only ho (by simp)
theorem zN.weaken {w:World} {base base' K n:Nat} {e:TypeId} {v:Value} {vs:List Value} (h:zN w base e K v n vs) (hb:base'≤base):zN w base' e K v n vs:=by
 refine ⟨h.1,?_⟩
 rcases h.2 with h2 | ⟨g,cap,cur,hv,hg,r⟩
 ·exact .inl h2
 ·exact .inr ⟨g,cap,cur,hv,by omega,r⟩
theorem zN.new {w:World} {base K n:Nat} {e:TypeId} (vs:List Value) (hb:base≤w.heap.size) (hl:vs.length=n * K) (hm:n≤9223372036854775807) :
  zN (w.alloc (.cells vs.toArray e)) base e K (.slice (some ⟨w.heap.size,0,none⟩) n n) n vs :=
 World.ownsRow_lit w vs.toArray n hb (by simpa [maxLen] using hm) (by simpa using hl)
theorem zN.view {w:World} {base K n m c:Nat} {e:TypeId} {p:Option Addr} {vs:List Value} (h:zN w base e K (.slice p m c) n vs):m=n∧vs.length=n * K∧Rd w p vs∧(p=none→n=0∧c=0)∧n≤c∧c≤9223372036854775807∧(∀ k∈blk p,base≤k∧k < w.heap.size):=by
 rcases h.2 with ⟨e1,rfl⟩ | ⟨g,cap,cur,e1,hg,hh,h1,h2,h3,h4⟩
 ·cases e1
  have h0:=h.1
  simp at h0
  subst h0;exact ⟨rfl,by simp,Rd.nil _ _,fun _=>⟨rfl,rfl⟩,Nat.le_refl _,by omega,by simp [blk]⟩
 ·cases e1
  refine ⟨rfl,h.1,?_,by simp,h1,by simpa [maxLen] using h2,?_⟩
  ·have r:Row w g e cur.toList:=(by unfold Row;simpa using hh);have:=r.rd0.take (n * K);rw [h4] at this;exact this
  ·intro k hk
   simp [blk] at hk;subst hk
   exact ⟨hg,(Array.getElem?_eq_some_iff.1 hh).1⟩
theorem info_partsK {P:Program} {e:TypeId} {z:Value} {K bytes:Nat} (h:(P.info? e).map (fun i=>(i.zero,i.size,i.bytes))=some (some z,K,bytes)):∃ i,P.info? e=some i∧i.zero=some z∧i.size=K∧i.bytes=bytes:=by
 cases hi:P.info? e with
 | none=>rw [hi] at h;cases h
 | some i =>
  rw [hi] at h;simp only [Option.map_some,Option.some.injEq,Prod.mk.injEq] at h;exact ⟨i,rfl,h.1,h.2.1,h.2.2⟩
theorem xN {P:Program} (w:World) {t ty e:TypeId} {z:Value} {bytes base K n cap m c:Nat} {p q:Option Addr} {vs news:List Value} (ht:P.underlying t=some (.slice e)) (hi:(P.info? e).map (fun i=>(i.zero,i.size,i.bytes))=some (some z,K,bytes)) (hz:z.cells.size=K) (hK:0 < K)
  (hown:zN w base e K (.slice p n cap) n vs) (hr:Rd w q news) (hm:news.length=m * K) (hq:q=none→m=0∧c=0) (h1:∀ u∈news,u.oneCell'=true) (hb:(n+m) * bytes≤140737488355328) (h63:n+m≤9223372036854775807) (hbase:base≤w.heap.size) :
  ∃ p' cap' w',(Builtin.append_ #[t,t] ty #[.slice p n cap,.slice q m c]).run P w=.ok (.slice p' (n+m) cap') w'∧zN w' base e K (.slice p' (n+m) cap') (n+m) (vs ++ news)∧Only (blk p) w w':=by
 obtain ⟨i,hi,hz0,hz1,hz2⟩:=info_partsK hi
 have hob:(Value.slice p n cap).ownBlock.toList=blk p:=by
  cases p <;> simp [Value.ownBlock,blk]
 cases q with
 | none =>
  obtain ⟨rfl,rfl⟩:=hq rfl;have hn:news=[]:=List.eq_nil_of_length_eq_zero (by simpa using hm);subst hn;exact ⟨p,cap,w,run_append_owned_none (P:=P) w base t ty e i K ht hi _ n vs hown,by simpa using hown,Only.refl _ _⟩
 | some a =>
  obtain ⟨v',w',hr',h2,h3,_⟩:=run_append_own (P:=P) w base t ty e i z K bytes ht hi hz0 hz1 hz2 hz hK _ n vs hown a m c news hm hr.cells h1 (by simp [maxLen];omega) hb hbase
  rcases h2.2 with ⟨rfl,h0⟩ | ⟨g,cap',cur,rfl,r⟩
  ·obtain ⟨rfl,rfl⟩:n=0∧m=0:=(by omega);exact ⟨none,0,w',hr',h2,hob ▸ Only.grown h3⟩
  ·exact ⟨_,cap',w',hr',⟨h2.1,.inr ⟨g,cap',cur,rfl,r⟩⟩,hob ▸ Only.grown h3⟩
theorem qR {α:Type} (f:α→List Value) (K:Nat) (hf:∀ a,(f a).length=K):∀ l:List α,(l.flatMap f).length=l.length * K
 | []=>by simp
 | a :: l=>by rw [List.flatMap_cons,List.length_append,hf,qR f K hf l,List.length_cons,Nat.succ_mul];omega
theorem flat_get {α:Type} (f:α→List Value) (K:Nat) (hf:∀ a,(f a).length=K):∀ (l:List α) (j:Nat) (a:α) (r:Nat),l[j]?=some a→r < K→(l.flatMap f)[j * K+r]?=(f a)[r]?
 | [],j,a,r,h,_=>by simp at h
 | x :: l,0,a,r,h,hr=>by
  obtain rfl:x=a:=(by simpa using h);rw [List.flatMap_cons,Nat.zero_mul,Nat.zero_add,List.getElem?_append_left (by rw [hf];exact hr)]
 | x :: l,j+1,a,r,h,hr=>by
  rw [List.flatMap_cons,List.getElem?_append_right (by rw [hf,Nat.succ_mul];omega),hf];have e:(j+1) * K+r - K=j * K+r:=(by rw [Nat.succ_mul];omega);rw [e];exact flat_get f K hf l j a r (by simpa using h) hr
end
section
open Go.RowKit
theorem xR {P:Program} (w:World) {t ty e:TypeId} {z:Value} {bytes base K n cap m c N cap':Nat} {p q p':Option Addr} {vs news:List Value} {w':World} (ht:P.underlying t=some (.slice e)) (hi:(P.info? e).map (fun i=>(i.zero,i.size,i.bytes))=some (some z,K,bytes)) (hz:z.cells.size=K) (hK:0 < K)
  (hown:zN w base e K (.slice p n cap) n vs) (hr:Rd w q news) (hm:news.length=m * K) (hq:q=none→m=0∧c=0) (h1:∀ u∈news,u.oneCell'=true) (hb:(n+m) * bytes≤140737488355328) (h63:n+m≤9223372036854775807)
  (hrun:(Builtin.append_ #[t,t] ty #[.slice p n cap,.slice q m c]).run P w=.ok (.slice p' N cap') w'):p'=p∨∃ g,p'=some ⟨g,0,none⟩∧w.heap.size≤g:=by
 obtain ⟨i,hi,hz0,hz1,hz2⟩:=info_partsK hi
 cases q with
 | none =>
  obtain ⟨rfl,rfl⟩:=hq rfl;rw [run_append_owned_none (P:=P) w base t ty e i K ht hi _ n vs hown] at hrun;simp only [Result.ok.injEq,Value.slice.injEq] at hrun;exact .inl hrun.1.1.symm
 | some a =>
  have hc:=hr.cells
  rcases hown.2 with ⟨e1,rfl⟩ | ⟨g,capp,cur,e1,hg,hh,h2,h3,h4,h5⟩
  ·obtain ⟨rfl,-,rfl⟩:p=none∧0=0∧cap=0:=by simpa using e1
   by_cases h0:m=0
   ·subst h0
    have hrun2:(Builtin.append_ #[t,t] ty #[.slice none 0 0,.slice (some a) 0 c]).run P w=.ok (.slice none 0 0) w:=by
     simp [Builtin.append_,run_underlying ht,sizeOf,typeInfo,hi,Builtin.lenOf,Builtin.firstCells,loadCells,loadCellsFrom]
    rw [hrun2] at hrun;simp only [Result.ok.injEq,Value.slice.injEq] at hrun;exact .inl hrun.1.1.symm
   ·have h:=run_append_nil (P:=P) w t ty e i z ht hi hz0 a m c news (by rw [hz1];exact hm) hc (by omega) (by omega) (by rw [hz2];rw [Nat.zero_add] at hb;omega);rw [h] at hrun;simp only [Result.ok.injEq,Value.slice.injEq] at hrun;exact .inr ⟨_,hrun.1.1.symm,Nat.le_refl _⟩
  ·obtain ⟨rfl,-,rfl⟩:p=some ⟨g,0,none⟩∧n=n∧cap=capp:=by simpa using e1
   by_cases hfit:n+m≤cap
   ·have h:=run_append_room (P:=P) w t ty e i ht hi g n cap cur hh a m c news (by rw [hz1];exact hm) hc h1 hfit (by rw [hz1,h4,hm,← Nat.add_mul];exact Nat.mul_le_mul_right K hfit);rw [h] at hrun;simp only [Result.ok.injEq,Value.slice.injEq] at hrun;exact .inl hrun.1.1.symm
   ·have hv:=hown.view;have h:=run_append_grow (P:=P) w t ty e i z ht hi hz0 ⟨g,0,none⟩ n cap vs (by rw [hz1];exact hv.2.1) hv.2.2.1.cells a m c news (by rw [hz1];exact hm) hc (by omega) (by omega) (by rw [hz2];exact growslice_fits (by omega) hb);rw [h] at hrun;simp only [Result.ok.injEq,Value.slice.injEq] at hrun;exact .inr ⟨_,hrun.1.1.symm,Nat.le_refl _⟩
end
section
open Go.RowKit
section
variable {P:Program} {ops:Array Oper} {R:World→World→Prop} {w0:World} {a0:Act}
structure zJB (ops:Array Oper) (R:World→World→Prop) (w0:World) (a0:Act) (T:List (Value→World→Prop)) (k:Nat) (a:Act) (w:World):Prop where
 later:R w0 w
 defers:a.defers=a0.defers
 size:a.tmps.size=a0.tmps.size
 same:∀ t,(∀ (i:Nat) (o:Oper),ops[i]?=some o→i < k→o.dst≠some t)→a.tmps.getD t undef=a0.tmps.getD t undef
 told:∀ (i:Nat) (o:Oper) d,ops[i]?=some o→i < k→o.dst=some d→(T.getD i (fun _ _=>False)) (a.tmps.getD d undef) w
theorem zGY {Q:Exit→Act→World→Prop} {T:List (Value→World→Prop)} {plan:List (List (Tmp × Option Nat))} (hplan:jR ops plan=true) (htrans:∀ a b c,R a b→R b c→R a c) (hrefl:∀ w,R w w)
  (hdst:∀ (i:Nat) (o:Oper) d,ops[i]?=some o→o.dst=some d→d < a0.tmps.size)
  (hstep:∀ (k:Nat) (o:Oper),ops[k]?=some o→∃ S,T[k]?=some S∧Stable R S∧∀ a w,R w0 w→qL T a0 a w (plan.getD k [])→qW P ops R o S a w)
  (hend:∀ a w,R w0 w→a.defers=a0.defers→a.tmps.size=a0.tmps.size→(∀ t,(∀ (i:Nat) (o:Oper),ops[i]?=some o→o.dst≠some t)→a.tmps.getD t undef=a0.tmps.getD t undef) →
   (∀ (i:Nat) (o:Oper) d,ops[i]?=some o→o.dst=some d→(T.getD i (fun _ _=>False)) (a.tmps.getD d undef) w)→Q .normal a w) :
  ∀ (l:List Oper) (k:Nat) a w,ops.toList.drop k=l→zJB ops R w0 a0 T k a w→wpList P ops Q l a w
 | [],k,a,w,hl,hI=>by
  have hk:ops.size≤k:=(by simpa using hl);refine wpList_nil (hend a w hI.later hI.defers hI.size (fun t ht=>hI.same t (fun i o ho _=>ht i o ho)) (fun i o d ho hd=>hI.told i o d ho ?_ hd));have:=(Array.getElem?_eq_some_iff.1 ho).1;omega
 | o :: l,k,a,w,hl,hI=>by
  have ho:ops[k]?=some o:=by
   have h0:(ops.toList.drop k)[0]?=some o:=(by rw [hl];rfl);rw [List.getElem?_drop,Nat.add_zero,Array.getElem?_toList] at h0;exact h0
  have hlt:=(Array.getElem?_eq_some_iff.1 ho).1
  have hl':ops.toList.drop (k+1)=l:=by
   have:(ops.toList.drop k).drop 1=l:=(by rw [hl];rfl);rw [List.drop_drop] at this;exact this
  have hp:=hplan;simp only [jR,Bool.and_eq_true,beq_iff_eq,List.all_eq_true,List.mem_range] at hp;obtain ⟨hpl,hpk⟩:=hp;have hk:=hpk k hlt;rw [ho] at hk;simp only [Bool.and_eq_true,List.all_eq_true,List.mem_range] at hk;obtain ⟨⟨hback,hfs⟩,hdis⟩:=hk;obtain ⟨S,hS,hst,hrun⟩:=hstep k o ho
  have hbk:∀ (i:Nat) (x:Oper),ops[i]?=some x→waitsFor x k=true→k < i:=by
   intro i x hx hw;have hi:=hpk i (Array.getElem?_eq_some_iff.1 hx).1;rw [hx] at hi;simp only [Bool.and_eq_true] at hi;have h1:=Array.all_eq_true'.1 hi.1.1;unfold waitsFor at hw;rw [List.any_eq_true] at hw;obtain ⟨e,he,hb⟩:=hw;have h2:=h1 e (by simpa using he);simp only [Bool.and_eq_true,beq_iff_eq] at hb;rw [hb.1,hb.2] at h2
   simpa using h2
  have hfacts:qL T a0 a w (plan.getD k []):=by
   have key:∀ fs:List (Tmp × Option Nat),(∀ x∈fs,jT ops k o x=true)→qL T a0 a w fs:=by
    intro fs
    induction fs with
    | nil=>intro _;trivial
    | cons x fs ih =>
     intro hx;have h0:=hx x (by simp);have ih':=ih (fun y hy=>hx y (List.mem_cons_of_mem _ hy));obtain ⟨t,i⟩:=x
     cases i with
     | none =>
      refine ⟨hI.same t (fun i x hxi hik=>?_),ih'⟩;simp only [jT,List.all_eq_true,List.mem_range] at h0;have h1:=h0 i (Array.getElem?_eq_some_iff.1 hxi).1;rw [hxi] at h1;simp only [Bool.or_eq_true,beq_iff_eq,bne_iff_ne] at h1
      rcases h1 with h1 | h1 | h1
      ·omega
      ·exact h1
      ·have:=hbk i x hxi h1;omega
     | some i =>
      simp only [jT,Bool.and_eq_true,decide_eq_true_eq] at h0;obtain ⟨⟨h1,h2⟩,h3⟩:=h0;refine ⟨?_,ih'⟩;have hlti:i < ops.size:=(by omega);rw [Array.getElem?_eq_getElem hlti] at h3;exact hI.told i _ t (Array.getElem?_eq_getElem hlti) h1 (by simpa using h3)
   exact key _ (by simpa using hfs)
  have hget:T.getD k (fun _ _=>False)=S:=by rw [List.getD_eq_getElem?_getD,hS];rfl
  have hnext:∀ v w',S v w'→R w w'→zJB ops R w0 a0 T (k+1) (a.put o.dst v) w':=by
   intro v w' hv hR;refine ⟨htrans _ _ _ hI.later hR,by rw [put_defers];exact hI.defers,by rw [zAk];exact hI.size,fun t ht=>?_,fun i x d hx hik hd=>?_⟩
   ·rw [xO _ _ _ _ (ht k o ho (by omega))];exact hI.same t (fun i x hx hi=>ht i x hx (by omega))
   ·by_cases hik':i=k
    ·subst hik';rw [ho] at hx
     cases hx
     rw [hget,hd,zCH _ _ _ (by rw [hI.size];exact hdst i o d ho hd)];exact hv
    ·have hne:o.dst≠some d:=by
      intro e;have h1:=hdis i (Array.getElem?_eq_some_iff.1 hx).1;rw [hx] at h1;simp only [Bool.or_eq_true,beq_iff_eq,bne_iff_ne] at h1
      rcases h1 with h1 | h1 | h1
      ·exact hik' h1
      ·rw [hd] at h1;cases h1
      ·exact h1 (by rw [hd,e])
     rw [xO _ _ _ _ hne];obtain ⟨S',hS',hst',-⟩:=hstep i x hx;have hg':T.getD i (fun _ _=>False)=S':=(by rw [List.getD_eq_getElem?_getD,hS'];rfl);have:=hI.told i x d hx (by omega) hd;rw [hg'] at this ⊢;exact hst' _ _ _ this hR
  have hrec:=fun a' w' h=>zGY hplan htrans hrefl hdst hstep hend l (k+1) a' w' hl' h;have hR:=hrun a w hI.later hfacts;unfold qW at hR;unfold wpList
  split
  ·rename_i hw
   rw [if_pos hw] at hR;refine .inl (Oper.wp_noexit ?_ hR);rintro a' w' ⟨v,rfl,hv,hR'⟩;exact hrec _ _ (hnext v w' hv hR')
  ·rename_i hw
   rw [if_neg hw] at hR;exact hrec _ _ (hnext undef w hR (hrefl w))
theorem zEk {id:Nat} {Q:Exit→Act→World→Prop} {l:List Oper} (R:World→World→Prop) (plan:List (List (Tmp × Option Nat))) (hplan:jR l.toArray plan=true)
  (hrefl:∀ w,R w w) (htrans:∀ a b c,R a b→R b c→R a c)
  (hdst:(l.all fun o=>match o.dst with | some d=>decide (d < a0.tmps.size) | none=>true)=true)
  (h:RG P l.toArray R w0 a0 Q l plan []):(Code.region id l.toArray false).wp P Q a0 w0:=by
 refine wp_region_lit ?_;have hp:=hplan;simp only [jR,Bool.and_eq_true,beq_iff_eq,List.all_eq_true,List.mem_range] at hp;obtain ⟨hpl,hpk⟩:=hp
 obtain ⟨T,h1,h2,h3,h4⟩:=zBk l plan [] (fun k fs hk t i hm'=>by
  have hk':k < plan.length:=(List.getElem?_eq_some_iff.1 hk).1;have:=hpk k (by rw [← hpl];exact hk');rw [hpl] at hk';rw [Array.getElem?_eq_getElem hk'] at this;simp only [Bool.and_eq_true,List.all_eq_true] at this;have:=this.1.2 (t,some i) (by rw [List.getD_eq_getElem?_getD,hk];exact hm');simp only [jT,Bool.and_eq_true,decide_eq_true_eq] at this
  simpa using this.1.1) h
 simp only [List.length_nil,Nat.zero_add] at h2 h3;refine zGY (ops:=l.toArray) (T:=T) (R:=R) (w0:=w0) (a0:=a0) hplan htrans hrefl ?_ ?_ ?_ l 0 a0 w0 (by simp) ?_
 ·intro i o d ho hd
  have hm':o∈l:=by
   have:o∈l.toArray:=Array.mem_of_getElem? ho
   simpa using this
  have:=List.all_eq_true.1 hdst o hm';rw [hd] at this
  simpa using this
 ·intro k o ho;obtain ⟨fs,S,e1,e2,e3,e4⟩:=h3 k o (by simpa using ho);exact ⟨S,e2,e3,by rw [List.getD_eq_getElem?_getD,e1];exact e4⟩
 ·intro a w hR hd hs hsame htold;exact h4 a w hR hd hs hsame (zBm l.toArray.toList T l.length (fun i o d ho hd=>htold i o d (by simpa using ho) hd) (by simp) h2)
 ·exact ⟨hrefl w0,rfl,rfl,fun _ _=>rfl,fun i o d _ hi _=>absurd hi (by omega)⟩
def WV (g:Bool) (v:Value):Value→World→Prop:=fun u _=>g=true→u=v
theorem WV.stable {R:World→World→Prop} (g:Bool) (v:Value):Stable R (WV g v):=fun _ _ _ h _=>h
theorem jM {E:List (Value→World→Prop)→Prop} {o:Oper} {l:List Oper} {fs:List (Tmp × Option Nat)} {plan:List (List (Tmp × Option Nat))} {T:List (Value→World→Prop)} (g:Bool) {v:Value}
  (h1:∀ a w,R w0 w→qL T a0 a w fs→qW P ops R o (WV g v) a w) (h2:RG2 P ops R w0 a0 E l plan (WV g v :: T)):RG2 P ops R w0 a0 E (o :: l) (fs :: plan) T:=⟨WV g v,WV.stable g v,h1,h2⟩
theorem qF {o:Oper} {S:Value→World→Prop} {a:Act} {w:World} {j:Nat} {want:Bool} {d:Nat} {g:Bool} (hg:o.guard=some (j,want)) (hd:(ops[j]?).bind (·.dst)=some d) (hb:a.tmps.getD d undef=.bool g)
  (h:g=want→∀ K:Act→World→Prop,(∀ v w',S v w'→R w w'→K (a.put o.dst v) w')→o.wp P a w K (fun _ _ _=>False)) (hn:¬ g=want→S undef w):qW P ops R o S a w:=by
 unfold qW
 by_cases e:g=want
 ·rw [if_pos (by subst e;simp [Region.wanted,hg,zAv hd hb])];exact h e _ fun v w' hv hR=>⟨v,rfl,hv,hR⟩
 ·rw [if_neg (by simp only [Region.wanted,hg,zAv hd hb];cases g <;> cases want <;> simp_all)];exact hn e
theorem zDg {id:Nat} {Q:Exit→Act→World→Prop} {l:List Oper} {L:List Value} {ds:List Deferred} (R:World→World→Prop) (plan:List (List (Tmp × Option Nat))) (fin:List (Tmp × Nat)) (mask:List (Option Tmp))
  (hplan:(jR l.toArray (xZ 0 plan) && vN 0 plan && zAG l 0 mask && zBC l fin)=true) (hmask:mask.length=L.length)
  (hrefl:∀ w,R w w) (htrans:∀ a b c,R a b→R b c→R a c)
  (hdst:(l.all fun o=>match o.dst with | some d=>decide (d < L.length) | none=>true)=true)
  (h:RG2 P l.toArray R w0 ⟨L.toArray,ds⟩ (fun T=>∀ f w,R w0 w→zAR T f w fin→Q .normal ⟨(qE mask L f).toArray,ds⟩ w) l plan []):(Code.region id l.toArray false).wp P Q ⟨L.toArray,ds⟩ w0:=by
 simp only [Bool.and_eq_true] at hplan;obtain ⟨⟨⟨h1,h2⟩,h3⟩,h4⟩:=hplan;refine zEk R (xZ 0 plan) h1 hrefl htrans (by simpa using hdst) ?_;refine zCL (ops:=l.toArray) ?_ l plan [] (by simp) h2 h;intro T hE hT a w hR hd hs hsame hall;have hT':T.length=l.length:=(by simpa using hT);have hf:=hE _ w hR (zBQ hT' (by simpa using hall) fin h4)
 have hmerge:=zAP (l:=l) (a:=a) mask L [] h3 hmask (by simpa using hs.symm) (fun t ht=>by
  have:=hsame t (fun i o ho=>ht i o (by simpa using ho));rw [this]
  simp [Array.getD_eq_getD_getElem?,List.getD_eq_getElem?_getD])
 rw [hmerge] at hf;simp only [List.length_nil,List.drop_zero] at hf;have e:a=⟨a.tmps,ds⟩:=(by cases a;simp only at hd;rw [hd]);rw [e];exact hf
end
end
end Go.Proofs.YtfeglnpmpgipiaaGreatDoor
