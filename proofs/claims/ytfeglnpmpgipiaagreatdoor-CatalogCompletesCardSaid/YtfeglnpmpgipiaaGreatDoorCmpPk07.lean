/- CmpPk, part 7: OwnK, OwnKAt. -/
import Derived.Test.YtfeglnpmpgipiaaGreatDoorCmpPk06
set_option linter.unusedVariables false
set_option maxRecDepth 100000
set_option linter.unusedSimpArgs false
namespace Go.Proofs.YtfeglnpmpgipiaaGreatDoor
section
open Go.RowKit
def OwnK (w:World) (base:Nat) (e:TypeId) (K:Nat) (v:Value) (n:Nat) (vs:List Value):Prop:=w.ownsRow base e K v n vs
theorem OwnK.only {S:List Nat} {w w':World} {base K n:Nat} {e:TypeId} {v:Value} {vs:List Value} (h:OwnK w base e K v n vs) (ho:Only S w w') (hn:∀ k,v.ownBlock=some k→k ∉ S):OwnK w' base e K v n vs:=by
 refine ⟨h.1,?_⟩
 rcases h.2 with h2 | ⟨g,cap,cur,rfl,hg,hh,r⟩
 ·exact .inl h2
 ·refine .inr ⟨g,cap,cur,rfl,hg,?_,r⟩;rw [ho.block g (Array.getElem?_eq_some_iff.1 hh).1 (hn g rfl)];exact hh
theorem OwnK.only0 {w w':World} {base K n:Nat} {e:TypeId} {v:Value} {vs:List Value} (h:OwnK w base e K v n vs) (ho:Only [] w w'):OwnK w' base e K v n vs:=h.only ho (by simp)
theorem OwnK.weaken {w:World} {base base' K n:Nat} {e:TypeId} {v:Value} {vs:List Value} (h:OwnK w base e K v n vs) (hb:base'≤base):OwnK w base' e K v n vs:=by
 refine ⟨h.1,?_⟩
 rcases h.2 with h2 | ⟨g,cap,cur,hv,hg,r⟩
 ·exact .inl h2
 ·exact .inr ⟨g,cap,cur,hv,by omega,r⟩
theorem OwnK.new {w:World} {base K n:Nat} {e:TypeId} (vs:List Value) (hb:base≤w.heap.size) (hl:vs.length=n * K) (hm:n≤9223372036854775807) :
  OwnK (w.alloc (.cells vs.toArray e)) base e K (.slice (some ⟨w.heap.size,0,none⟩) n n) n vs :=
 World.ownsRow_lit w vs.toArray n hb (by simpa [maxLen] using hm) (by simpa using hl)
theorem OwnK.view {w:World} {base K n m c:Nat} {e:TypeId} {p:Option Addr} {vs:List Value} (h:OwnK w base e K (.slice p m c) n vs):m=n∧vs.length=n * K∧Rd w p vs∧(p=none→n=0∧c=0)∧n≤c∧c≤9223372036854775807∧(∀ k∈blk p,base≤k∧k < w.heap.size):=by
 rcases h.2 with ⟨e1,rfl⟩ | ⟨g,cap,cur,e1,hg,hh,h1,h2,h3,h4⟩
 ·cases e1
  have h0:=h.1
  simp at h0
  subst h0;exact ⟨rfl,by simp,Rd.nil _ _,fun _=>⟨rfl,rfl⟩,Nat.le_refl _,by omega,by simp [blk]⟩
 ·cases e1
  refine ⟨rfl,h.1,?_,by simp,h1,by simpa [maxLen] using h2,?_⟩
  ·have r:Row w g e cur.toList:=(by unfold Row;simpa using hh);have:=r.rd0.take (n * K);rw [h4] at this;exact this
  ·intro k hk
   simp [blk] at hk;subst hk
   exact ⟨hg,(Array.getElem?_eq_some_iff.1 hh).1⟩
theorem info_partsK {P:Program} {e:TypeId} {z:Value} {K bytes:Nat} (h:(P.info? e).map (fun i=>(i.zero,i.size,i.bytes))=some (some z,K,bytes)):∃ i,P.info? e=some i∧i.zero=some z∧i.size=K∧i.bytes=bytes:=by
 cases hi:P.info? e with
 | none=>rw [hi] at h;cases h
 | some i =>
  rw [hi] at h;simp only [Option.map_some,Option.some.injEq,Prod.mk.injEq] at h;exact ⟨i,rfl,h.1,h.2.1,h.2.2⟩
theorem appendK {P:Program} (w:World) {t ty e:TypeId} {z:Value} {bytes base K n cap m c:Nat} {p q:Option Addr} {vs news:List Value} (ht:P.underlying t=some (.slice e)) (hi:(P.info? e).map (fun i=>(i.zero,i.size,i.bytes))=some (some z,K,bytes)) (hz:z.cells.size=K) (hK:0 < K)
  (hown:OwnK w base e K (.slice p n cap) n vs) (hr:Rd w q news) (hm:news.length=m * K) (hq:q=none→m=0∧c=0) (h1:∀ u∈news,u.oneCell'=true) (hb:(n+m) * bytes≤140737488355328) (h63:n+m≤9223372036854775807) (hbase:base≤w.heap.size) :
  ∃ p' cap' w',(Builtin.append_ #[t,t] ty #[.slice p n cap,.slice q m c]).run P w=.ok (.slice p' (n+m) cap') w'∧OwnK w' base e K (.slice p' (n+m) cap') (n+m) (vs ++ news)∧Only (blk p) w w':=by
 obtain ⟨i,hi,hz0,hz1,hz2⟩:=info_partsK hi
 have hob:(Value.slice p n cap).ownBlock.toList=blk p:=by
  cases p <;> simp [Value.ownBlock,blk]
 cases q with
 | none =>
  obtain ⟨rfl,rfl⟩:=hq rfl;have hn:news=[]:=List.eq_nil_of_length_eq_zero (by simpa using hm);subst hn;exact ⟨p,cap,w,run_append_owned_none (P:=P) w base t ty e i K ht hi _ n vs hown,by simpa using hown,Only.refl _ _⟩
 | some a =>
  obtain ⟨v',w',hr',h2,h3,_⟩:=run_append_own (P:=P) w base t ty e i z K bytes ht hi hz0 hz1 hz2 hz hK _ n vs hown a m c news hm hr.cells h1 (by simp [maxLen];omega) hb hbase
  rcases h2.2 with ⟨rfl,h0⟩ | ⟨g,cap',cur,rfl,r⟩
  ·obtain ⟨rfl,rfl⟩:n=0∧m=0:=(by omega);exact ⟨none,0,w',hr',h2,hob ▸ Only.grown h3⟩
  ·exact ⟨_,cap',w',hr',⟨h2.1,.inr ⟨g,cap',cur,rfl,r⟩⟩,hob ▸ Only.grown h3⟩
theorem flat_length {α:Type} (f:α→List Value) (K:Nat) (hf:∀ a,(f a).length=K):∀ l:List α,(l.flatMap f).length=l.length * K
 | []=>by simp
 | a :: l=>by rw [List.flatMap_cons,List.length_append,hf,flat_length f K hf l,List.length_cons,Nat.succ_mul];omega
theorem flat_get {α:Type} (f:α→List Value) (K:Nat) (hf:∀ a,(f a).length=K):∀ (l:List α) (j:Nat) (a:α) (r:Nat),l[j]?=some a→r < K→(l.flatMap f)[j * K+r]?=(f a)[r]?
 | [],j,a,r,h,_=>by simp at h
 | x :: l,0,a,r,h,hr=>by
  obtain rfl:x=a:=(by simpa using h);rw [List.flatMap_cons,Nat.zero_mul,Nat.zero_add,List.getElem?_append_left (by rw [hf];exact hr)]
 | x :: l,j+1,a,r,h,hr=>by
  rw [List.flatMap_cons,List.getElem?_append_right (by rw [hf,Nat.succ_mul];omega),hf];have e:(j+1) * K+r - K=j * K+r:=(by rw [Nat.succ_mul];omega);rw [e];exact flat_get f K hf l j a r (by simpa using h) hr
end
section
open Go.RowKit
theorem appendK_at {P:Program} (w:World) {t ty e:TypeId} {z:Value} {bytes base K n cap m c N cap':Nat} {p q p':Option Addr} {vs news:List Value} {w':World} (ht:P.underlying t=some (.slice e)) (hi:(P.info? e).map (fun i=>(i.zero,i.size,i.bytes))=some (some z,K,bytes)) (hz:z.cells.size=K) (hK:0 < K)
  (hown:OwnK w base e K (.slice p n cap) n vs) (hr:Rd w q news) (hm:news.length=m * K) (hq:q=none→m=0∧c=0) (h1:∀ u∈news,u.oneCell'=true) (hb:(n+m) * bytes≤140737488355328) (h63:n+m≤9223372036854775807)
  (hrun:(Builtin.append_ #[t,t] ty #[.slice p n cap,.slice q m c]).run P w=.ok (.slice p' N cap') w'):p'=p∨∃ g,p'=some ⟨g,0,none⟩∧w.heap.size≤g:=by
 obtain ⟨i,hi,hz0,hz1,hz2⟩:=info_partsK hi
 cases q with
 | none =>
  obtain ⟨rfl,rfl⟩:=hq rfl;rw [run_append_owned_none (P:=P) w base t ty e i K ht hi _ n vs hown] at hrun;simp only [Result.ok.injEq,Value.slice.injEq] at hrun;exact .inl hrun.1.1.symm
 | some a =>
  have hc:=hr.cells
  rcases hown.2 with ⟨e1,rfl⟩ | ⟨g,capp,cur,e1,hg,hh,h2,h3,h4,h5⟩
  ·obtain ⟨rfl,-,rfl⟩:p=none∧0=0∧cap=0:=by simpa using e1
   by_cases h0:m=0
   ·subst h0
    have hrun2:(Builtin.append_ #[t,t] ty #[.slice none 0 0,.slice (some a) 0 c]).run P w=.ok (.slice none 0 0) w:=by
     simp [Builtin.append_,run_underlying ht,sizeOf,typeInfo,hi,Builtin.lenOf,Builtin.firstCells,loadCells,loadCellsFrom]
    rw [hrun2] at hrun;simp only [Result.ok.injEq,Value.slice.injEq] at hrun;exact .inl hrun.1.1.symm
   ·have h:=run_append_nil (P:=P) w t ty e i z ht hi hz0 a m c news (by rw [hz1];exact hm) hc (by omega) (by omega) (by rw [hz2];rw [Nat.zero_add] at hb;omega);rw [h] at hrun;simp only [Result.ok.injEq,Value.slice.injEq] at hrun;exact .inr ⟨_,hrun.1.1.symm,Nat.le_refl _⟩
  ·obtain ⟨rfl,-,rfl⟩:p=some ⟨g,0,none⟩∧n=n∧cap=capp:=by simpa using e1
   by_cases hfit:n+m≤cap
   ·have h:=run_append_room (P:=P) w t ty e i ht hi g n cap cur hh a m c news (by rw [hz1];exact hm) hc h1 hfit (by rw [hz1,h4,hm,← Nat.add_mul];exact Nat.mul_le_mul_right K hfit);rw [h] at hrun;simp only [Result.ok.injEq,Value.slice.injEq] at hrun;exact .inl hrun.1.1.symm
   ·have hv:=hown.view;have h:=run_append_grow (P:=P) w t ty e i z ht hi hz0 ⟨g,0,none⟩ n cap vs (by rw [hz1];exact hv.2.1) hv.2.2.1.cells a m c news (by rw [hz1];exact hm) hc (by omega) (by omega) (by rw [hz2];exact growslice_fits (by omega) hb);rw [h] at hrun;simp only [Result.ok.injEq,Value.slice.injEq] at hrun;exact .inr ⟨_,hrun.1.1.symm,Nat.le_refl _⟩
end
end Go.Proofs.YtfeglnpmpgipiaaGreatDoor
