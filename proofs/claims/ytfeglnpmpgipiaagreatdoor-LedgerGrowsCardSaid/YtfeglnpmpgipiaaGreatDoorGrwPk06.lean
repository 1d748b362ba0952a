/- GrwPk, part 6: Own. -/
import Derived.Test.YtfeglnpmpgipiaaGreatDoorGrwPk01
import Derived.Lib.AppendStr
import Derived.Lib.SlBytesConst
import Derived.Lib.ConvBytes
set_option linter.unusedVariables false
set_option maxRecDepth 100000
set_option linter.unusedSimpArgs false
namespace Go.Proofs.YtfeglnpmpgipiaaGreatDoor
section
open Go.RowKit
def Own (w:World) (base:Nat) (e:TypeId) (v:Value) (vs:List Value):Prop:=w.ownsRow base e 1 v vs.length vs
theorem Own.nil (w:World) (base:Nat) (e:TypeId):Own w base e (.slice none 0 0) []:=World.ownsRow_nil w base e 1
theorem Own.cases {w:World} {base:Nat} {e:TypeId} {v:Value} {vs:List Value} (h:Own w base e v vs) :
  (v=.slice none 0 0∧vs=[])∨∃ g cap rest,v=.slice (some ⟨g,0,none⟩) vs.length cap∧base≤g∧Row w g e (vs ++ rest)∧(vs ++ rest).length=cap∧cap≤9223372036854775807:=by
 rcases h.2 with ⟨h1,h2⟩ | ⟨g,cap,cur,rfl,hg,hh,h1,h2,h3,h4⟩
 ·exact .inl ⟨h1,List.eq_nil_of_length_eq_zero h2⟩
 ·right
  rw [Nat.mul_one] at h4 h3;refine ⟨g,cap,cur.toList.drop vs.length,rfl,hg,?_,?_,by simpa [maxLen] using h2⟩
  ·unfold Row;rw [hh]
   congr 2
   have e:=List.take_append_drop vs.length cur.toList;rw [h4] at e;rw [e]
  ·have e:=List.take_append_drop vs.length cur.toList;rw [h4] at e;rw [e];simpa using h3
theorem Own.ofRow {w:World} {base g cap:Nat} {e:TypeId} {vs rest:List Value} (hg:base≤g) (r:Row w g e (vs ++ rest)) (hc:(vs ++ rest).length=cap) (hm:cap≤9223372036854775807) :
  Own w base e (.slice (some ⟨g,0,none⟩) vs.length cap) vs :=
 ⟨by simp,.inr ⟨g,cap,(vs ++ rest).toArray,rfl,hg,r,by simp at hc;omega,by simp [maxLen];omega,by simpa using hc,by simp⟩⟩
theorem Own.only {S:List Nat} {w w':World} {base:Nat} {e:TypeId} {v:Value} {vs:List Value} (h:Own w base e v vs) (ho:Only S w w') (hn:∀ k,v.ownBlock=some k→k ∉ S):Own w' base e v vs:=by
 refine ⟨h.1,?_⟩
 rcases h.2 with h2 | ⟨g,cap,cur,rfl,hg,hh,r⟩
 ·exact .inl h2
 ·refine .inr ⟨g,cap,cur,rfl,hg,?_,r⟩;rw [ho.block g (Array.getElem?_eq_some_iff.1 hh).1 (hn g rfl)];exact hh
theorem Own.zB {w w':World} {base:Nat} {e:TypeId} {v:Value} {vs:List Value} (h:Own w base e v vs) (ho:Only [] w w'):Own w' base e v vs:=h.only ho (by simp)
theorem Own.rd {w:World} {base:Nat} {e:TypeId} {v:Value} {vs:List Value} (h:Own w base e v vs):∃ p cap,v=.slice p vs.length cap∧Rd w p vs∧vs.length≤cap∧cap≤9223372036854775807∧(p=none→vs.length=0∧cap=0)∧(∀ a,p=some a→base≤a.block):=by
 rcases h.cases with ⟨rfl,rfl⟩ | ⟨g,cap,rest,rfl,hg,r,hc,hm⟩
 ·exact ⟨none,0,rfl,Rd.nil _ _,Nat.le_refl _,by omega,fun _=>⟨rfl,rfl⟩,by simp⟩
 ·refine ⟨_,cap,rfl,?_,by simp at hc;omega,hm,by simp,by rintro a ⟨⟩;exact hg⟩;have:=r.rd0.take vs.length
  simpa using this
theorem Own.lt {w:World} {base:Nat} {e:TypeId} {v:Value} {vs:List Value} (h:Own w base e v vs):∀ k,v.ownBlock=some k→base≤k∧k < w.heap.size:=World.ownsRow.lt h
theorem Own.view {w:World} {base n c:Nat} {e:TypeId} {p:Option Addr} {vs:List Value} (h:Own w base e (.slice p n c) vs):Rd w p vs∧vs.length=n∧(p=none→n=0∧c=0)∧n≤c∧c≤9223372036854775807∧(∀ a,p=some a→base≤a.block∧a.block < w.heap.size):=by
 obtain ⟨p1,c1,e1,rd,h1,h2,h3,h4⟩:=h.rd;obtain ⟨rfl,rfl,rfl⟩:p=p1∧n=vs.length∧c=c1:=(by simpa using e1);refine ⟨rd,rfl,h3,h1,h2,fun a ha=>?_⟩;subst ha;exact h.lt _ rfl
section
variable {P:Program} (w:World)
end
theorem zFW {P:Program} (w:World) {t ty e:TypeId} {z:Value} {bytes g n cap m c:Nat} {p:Option Addr} {vs news:List Value} (ht:P.underlying t=some (.slice e)) (hi:(P.info? e).map (fun i=>(i.zero,i.size,i.bytes))=some (some z,1,bytes))
  (hrow:Row w g e vs) (hcap:vs.length=cap) (hr:Rd w p news) (hm:news.length=m) (hp:p=none→m=0∧c=0) (h1:∀ u∈news,u.oneCell'=true) (hfit:n+m≤cap) (h63:cap≤9223372036854775807) :
  ∃ w',(Builtin.append_ #[t,t] ty #[.slice (some ⟨g,0,none⟩) n cap,.slice p m c]).run P w=.ok (.slice (some ⟨g,0,none⟩) (n+m) cap) w'∧Row w' g e (vs.take n ++ news ++ vs.drop (n+m))∧Only [g] w w':=by
 obtain ⟨i,hi,hz0,hz1,hz2⟩:=info_parts hi
 cases p with
 | none =>
  obtain ⟨rfl,rfl⟩:=hp rfl;have hn:news=[]:=List.eq_nil_of_length_eq_zero hm;subst hn;have hown:w.ownsRow 0 e 1 (.slice (some ⟨g,0,none⟩) n cap) n (vs.take n):=⟨by simp;omega,.inr ⟨g,cap,vs.toArray,rfl,Nat.zero_le _,hrow,by omega,by simp [maxLen];omega,by simpa using hcap,by simp⟩⟩;exact ⟨w,run_append_owned_none (P:=P) w 0 t ty e i 1 ht hi _ _ _ hown,by simpa using hrow,Only.refl _ _⟩
 | some a =>
  have hcells:∀ j u,news[j]?=some u→w.cell? (a.add j)=some u:=by
   rcases hr with rfl | ⟨b,off,e',h⟩
   ·intro j u hj;simp at hj
   ·cases e'
    intro j u hj;rw [Addr.add_lit];exact h j u hj
  have h:=run_append_room (P:=P) w t ty e i ht hi g n cap vs.toArray hrow a m c news (by rw [hz1];omega) hcells h1 hfit (by rw [hz1];simp;omega);refine ⟨_,h,?_,Only.setRow _ _ _⟩;rw [hz1,Nat.mul_one,hm];exact hrow.setRow _
theorem Rd.cells {w:World} {a:Addr} {vs:List Value} (h:Rd w (some a) vs):∀ j u,vs[j]?=some u→w.cell? (a.add j)=some u:=by
 rcases h with rfl | ⟨b,off,e',h⟩
 ·intro j u hj;simp at hj
 ·cases e'
  intro j u hj;rw [Addr.add_lit];exact h j u hj
theorem Row.zV (w:World) (e:TypeId) (c:Array Value) (vs:List Value) (h:c.toList=vs):Row (w.alloc (.cells c e)) w.heap.size e vs:=by
 subst h;exact Row.new w e c.toList
theorem zDQ {P:Program} (w:World) {t ty e:TypeId} {z:Value} {bytes n cap m c:Nat} {p q:Option Addr} {vs news:List Value} (ht:P.underlying t=some (.slice e)) (hi:(P.info? e).map (fun i=>(i.zero,i.size,i.bytes))=some (some z,1,bytes)) (hz:z.cells=#[z])
  (hs:Rd w p vs) (hn:vs.length=n) (hp:p=none→n=0∧cap=0) (hr:Rd w q news) (hm:news.length=m) (hq:q=none→m=0∧c=0) (hgrow:cap < n+m) (hn2:n≤cap) (hb:(n+m) * bytes≤140737488355328) (h63:n+m≤9223372036854775807) :
  ∃ g cap' k w',(Builtin.append_ #[t,t] ty #[.slice p n cap,.slice q m c]).run P w=.ok (.slice (some ⟨g,0,none⟩) (n+m) cap') w'∧w.heap.size≤g∧Row w' g e (vs ++ news ++ List.replicate k z)∧n+m+k=cap'∧cap'≤9223372036854775807∧Only [] w w':=by
 obtain ⟨i,hi,hz0,hz1,hz2⟩:=info_parts hi
 cases q with
 | none=>have:=hq rfl;omega
 | some a =>
  have hc:=hr.cells
  have hzc:∀ k,(Builtin.zeroCells z.cells k).toList=List.replicate k z:=by
   intro k;apply List.ext_getElem
   ·simp [Builtin.zeroCells,hz]
   ·intro j h1 h2
    simp [Builtin.zeroCells,hz,Nat.mod_one]
  have hge:∀ old,n+m≤grownCap w (n+m) old e:=fun old=>grownCap_ge w (n+m) old e
  have hle:∀ old,grownCap w (n+m) old e≤9223372036854775807:=fun old=>by
   have:=grownCap_le_maxLen w (n+m) old e (by simp [maxLen];omega)
   simpa [maxLen] using this
  cases p with
  | none =>
   obtain ⟨rfl,rfl⟩:=hp rfl;have hv:vs=[]:=List.eq_nil_of_length_eq_zero hn;subst hv;have h:=run_append_nil (P:=P) w t ty e i z ht hi hz0 a m c news (by rw [hz1];omega) hc (by omega) (by omega) (by rw [hz2];rw [Nat.zero_add] at hb;omega);rw [Nat.zero_add] at *;refine ⟨_,_,grownCap w m 0 e - m,_,h,Nat.le_refl _,?_,?_,hle 0,(Only.drew w).zC (Only.alloc _ _)⟩
   ·exact Row.zV w.drew e _ _ (by simp [hzc])
   ·have:=hge 0;omega
  | some b =>
   have h:=run_append_grow (P:=P) w t ty e i z ht hi hz0 b n cap vs (by rw [hz1];omega) hs.cells a m c news (by rw [hz1];omega) hc hgrow (by omega) (by rw [hz2];exact growslice_fits hgrow hb);refine ⟨_,_,grownCap w (n+m) cap e - (n+m),_,h,Nat.le_refl _,?_,?_,hle cap,(Only.drew w).zC (Only.alloc _ _)⟩
   ·exact Row.zV w.drew e _ _ (by simp [hzc])
   ·have:=hge cap;omega
def blk:Option Addr→List Nat
 | some a=>[a.block]
 | none=>[]
theorem zDa {P:Program} (w:World) {t ty e:TypeId} {z:Value} {bytes base n cap m c:Nat} {p q:Option Addr} {vs news:List Value} (ht:P.underlying t=some (.slice e)) (hi:(P.info? e).map (fun i=>(i.zero,i.size,i.bytes))=some (some z,1,bytes)) (hz:z.cells=#[z])
  (hown:Own w base e (.slice p n cap) vs) (hr:Rd w q news) (hm:news.length=m) (hq:q=none→m=0∧c=0) (h1:∀ u∈news,u.oneCell'=true) (hb:(n+m) * bytes≤140737488355328) (h63:n+m≤9223372036854775807) (hbase:base≤w.heap.size) :
  ∃ p' cap' w',(Builtin.append_ #[t,t] ty #[.slice p n cap,.slice q m c]).run P w=.ok (.slice p' (n+m) cap') w'∧Own w' base e (.slice p' (n+m) cap') (vs ++ news)∧Only (blk p) w w'∧(p'=p∧cap'=cap∨(∃ g,p'=some ⟨g,0,none⟩∧w.heap.size≤g)∧Only [] w w'):=by
 have hnew:cap < n+m→n≤cap→(p=none→n=0∧cap=0)→vs.length=n→Rd w p vs→∃ p' cap' w',(Builtin.append_ #[t,t] ty #[.slice p n cap,.slice q m c]).run P w=.ok (.slice p' (n+m) cap') w'∧Own w' base e (.slice p' (n+m) cap') (vs ++ news)∧Only (blk p) w w'∧(p'=p∧cap'=cap∨(∃ g,p'=some ⟨g,0,none⟩∧w.heap.size≤g)∧Only [] w w'):=by
  intro hg hn2 hp hl hrd;obtain ⟨g,cap',k,w',h2,h3,h4,h5,h6,h7⟩:=zDQ (P:=P) w (t:=t) (ty:=ty) ht hi hz hrd hl hp hr hm hq hg hn2 hb h63;have hlen:(vs ++ news).length=n+m:=(by rw [List.length_append,hl,hm]);refine ⟨_,cap',w',h2,?_,h7.mono (by simp),.inr ⟨⟨g,rfl,h3⟩,h7⟩⟩;have:=Own.ofRow (base:=base) (vs:=vs ++ news) (rest:=List.replicate k z) (cap:=cap') (by omega) h4 (by rw [List.length_append,hlen];simp;omega) h6;rw [hlen] at this;exact this
 rcases hown.cases with ⟨e1,rfl⟩ | ⟨g,cap',rest,e1,hg,r,hc,hmx⟩
 ·cases e1
  by_cases h0:m=0
  ·subst h0;have hn:news=[]:=List.eq_nil_of_length_eq_zero hm;subst hn;obtain ⟨i,hi,_,_,_⟩:=info_parts hi
   cases q with
   | none =>
    obtain ⟨_,rfl⟩:=hq rfl;exact ⟨none,0,w,run_append_owned_none (P:=P) w base t ty e i 1 ht hi _ 0 [] hown,hown,Only.refl _ _,.inl ⟨rfl,rfl⟩⟩
   | some a =>
    refine ⟨none,0,w,?_,hown,Only.refl _ _,.inl ⟨rfl,rfl⟩⟩
    simp [Builtin.append_,run_underlying ht,sizeOf,typeInfo,hi,Builtin.lenOf,Builtin.firstCells,loadCells,loadCellsFrom]
  ·exact hnew (by omega) (Nat.le_refl _) (by simp) rfl (Rd.nil _ _)
 ·obtain ⟨rfl,rfl,rfl⟩:p=some ⟨g,0,none⟩∧n=vs.length∧cap=cap':=by simpa using e1
  by_cases hfit:vs.length+m≤cap
  ·obtain ⟨w',h2,h3,h4⟩:=zFW (P:=P) w (n:=vs.length) (cap:=cap) (t:=t) (ty:=ty) ht hi r hc hr hm hq h1 hfit hmx;refine ⟨_,cap,w',h2,?_,h4,.inl ⟨rfl,rfl⟩⟩;have hlen:(vs ++ news).length=vs.length+m:=by rw [List.length_append,hm]
   have e2:(vs ++ rest).take vs.length ++ news ++ (vs ++ rest).drop (vs.length+m)=(vs ++ news) ++ rest.drop m:=by
    rw [List.take_left,List.drop_append];simp
   rw [e2] at h3;have:=Own.ofRow (base:=base) (vs:=vs ++ news) (rest:=rest.drop m) (cap:=cap) hg h3 (by simp at hc ⊢;omega) hmx;rw [hlen] at this;exact this
  ·have hrd:Rd w (some ⟨g,0,none⟩) vs:=by
    have:=r.rd0.take vs.length
    simpa using this
   exact hnew (by omega) (by simp at hc;omega) (by simp) rfl hrd
theorem zAx {P:Program} (w:World) {t ty e:TypeId} {z:Value} {bytes base n cap m c:Nat} {p q:Option Addr} {vs news:List Value} (ht:P.underlying t=some (.slice e)) (hi:(P.info? e).map (fun i=>(i.zero,i.size,i.bytes))=some (some z,1,bytes)) (hz:z.cells=#[z])
  (hown:Own w base e (.slice p n cap) vs) (hr:Rd w q news) (hm:news.length=m) (hq:q=none→m=0∧c=0) (h1:∀ u∈news,u.oneCell'=true) (hb:(n+m) * bytes≤140737488355328) (h63:n+m≤9223372036854775807) (hbase:base≤w.heap.size) :
  ∃ p' cap' w',(Builtin.append_ #[t,t] ty #[.slice p n cap,.slice q m c]).run P w=.ok (.slice p' (n+m) cap') w'∧Own w' base e (.slice p' (n+m) cap') (vs ++ news)∧Only (blk p) w w'∧(p'=p∨∃ g,p'=some ⟨g,0,none⟩∧w.heap.size≤g):=by
 obtain ⟨p',cap',w',h1,h2,h3,h4⟩:=zDa (P:=P) w (t:=t) (ty:=ty) ht hi hz hown hr hm hq h1 hb h63 hbase;exact ⟨p',cap',w',h1,h2,h3,h4.imp (fun h=>h.1) (fun h=>h.1)⟩
theorem qP {P:Program} {ops:Array Oper} {rest:List Oper} {o:Oper} {a:Act} {Q:Exit→Act→World→Prop} {w w':World} {s x:Operand} {t t':TypeId} {sv xv v:Value} (hg:o.guard=none)
  (ho:o.op=.call { callee:=.builtin .append,args:=#[s,x],argTypes:=#[t,t'] }) (hs:a.eval s=sv) (hx:a.eval x=xv)
  (hr:(Builtin.append_ #[t,t'] o.type #[sv,xv]).run P w=.ok v w') (h:wpList P ops Q rest (a.put o.dst v) w'):wpList P ops Q (o :: rest) a w :=
 wpList_plain hg fun K hK=>by
  unfold Oper.wp execOp;simp only [ho,resolve,invoke,builtin,Sem.run_bind,Sem.run_pure,Result.andThen_ok,List.map_toArray,List.map_cons,List.map_nil,hs,hx,hr];exact hK _ _ h
end
end Go.Proofs.YtfeglnpmpgipiaaGreatDoor
