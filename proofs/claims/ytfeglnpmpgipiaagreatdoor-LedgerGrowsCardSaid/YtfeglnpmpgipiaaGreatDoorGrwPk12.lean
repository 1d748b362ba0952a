/- GrwPk, part 12: CopyK, MoveK, Edit. -/
import Derived.Test.YtfeglnpmpgipiaaGreatDoorGrwPk09
import Derived.Lib.AppendZerosOnto
set_option linter.unusedVariables false
set_option maxRecDepth 100000
set_option linter.unusedSimpArgs false
namespace Go.Proofs.YtfeglnpmpgipiaaGreatDoor
section
open Go.RowKit
theorem yG {P:Program} (w:World) {dT sT ty elem:TypeId} {g o dLen dCap sLen sCap K m:Nat} {a:Addr} {t:TypeId} {cur cs:List Value} (hu:P.underlying dT=some (.slice elem)) (hs:(P.info? elem).map (·.size)=some K) (hg:Row w g t cur)
  (hm:Nat.min sLen dLen=m) (hn:cs.length=m * K) (hsrc:∀ j v,cs[j]?=some v→w.cell? (a.add j)=some v) (hfit:o+cs.length≤cur.length) (h1:∀ v∈cs,v.oneCell'=true) :
  (Builtin.copy_ #[dT,sT] ty #[.slice (some ⟨g,o,none⟩) dLen dCap,.slice (some a) sLen sCap]).run P w=.ok (.int .i64 (m:Int)) (w.setRow g (cur.take o ++ cs ++ cur.drop (o+cs.length)).toArray):=by
 have hl:=run_loadCells_list (P:=P) w a cs hsrc;have hst:=run_storeCells_at P g o t cs 0 cur.toArray w hg (by simpa using hfit) h1
 cases hq:P.info? elem with
 | none=>simp [hq] at hs
 | some i =>
  have hi:i.size=K:=by simpa [hq] using hs
  simp [Builtin.copy_,run_underlying hu,Builtin.lenOf,Builtin.firstCells,sizeOf,typeInfo,hq,hi,hm,← hn,hl,hst,goInt]
theorem zFa {P:Program} (w:World) {t tn ty e:TypeId} {z:Value} {kq kn:IntKind} {bytes K i k cap:Nat} {b:Addr} {old:List Value} (ht:P.underlying t=some (.slice e)) (htn:P.underlying tn=some (.int kn)) (hi:(P.info? e).map (fun i=>(i.zero,i.size,i.bytes))=some (some z,K,bytes)) (hz:z.cells.size=K) (hK:0 < K)
  (hold:Rd w (some b) old) (hl:old.length=i * K) (h0:0 < k) (hg:cap < i+k) (hb:(i+k) * bytes≤140737488355328) (h63:i+k≤9223372036854775807) :
  ∃ g cap' w' rest,(Builtin.append_ #[t,tn] ty #[.slice (some b) i cap,.int kq (k:Int)]).run P w=.ok (.slice (some ⟨g,0,none⟩) (i+k) cap') w'∧Row w' g e (old ++ rest)∧rest.length+i * K=cap' * K∧i+k≤cap'∧cap'≤9223372036854775807∧w.heap.size≤g∧Only [] w w':=by
 obtain ⟨ii,hii,hz0,hs1,hs2⟩:=info_partsK hi
 have hzc:∀ k,(Builtin.zeroCells z.cells k).toList.length=k * K:=by
  intro k
  simp [Builtin.zeroCells,hz,Nat.mul_comm]
 have hkb:k * bytes≤(i+k) * bytes:=Nat.mul_le_mul_right _ (by omega);have hge:i+k≤grownCap w (i+k) cap e:=grownCap_ge w (i+k) cap e
 have hle:grownCap w (i+k) cap e≤9223372036854775807:=by
  have:=grownCap_le_maxLen w (i+k) cap e (by simp [maxLen];omega)
  simpa [maxLen] using this
 have hold2:(Builtin.firstCells ii.size i (.slice (some b) i cap)).run P w.drew=.ok old.toArray w.drew :=
  run_firstCells_some (P:=P) w.drew ii.size i b i cap old (by rw [hs1,hl]) (by
   intro j v hv;have:=(hold.zB (Only.drew w)).cells j v hv
   exact this)
 have h:=Lib.run_append_grow_zeros (P:=P) w t tn ty e ii z kq kn ht htn hii hz0 (some b) i cap old hold2 k h0 (by omega) hg (by omega) (by rw [hs2];omega) (by rw [hs2];exact growslice_fits hg hb);refine ⟨_,_,_,(Builtin.zeroCells z.cells k).toList ++ (Builtin.zeroCells z.cells (grownCap w (i+k) cap e - (i+k))).toList,h,Row.zV w.drew e _ _ (by simp),?_,hge,hle,by simp,(Only.drew w).zC (Only.alloc _ _)⟩;rw [List.length_append,hzc,hzc,← Nat.add_mul,← Nat.add_mul]
 congr 1
 omega
theorem zIZ {A X B R:List Value} {a k b:Nat} (ha:A.length=a) (hk:X.length=k) (hb:B.length=b) (h:a+k+b≤R.length) (hR:R.take a=A) :
  (R.take a ++ X ++ R.drop (a+k)).take (a+k) ++ B ++ (R.take a ++ X ++ R.drop (a+k)).drop (a+k+b)=A ++ X ++ B ++ R.drop (a+k+b):=by
 have h1:(R.take a ++ X).length=a+k:=(by rw [List.length_append,List.length_take,hk];omega);rw [List.take_left' h1,hR,List.drop_append];have h2:(A ++ X).length=a+k:=(by rw [List.length_append,ha,hk]);rw [h2,List.drop_eq_nil_of_le (by rw [h2];omega),List.nil_append,List.drop_drop]
 congr 2
 omega
theorem zFA {A X B R:List Value} {a k b:Nat} (ha:A.length=a) (hk:X.length=k) (hb:B.length=b) (h:a+k+b≤R.length) (hR:R.take a=A) :
  (R.take (a+k) ++ B ++ R.drop (a+k+b)).take a ++ X ++ (R.take (a+k) ++ B ++ R.drop (a+k+b)).drop (a+k)=A ++ X ++ B ++ R.drop (a+k+b):=by
 have h1:(R.take (a+k)).length=a+k:=(by rw [List.length_take];omega);rw [List.append_assoc (R.take (a+k)),List.take_append_of_le_length (by omega),List.take_take,Nat.min_eq_left (by omega),hR,List.drop_left' h1];simp only [List.append_assoc]
theorem zN.ofRow {w:World} {base K g c n:Nat} {e:TypeId} {L vs:List Value} (r:Row w g e L) (hb:base≤g) (hn:n≤c) (hc:c≤9223372036854775807) (hL:L.length=c * K) (hv:L.take (n * K)=vs):zN w base e K (.slice (some ⟨g,0,none⟩) n c) n vs:=by
 refine ⟨?_,.inr ⟨g,c,L.toArray,rfl,hb,r,hn,by simpa [maxLen] using hc,by simpa using hL,by simpa using hv⟩⟩;rw [← hv,List.length_take,hL];exact Nat.min_eq_left (Nat.mul_le_mul_right K hn)
end
section
open Go.RowKit
theorem zDL {P:Program} (w:World) {t ty e:TypeId} {g i c K m c2 bytes:Nat} {z:Value} {a:Addr} {cur news:List Value} (ht:P.underlying t=some (.slice e)) (hi:(P.info? e).map (fun i=>(i.zero,i.size,i.bytes))=some (some z,K,bytes))
  (hg:Row w g e cur) (hn:news.length=m * K) (hsrc:∀ j v,news[j]?=some v→w.cell? (a.add j)=some v) (h1:∀ v∈news,v.oneCell'=true) (hroom:i+m≤c) (hfit:i * K+news.length≤cur.length) :
  (Builtin.append_ #[t,t] ty #[.slice (some ⟨g,0,none⟩) i c,.slice (some a) m c2]).run P w=.ok (.slice (some ⟨g,0,none⟩) (i+m) c) (w.setRow g (cur.take (i * K) ++ news ++ cur.drop (i * K+news.length)).toArray):=by
 obtain ⟨ii,hii,hz0,hs,hb⟩:=info_partsK hi;have:=run_append_room (P:=P) w t ty e ii ht hii g i c cur.toArray hg a m c2 news (by rw [hs];exact hn) hsrc h1 hroom (by rw [hs];simpa using hfit)
 simpa [hs] using this
theorem zHc {z:Array Value} (h:∀ v∈z.toList,v.oneCell'=true) (n:Nat):∀ v∈(Builtin.zeroCells z n).toList,v.oneCell'=true:=by
 intro v hv;obtain ⟨j,hj,rfl⟩:=List.getElem_of_mem hv
 simp [Builtin.zeroCells] at hj ⊢
 have hp:0 < z.size:=by
  rcases Nat.eq_zero_or_pos z.size with h0 | h0
  ·rw [h0] at hj;simp at hj
  ·exact h0
 have hlt:=Nat.mod_lt j hp;rw [getElem!_pos z (j % z.size) hlt];exact h _ (by simp)
theorem zER {P:Program} (w:World) {t ty e te:TypeId} {z:Value} {g o n c:Nat} {cur:List Value} (ht:P.underlying t=some (.slice e)) (hz:∀ w,(zeroValue e).run P w=.ok z w) (h1:∀ v∈z.cells.toList,v.oneCell'=true)
  (hg:Row w g te cur) (hn:0 < n) (hfit:o+n * z.cells.size≤cur.length) :
  (Builtin.clear_ #[t] ty #[.slice (some ⟨g,o,none⟩) n c]).run P w=.ok (.tuple #[]) (w.setRow g (cur.take o ++ (Builtin.zeroCells z.cells n).toList ++ cur.drop (o+n * z.cells.size)).toArray):=by
 have hl:(Builtin.zeroCells z.cells n).toList.length=n * z.cells.size:=(by simp [Builtin.zeroCells]);have hst:=run_storeCells_at P g o te (Builtin.zeroCells z.cells n).toList 0 cur.toArray w hg (by rw [hl];simpa using hfit) (zHc h1 n);simp only [Nat.add_zero,hl] at hst;obtain ⟨m,rfl⟩:∃ m,n=m+1:=⟨n - 1,by omega⟩
 simp [Builtin.clear_,run_underlying ht,hz,hst]
def zAj (p:Option Addr) (n c g:Nat) (t:TypeId) (vs:List Value):Value→World→Prop:=fun v w=>v=.slice p n c∧Row w g t vs
theorem zAj.stable {p:Option Addr} {n c g:Nat} {t:TypeId} {vs:List Value}:Stable (Only []) (zAj p n c g t vs):=fun _ _ _ h ho=>⟨h.1,Row.zB h.2 ho⟩
theorem zN.row {w:World} {base K n c g:Nat} {e:TypeId} {vs:List Value} (h:zN w base e K (.slice (some ⟨g,0,none⟩) n c) n vs):∃ rest,Row w g e (vs ++ rest)∧(vs ++ rest).length=c * K∧n≤c∧c≤9223372036854775807∧base≤g∧vs.length=n * K:=by
 rcases h.2 with ⟨e1,h0⟩ | ⟨g',cap,cur,e1,hg,hh,h1,h2,h3,h4⟩
 ·cases e1
 ·cases e1
  refine ⟨cur.toList.drop (n * K),?_,?_,h1,by simpa [maxLen] using h2,hg,h.1⟩
  ·rw [← h4,List.take_append_drop];unfold Row;simpa using hh
  ·rw [← h4,List.take_append_drop];simpa using h3
theorem vH {w:World} {g:Nat} {e:TypeId} {vs:List Value} (h:Row w g e vs):w.shape? g=some (e,vs.toArray.size):=by
 unfold Row at h
 simp [World.shape?,h]
theorem yV {P:Program} {o:Oper} {a:Act} {K:Act→World→Prop} {w w':World} {s x:Operand} {t t':TypeId} {sv xv v:Value}
  (ho:o.op=.call { callee:=.builtin .copy,args:=#[s,x],argTypes:=#[t,t'] }) (hs:a.eval s=sv) (hx:a.eval x=xv)
  (hr:(Builtin.copy_ #[t,t'] o.type #[sv,xv]).run P w=.ok v w') (h:K (a.put o.dst v) w'):o.wp P a w K (fun _ _ _=>False):=by
 unfold Oper.wp execOp;simp only [ho,resolve,invoke,builtin,Sem.run_bind,Sem.run_pure,Result.andThen_ok,List.map_toArray,List.map_cons,List.map_nil,hs,hx,hr];exact h
end
section
open Go.RowKit
def Outside (o K:Nat) (cur cur':List Value):Prop:=cur'.length=cur.length∧∀ j,j < o∨o+K≤j→cur'[j]?=cur[j]?
def jF (o:Nat) (cur vs:List Value):Prop:=∀ r v,vs[r]?=some v→cur[o+r]?=some v
theorem Outside.refl (o K:Nat) (cur:List Value):Outside o K cur cur:=⟨rfl,fun _ _=>rfl⟩
theorem Outside.trans {o K:Nat} {a b c:List Value} (h:Outside o K a b) (k:Outside o K b c):Outside o K a c:=⟨k.1.trans h.1,fun j hj=>(k.2 j hj).trans (h.2 j hj)⟩
theorem Outside.set (o K:Nat) (cur:List Value) {i:Nat} (v:Value) (h:o≤i) (h2:i < o+K):Outside o K cur (cur.set i v) :=
 ⟨by simp,fun j hj=>List.getElem?_set_ne (by omega)⟩
theorem jF.set {o:Nat} {cur vs:List Value} (h:jF o cur vs) {i:Nat} (v:Value) (hi:i < vs.length):jF o (cur.set (o+i) v) (vs.set i v):=by
 intro r u hu
 have hi2:o+i < cur.length:=by
  have:=h i _ (List.getElem?_eq_getElem hi);exact (List.getElem?_eq_some_iff.1 this).1
 by_cases e:i=r
 ·subst e;rw [List.getElem?_set_self hi] at hu;rw [List.getElem?_set_self hi2,hu]
 ·rw [List.getElem?_set_ne e] at hu;rw [List.getElem?_set_ne (by omega)];exact h r u hu
theorem jF.cell {w:World} {g o r:Nat} {t:TypeId} {cur vs:List Value} {v:Value} (h:jF o cur vs) (hr:Row w g t cur) (hv:vs[r]?=some v):w.cell? ⟨g,o+r,none⟩=some v:=hr.cell (h r v hv)
theorem jZ {α:Type} {f:α→List Value} {K:Nat} (hf:∀ a,(f a).length=K) {xs:List α} {rest:List Value} {i:Nat} {x:α} (hx:xs[i]?=some x):jF (i * K) (xs.flatMap f ++ rest) (f x):=by
 intro r v hv
 have hr:r < K:=by
  have:=(List.getElem?_eq_some_iff.1 hv).1
  rwa [hf] at this
 have h:=flat_get f K hf xs i x r hx hr;rw [hv] at h;rw [List.getElem?_append_left (List.getElem?_eq_some_iff.1 h).1,h]
theorem zEi {α:Type} {f:α→List Value} {K:Nat} (hK:0 < K) (hf:∀ a,(f a).length=K) {xs:List α} {n i:Nat} {y:α} {rest cur':List Value} (hn:xs.length=n) (hi:i < n) (ho:Outside (i * K) K (xs.flatMap f ++ rest) cur') (ha:jF (i * K) cur' (f y)) :
  cur'.take (n * K)=(xs.set i y).flatMap f:=by
 have hl:(xs.flatMap f).length=n * K:=(by rw [qR f K hf,hn]);have hl2:((xs.set i y).flatMap f).length=n * K:=(by rw [qR f K hf,List.length_set,hn]);refine List.ext_getElem? fun j=>?_
 rcases Nat.lt_or_ge j (n * K) with hj | hj
 ·rw [List.getElem?_take_of_lt hj];have hq:j / K < n:=Nat.div_lt_of_lt_mul (by rw [Nat.mul_comm];exact hj);have hr:j % K < K:=Nat.mod_lt _ hK;have e:j / K * K+j % K=j:=by rw [Nat.mul_comm];exact Nat.div_add_mod j K
  by_cases hqi:j / K=i
  ·have h1:=flat_get f K hf (xs.set i y) i y (j % K) (List.getElem?_set_self (by omega)) hr;rw [← hqi,e,hqi] at h1;obtain ⟨v,hv⟩:∃ v,(f y)[j % K]?=some v:=⟨_,List.getElem?_eq_getElem (by rw [hf];exact hr)⟩;have h3:=ha (j % K) v hv;rw [← hqi,e] at h3;rw [h1,hv,h3]
  ·obtain ⟨z,hz⟩:∃ z,xs[j / K]?=some z:=⟨_,List.getElem?_eq_getElem (by omega)⟩;have h1:=flat_get f K hf (xs.set i y) (j / K) z (j % K) (by rw [List.getElem?_set_ne (fun e=>hqi e.symm)];exact hz) hr;have h2:=flat_get f K hf xs (j / K) z (j % K) hz hr;rw [e] at h1 h2;rw [h1,ho.2 j ?_,List.getElem?_append_left (by omega),h2]
   rcases Nat.lt_or_gt_of_ne hqi with h | h
   ·left
    have:=Nat.mul_le_mul_right K (show j / K+1≤i by omega);rw [Nat.succ_mul] at this;omega
   ·right
    have:=Nat.mul_le_mul_right K (show i+1≤j / K by omega);rw [Nat.succ_mul] at this;omega
 ·rw [List.getElem?_eq_none (by rw [List.length_take];omega),List.getElem?_eq_none (by omega)]
theorem zN.zAz {w':World} {α:Type} {f:α→List Value} {base K n c g i:Nat} {e:TypeId} {xs:List α} {y:α} {rest cur':List Value} (hK:0 < K) (hf:∀ a,(f a).length=K) (hb:base≤g) (hn:xs.length=n) (hi:i < n) (hc:n≤c) (hm:c≤9223372036854775807)
  (hl:(xs.flatMap f ++ rest).length=c * K) (r:Row w' g e cur') (ho:Outside (i * K) K (xs.flatMap f ++ rest) cur') (ha:jF (i * K) cur' (f y)):zN w' base e K (.slice (some ⟨g,0,none⟩) n c) n ((xs.set i y).flatMap f) :=
 zN.ofRow r hb hc hm (by rw [ho.1,hl]) (zEi hK hf hn hi ho ha)
theorem zFn {α:Type} {F:α→List Nat} {xs:List α} {P:List Nat} {i N:Nat} {x y:α} (hx:xs[i]?=some x) (h:(P ++ xs.flatMap F).Nodup) (hlt:∀ z∈P ++ xs.flatMap F,z < N) (hy:(F y).Nodup) (hs:∀ z∈F y,z∈F x∨N≤z) :
  (P ++ (xs.set i y).flatMap F).Nodup:=by
 obtain ⟨hi,hxe⟩:=List.getElem?_eq_some_iff.1 hx;have e1:xs=xs.take i ++ x :: xs.drop (i+1):=(by rw [← hxe,← List.drop_eq_getElem_cons hi,List.take_append_drop]);rw [List.set_eq_take_append_cons_drop,if_pos hi];generalize xs.take i=A at e1 ⊢;generalize xs.drop (i+1)=C at e1 ⊢;subst e1;rw [List.flatMap_append,List.flatMap_cons] at h hlt ⊢
 have p1:∀ u:α,(P ++ (A.flatMap F ++ (F u ++ C.flatMap F))).Perm (F u ++ (P ++ (A.flatMap F ++ C.flatMap F))):=fun u=>by
  rw [List.perm_iff_count];intro a;simp only [List.count_append];omega
 have h1:=(p1 x).nodup_iff.1 h;rw [(p1 y).nodup_iff];obtain ⟨h2,h3,h4⟩:=List.nodup_append.1 h1;refine List.nodup_append.2 ⟨hy,h3,fun a ha b hb e=>?_⟩;subst e
 rcases hs a ha with h5 | h5
 ·exact h4 a h5 a hb rfl
 ·have:=hlt a (by
   simp only [List.mem_append] at hb ⊢
   rcases hb with hb | hb | hb
   ·exact .inl hb
   ·exact .inr (.inl hb)
   ·exact .inr (.inr (.inr hb)))
  omega
theorem zFu {α:Type} {f:α→List Value} {K:Nat} (hf:∀ a,(f a).length=K) {xs:List α} {i m c:Nat} {L B rest Z:List Value} (hn:xs.length=i+1+m) (hL:L=xs.flatMap f ++ rest) (hB:B=(xs.drop (i+1)).flatMap f) (hc:i+1+m≤c) (hl:L.length=c * K) (hZ:Z.length=K) :
  B.length=m * K∧i * K+B.length≤L.length∧(i+m) * K+K≤(L.take (i * K) ++ B ++ L.drop (i * K+B.length)).length ∧
  ((L.take (i * K) ++ B ++ L.drop (i * K+B.length)).take ((i+m) * K) ++ Z ++ (L.take (i * K) ++ B ++ L.drop (i * K+B.length)).drop ((i+m) * K+K)).length=c * K ∧
  ((L.take (i * K) ++ B ++ L.drop (i * K+B.length)).take ((i+m) * K) ++ Z ++ (L.take (i * K) ++ B ++ L.drop (i * K+B.length)).drop ((i+m) * K+K)).take ((i+m) * K)=(xs.eraseIdx i).flatMap f ∧
  ∀ j v,B[j]?=some v→L[(i+1) * K+j]?=some v:=by
 have lX:(xs.flatMap f).length=(i+1+m) * K:=(by rw [qR f K hf,hn]);have lB:B.length=m * K:=(by rw [hB,qR f K hf,List.length_drop,hn];congr 1;omega);have e1:(i+1+m) * K=i * K+K+m * K:=(by rw [Nat.add_mul,Nat.add_mul,Nat.one_mul]);have e2:(i+m) * K=i * K+m * K:=Nat.add_mul _ _ _;have e3:(i+1) * K=i * K+K:=Nat.succ_mul _ _;have hcK:=Nat.mul_le_mul_right K hc;have tA:L.take (i * K)=(xs.take i).flatMap f:=(by rw [hL,List.take_append_of_le_length (by omega),yI f K hf]);have lA:((xs.take i).flatMap f).length=i * K:=by rw [qR f K hf,List.length_take];congr 1;omega
 have l1:(L.take (i * K) ++ B ++ L.drop (i * K+B.length)).length=L.length:=(by rw [List.length_append,List.length_append,List.length_take,List.length_drop];omega);have l2:((L.take (i * K) ++ B ++ L.drop (i * K+B.length)).take ((i+m) * K)).length=(i+m) * K:=(by rw [List.length_take,l1];omega);refine ⟨lB,by omega,by omega,?_,?_,fun j v hj=>?_⟩
 ·rw [List.length_append,List.length_append,l2,hZ,List.length_drop,l1];omega
 ·rw [List.append_assoc,List.take_left' l2,tA,List.append_assoc,← List.append_assoc,List.take_left' (by rw [List.length_append,lA,lB];omega),List.eraseIdx_eq_take_drop_succ,List.flatMap_append,hB]
 ·have hj1:=(List.getElem?_eq_some_iff.1 hj).1;rw [hL,List.getElem?_append_left (by omega),← List.getElem?_drop,xU f K hf,← hB];exact hj
end
end Go.Proofs.YtfeglnpmpgipiaaGreatDoor
