/- GrwPk, part 5: ListMath, SortMath, CatMath, CatInv, CatStep, CatApart, CatFull, CatComp. -/
import Derived.Lib.IndexLaws
import GoSem.Op.String
set_option linter.unusedVariables false
set_option maxRecDepth 100000
set_option linter.unusedSimpArgs false
namespace Go.Proofs.YtfeglnpmpgipiaaGreatDoor
section
abbrev Bs:=List UInt8
def lt (a b:Bs):Prop:=Op.bytesLess a b=true
instance (a b:Bs):Decidable (lt a b):=inferInstanceAs (Decidable (_=true))
theorem lt_irrefl:∀ (a:Bs),¬ lt a a
 | []=>by simp [lt,Op.bytesLess]
 | a :: x=>by
  have:=lt_irrefl x;simp only [lt,Op.bytesLess,Bool.or_eq_true,Bool.and_eq_true,decide_eq_true_eq,beq_iff_eq] at this ⊢;rintro (h | ⟨_,h⟩)
  ·exact absurd h (by simp)
  ·exact this h
theorem lt_trans:∀ {a b c:Bs},lt a b→lt b c→lt a c
 | a,b,[],_,h=>by simp [lt,Op.bytesLess] at h
 | a,[],c :: t,h,_=>by cases a <;> simp [lt,Op.bytesLess] at h
 | [],b :: y,c :: z,_,_=>by simp [lt,Op.bytesLess]
 | a :: x,b :: y,c :: z,h,k=>by
  have ih:=@lt_trans x y z;simp only [lt,Op.bytesLess,Bool.or_eq_true,Bool.and_eq_true,decide_eq_true_eq,beq_iff_eq] at ih h k ⊢
  rcases h with h | ⟨rfl,h⟩
  ·rcases k with k | ⟨rfl,k⟩
   ·exact .inl (UInt8.lt_trans h k)
   ·exact .inl h
  ·rcases k with k | ⟨rfl,k⟩
   ·exact .inl k
   ·exact .inr ⟨rfl,ih h k⟩
theorem zCw:∀ (a b:Bs),lt a b∨a=b∨lt b a
 | [],[]=>.inr (.inl rfl)
 | [],b :: y=>.inl (by simp [lt,Op.bytesLess])
 | a :: x,[]=>.inr (.inr (by simp [lt,Op.bytesLess]))
 | a :: x,b :: y=>by
  have ih:=zCw x y;simp only [lt,Op.bytesLess,Bool.or_eq_true,Bool.and_eq_true,decide_eq_true_eq,beq_iff_eq,List.cons.injEq] at ih ⊢
  by_cases h1:a < b
  ·exact .inl (.inl h1)
  ·by_cases h2:b < a
   ·exact .inr (.inr (.inl h2))
   ·have e:a=b:=UInt8.le_antisymm (UInt8.not_lt.1 h2) (UInt8.not_lt.1 h1);subst e
    rcases ih with h | h | h
    ·exact .inl (.inr ⟨rfl,h⟩)
    ·exact .inr (.inl ⟨rfl,h⟩)
    ·exact .inr (.inr (.inr ⟨rfl,h⟩))
end
section
structure zGw {κ:Type} (l:κ→κ→Prop):Prop where
 irr:∀ a,¬ l a a
 trans:∀ {a b c},l a b→l b c→l a c
 tot:∀ a b,l a b∨a=b∨l b a
theorem zDk:zGw lt:=⟨lt_irrefl,lt_trans,zCw⟩
theorem zJs:zGw (fun a b:Int=>a < b):=⟨fun a h=>by omega,fun h k=>by omega,fun a b=>by omega⟩
section
variable {α κ:Type} (key:α→κ) (l:κ→κ→Prop) [DecidableRel l] [DecidableEq κ]
def jD (xs:List α):Prop:=xs.Pairwise fun a b=>l (key a) (key b)
def qV (xs:List α) (k:κ):Nat:=(xs.takeWhile fun x=>decide (l (key x) k)).length
def qC (xs:List α) (k:κ):Bool:=match xs[qV key l xs k]? with
 | some x=>decide (key x=k)
 | none=>false
def jN (xs:List α) (k:κ) (x:α):List α:=if qC key l xs k=true then xs.set (qV key l xs k) x else xs.take (qV key l xs k) ++ x :: xs.drop (qV key l xs k)
def zDS (xs:List α) (k:κ):List α:=if qC key l xs k=true then xs.eraseIdx (qV key l xs k) else xs
variable {key l}
omit [DecidableEq κ] in
theorem zAr (xs:List α) (k:κ):qV key l xs k≤xs.length:=by
 unfold qV;exact (List.takeWhile_prefix _).length_le
omit [DecidableEq κ] in
theorem zGZ {xs:List α} {k:κ} {j:Nat} {x:α} (hj:j < qV key l xs k) (hx:xs[j]?=some x):l (key x) k:=by
 have h1:(xs.takeWhile fun x=>decide (l (key x) k))[j]?=some x:=by
  obtain ⟨t,ht⟩:=List.takeWhile_prefix (l:=xs) (fun x=>decide (l (key x) k));rw [← ht,List.getElem?_append_left hj] at hx;exact hx
 have h2:=List.mem_of_getElem? h1
 have h3:∀ (ys:List α),x∈ys.takeWhile (fun x=>decide (l (key x) k))→decide (l (key x) k)=true:=fun ys=>by
  induction ys with
  | nil=>intro h;cases h
  | cons y ys ih =>
   intro h;rw [List.takeWhile_cons] at h
   split at h
   ·rename_i hy
    rcases List.mem_cons.1 h with e | h
    ·rw [e];exact hy
    ·exact ih h
   ·cases h
 exact of_decide_eq_true (h3 xs h2)
omit [DecidableEq κ] in
theorem zGO {xs:List α} {k:κ} {x:α} (hx:xs[qV key l xs k]?=some x):¬ l (key x) k:=by
 unfold qV at hx
 induction xs with
 | nil=>cases hx
 | cons y ys ih =>
  rw [List.takeWhile_cons] at hx
  split at hx
  ·exact ih (by simpa using hx)
  ·rename_i hy
   simp at hx
   subst hx
   simpa using hy
variable (L:zGw l)
include L
omit [DecidableEq κ] in

theorem zEW {xs:List α} (hs:jD key l xs) {k:κ} {j:Nat} {x:α} (hj:qV key l xs k≤j) (hx:xs[j]?=some x):¬ l (key x) k:=by
 intro hl;obtain ⟨hjl,hxe⟩:=List.getElem?_eq_some_iff.1 hx;have hp:qV key l xs k < xs.length:=(by omega);have h0:=zGO (List.getElem?_eq_getElem hp)
 rcases Nat.eq_or_lt_of_le hj with h | h
 ·subst h;subst hxe;exact h0 hl
 ·have h1:=List.pairwise_iff_getElem.1 hs _ _ hp hjl h;rw [hxe] at h1;exact h0 (L.trans h1 hl)
omit [DecidableEq κ] in
theorem zBM {xs:List α} (hs:jD key l xs) {k:κ} {n:Nat} (hn:n≤xs.length) (h1:∀ x,0 < n→xs[n - 1]?=some x→l (key x) k) (h2:∀ x,xs[n]?=some x→¬ l (key x) k):qV key l xs k=n:=by
 have hp:=zAr (key:=key) (l:=l) xs k
 rcases Nat.lt_trichotomy (qV key l xs k) n with h | h | h
 ·have hl:qV key l xs k < xs.length:=(by omega);have h3:=zGO (List.getElem?_eq_getElem hl);obtain ⟨y,hy⟩:∃ y,xs[n - 1]?=some y:=⟨_,List.getElem?_eq_getElem (by omega)⟩;have h4:=h1 y (by omega) hy;exact absurd h4 (zEW L hs (by omega) hy)
 ·exact h
 ·obtain ⟨y,hy⟩:∃ y,xs[n]?=some y:=⟨_,List.getElem?_eq_getElem (by omega)⟩;exact absurd (zGZ h hy) (h2 y hy)
theorem vG {xs:List α} (hs:jD key l xs) {k:κ}:qC key l xs k=true↔∃ x∈xs,key x=k:=by
 unfold qC
 constructor
 ·intro h
  split at h
  ·rename_i x hx
   exact ⟨x,List.mem_of_getElem? hx,of_decide_eq_true h⟩
  ·cases h
 ·rintro ⟨x,hx,hk⟩;obtain ⟨j,hj⟩:=List.mem_iff_getElem?.1 hx
  have h0:qV key l xs k=j:=zBM L hs (by have:=(List.getElem?_eq_some_iff.1 hj).1;omega) (fun y h0 hy=>by
   obtain ⟨h1,h2⟩:=List.getElem?_eq_some_iff.1 hj;obtain ⟨h3,h4⟩:=List.getElem?_eq_some_iff.1 hy;have h5:=List.pairwise_iff_getElem.1 hs _ _ h3 h1 (by omega);rw [h2,h4,hk] at h5
   exact h5) (fun y hy=>by rw [hj] at hy;cases hy;rw [hk];exact L.irr k)
  rw [h0,hj]
  simpa using hk
omit L in
theorem jQ {xs:List α} {k:κ} (h:qC key l xs k=true):∃ x,xs[qV key l xs k]?=some x∧key x=k:=by
 unfold qC at h
 split at h
 ·rename_i x hx
  exact ⟨x,hx,of_decide_eq_true h⟩
 ·cases h
omit [DecidableEq κ] [DecidableRel l] in
theorem zAh {xs:List α} (hs:jD key l xs) {i j:Nat} {x y:α} (hx:xs[i]?=some x) (hy:xs[j]?=some y) (h:key x=key y):i=j:=by
 obtain ⟨h1,h2⟩:=List.getElem?_eq_some_iff.1 hx;obtain ⟨h3,h4⟩:=List.getElem?_eq_some_iff.1 hy
 rcases Nat.lt_trichotomy i j with hl | hl | hl
 ·have h5:=List.pairwise_iff_getElem.1 hs _ _ h1 h3 hl;rw [h2,h4,h] at h5;exact absurd h5 (L.irr _)
 ·exact hl
 ·have h5:=List.pairwise_iff_getElem.1 hs _ _ h3 h1 hl;rw [h2,h4,h] at h5;exact absurd h5 (L.irr _)
omit [DecidableEq κ] [DecidableRel l] in
theorem zDF {xs:List α} (hs:jD key l xs) {x y:α} (hx:x∈xs) (hy:y∈xs) (h:key x=key y):x=y:=by
 obtain ⟨i,hi⟩:=List.mem_iff_getElem?.1 hx;obtain ⟨j,hj⟩:=List.mem_iff_getElem?.1 hy;have:=zAh L hs hi hj h;subst this;rw [hi] at hj;exact Option.some.inj hj
omit L [DecidableEq κ] [DecidableRel l] in
theorem zCA {xs ys:List α}:jD key l (xs ++ ys)↔jD key l xs∧jD key l ys∧∀ x∈xs,∀ y∈ys,l (key x) (key y):=List.pairwise_append
theorem zAS {xs:List α} (hs:jD key l xs) {k:κ} {x:α} (hk:key x=k):jD key l (jN key l xs k x):=by
 unfold jN
 have hlt:∀ y∈xs.take (qV key l xs k),l (key y) k:=fun y hy=>by
  obtain ⟨j,hj⟩:=List.mem_iff_getElem?.1 hy;rw [List.getElem?_take] at hj
  split at hj
  ·exact zGZ (by assumption) hj
  ·cases hj
 have hge:∀ (n:Nat),qV key l xs k≤n→(∀ y,xs[n]?=some y→key y≠k)→(∀ y∈xs.drop n,l k (key y)):=fun n hn hne y hy=>by
  obtain ⟨j,hj⟩:=List.mem_iff_getElem?.1 hy;rw [List.getElem?_drop] at hj;have h1:¬ l (key y) k:=zEW L hs (k:=k) (Nat.le_trans hn (Nat.le_add_right n j)) hj
  rcases L.tot (key y) k with h | h | h
  ·exact absurd h h1
  ·exfalso
   have hp:xs[n]?≠none:=fun e=>by
    have:=List.getElem?_eq_none_iff.1 e;have:=(List.getElem?_eq_some_iff.1 hj).1;omega
   obtain ⟨z,hz⟩:∃ z,xs[n]?=some z:=Option.ne_none_iff_exists'.1 hp;have h2:=zEW L hs hn hz
   by_cases h0:j=0
   ·subst h0;rw [Nat.add_zero] at hj;exact hne y hj h
   ·obtain ⟨h3,h4⟩:=List.getElem?_eq_some_iff.1 hz;obtain ⟨h5,h6⟩:=List.getElem?_eq_some_iff.1 hj;have h7:=List.pairwise_iff_getElem.1 hs _ _ h3 h5 (by omega);rw [h4,h6,h] at h7;exact h2 h7
  ·exact h
 split
 ·rename_i ht
  obtain ⟨y,hy,hyk⟩:=jQ ht;obtain ⟨hlen,hye⟩:=List.getElem?_eq_some_iff.1 hy;rw [List.set_eq_take_append_cons_drop,if_pos hlen];have hs2:=hs;rw [← List.take_append_drop (qV key l xs k) xs,List.drop_eq_getElem_cons hlen,hye] at hs2;obtain ⟨p1,p2,p3⟩:=zCA.1 hs2;refine zCA.2 ⟨p1,List.Pairwise.cons (fun z hz=>?_) (List.pairwise_cons.1 p2).2,fun u hu v hv=>?_⟩
  ·rw [hk,← hyk];exact (List.pairwise_cons.1 p2).1 z hz
  ·rcases List.mem_cons.1 hv with rfl | hv
   ·rw [hk];exact hlt u hu
   ·exact p3 u hu v (List.mem_cons_of_mem _ hv)
 ·rename_i ht
  have hnk:∀ y,xs[qV key l xs k]?=some y→key y≠k:=fun y hy e=>ht ((vG L hs).2 ⟨y,List.mem_of_getElem? hy,e⟩);have hs2:=hs;rw [← List.take_append_drop (qV key l xs k) xs] at hs2;obtain ⟨p1,p2,p3⟩:=zCA.1 hs2;refine zCA.2 ⟨p1,List.Pairwise.cons (fun z hz=>?_) p2,fun u hu v hv=>?_⟩
  ·rw [hk];exact hge _ (Nat.le_refl _) hnk z hz
  ·rcases List.mem_cons.1 hv with rfl | hv
   ·rw [hk];exact hlt u hu
   ·exact p3 u hu v hv
theorem zBf {xs:List α} (hs:jD key l xs) (k:κ):zDS key l xs k=xs.filter (fun x=>decide (key x≠k)):=by
 unfold zDS
 split
 ·rename_i ht
  obtain ⟨y,hy,hyk⟩:=jQ ht;obtain ⟨hlen,hye⟩:=List.getElem?_eq_some_iff.1 hy;rw [List.eraseIdx_eq_take_drop_succ]
  conv=>rhs;rw [← List.take_append_drop (qV key l xs k) xs,List.drop_eq_getElem_cons hlen,hye]
  rw [List.filter_append,List.filter_cons_of_neg (by simp [hyk])]
  congr 1
  ·refine (List.filter_eq_self.2 fun x hx=>?_).symm;obtain ⟨j,hj⟩:=List.mem_iff_getElem?.1 hx;rw [List.getElem?_take] at hj
   split at hj
   ·rename_i hjl
    refine decide_eq_true fun e=>?_;have:=zAh L hs hj hy (e.trans hyk.symm);omega
   ·cases hj
  ·refine (List.filter_eq_self.2 fun x hx=>?_).symm;obtain ⟨j,hj⟩:=List.mem_iff_getElem?.1 hx;rw [List.getElem?_drop] at hj;refine decide_eq_true fun e=>?_;have:=zAh L hs hj hy (e.trans hyk.symm);omega
 ·rename_i ht
  refine (List.filter_eq_self.2 fun x hx=>?_).symm;exact decide_eq_true (p:=key x≠k) fun e=>ht ((vG L hs).2 ⟨x,hx,e⟩)
theorem zII {xs:List α} (hs:jD key l xs) (k:κ):jD key l (zDS key l xs k):=by
 rw [zBf L hs];exact hs.filter _
theorem zBr {xs:List α} (hs:jD key l xs) {k:κ} {x:α} (hk:key x=k) (y:α):y∈jN key l xs k x↔y=x∨(y∈xs∧key y≠k):=by
 unfold jN
 split
 ·rename_i ht
  obtain ⟨z,hz,hzk⟩:=jQ ht
  constructor
  ·intro h;obtain ⟨j,hj⟩:=List.mem_iff_getElem?.1 h;rw [List.getElem?_set] at hj
   split at hj
   ·split at hj
    ·exact .inl (Option.some.inj hj).symm
    ·cases hj
   ·rename_i hne
    refine .inr ⟨List.mem_of_getElem? hj,fun e=>hne ?_⟩;exact (zAh L hs hj hz (e.trans hzk.symm)).symm
  ·have hlen:=(List.getElem?_eq_some_iff.1 hz).1;rintro (rfl | ⟨hy,hne⟩)
   ·exact List.mem_iff_getElem?.2 ⟨qV key l xs k,by rw [List.getElem?_set_self hlen]⟩
   ·obtain ⟨j,hj⟩:=List.mem_iff_getElem?.1 hy;refine List.mem_iff_getElem?.2 ⟨j,?_⟩;rw [List.getElem?_set_ne (fun e=>hne (by rw [e,hj] at hz;cases hz;exact hzk)),hj]
 ·rename_i ht
  rw [List.mem_append,List.mem_cons]
  have hm:y∈xs↔y∈xs.take (qV key l xs k)∨y∈xs.drop (qV key l xs k):=by
   conv=>lhs;rw [← List.take_append_drop (qV key l xs k) xs]
   rw [List.mem_append]
  constructor
  ·rintro (h | h | h)
   ·exact .inr ⟨hm.2 (.inl h),fun e=>ht ((vG L hs).2 ⟨y,hm.2 (.inl h),e⟩)⟩
   ·exact .inl h
   ·exact .inr ⟨hm.2 (.inr h),fun e=>ht ((vG L hs).2 ⟨y,hm.2 (.inr h),e⟩)⟩
  ·rintro (h | ⟨h,-⟩)
   ·exact .inr (.inl h)
   ·exact (hm.1 h).imp id .inr
omit L in
theorem zBh (xs:List α) (k:κ) (x:α):(jN key l xs k x).length=if qC key l xs k=true then xs.length else xs.length+1:=by
 unfold jN
 split
 ·simp
 ·have:=zAr (key:=key) (l:=l) xs k
  simp
  omega
end
end
section
structure Cid where
 node:Int
 boot:Int
 seq:Int
 deriving DecidableEq
structure Pc where
 blob:Cid
 size:Int
 etag:Bs
 deriving DecidableEq
structure zAd where
 key:Bs
 size:Int
 etag:Bs
 time:Int
 pcs:List Pc
 deriving DecidableEq
structure qU where
 num:Int
 pc:Pc
 deriving DecidableEq
structure zAH where
 id:Cid
 key:Bs
 parts:List qU
 deriving DecidableEq
structure jE where
 name:Bs
 time:Int
 days:Int
 vC:List zAd
 xE:List zAH
 deriving DecidableEq
structure Cat where
 qJ:List jE
 zAW:List Cid
 deriving DecidableEq
structure Cmd where
 kind:Int
 id:Cid
 bucket:Bs
 key:Bs
 upload:Cid
 piece:Pc
 part:Int
 parts:List Int
 time:Int
 days:Int
 deriving DecidableEq
structure yA where
 code:Int
 etag:Bs
 deriving DecidableEq
def ltI (a b:Cid):Prop:=a.node < b.node∨(a.node=b.node∧(a.boot < b.boot∨(a.boot=b.boot∧a.seq < b.seq)))
instance (a b:Cid):Decidable (ltI a b):=inferInstanceAs (Decidable (_∨_))
theorem zFo:zGw ltI:=by
 refine ⟨fun a h=>?_,fun {a b c} h k=>?_,fun a b=>?_⟩
 ·unfold ltI at h;omega
 ·unfold ltI at h k ⊢;omega
 ·unfold ltI
  cases a with | mk n1 b1 s1=>cases b with | mk n2 b2 s2 =>
  simp only [Cid.mk.injEq];omega
def ltZ (a b:Int):Prop:=a < b
instance (a b:Int):Decidable (ltZ a b):=inferInstanceAs (Decidable (a < b))
theorem zBB:zGw ltZ:=zJs
section
variable (sm:List Pc→Bs)
def zAF (b:jE) (o:zAd):jE × yA :=
 if qC zAd.key lt b.vC o.key=false∧128≤b.vC.length then (b,⟨7,[]⟩)
 else ({ b with vC:=jN zAd.key lt b.vC o.key o },⟨0,o.etag⟩)
def gather (ps:List qU):List Int→Option (List Pc)
 | []=>some []
 | n :: ns=>match ps.find? (fun p=>decide (p.num=n)) with
  | none=>none
  | some p=>(gather ps ns).map (p.pc :: ·)
def sizes (l:List Pc):Int:=(l.map Pc.size).sum
def vU (b:jE) (i:Nat) (u:zAH) (x:Cmd):jE × yA :=
 if x.kind=6 then ({ b with xE:=b.xE.set i { u with parts:=jN qU.num ltZ u.parts x.part ⟨x.part,x.piece⟩ } },⟨0,x.piece.etag⟩)
 else if x.kind=8 then ({ b with xE:=b.xE.eraseIdx i },⟨0,[]⟩)
 else match gather u.parts x.parts with
  | none=>(b,⟨6,[]⟩)
  | some l =>
   let r:=zAF b ⟨x.key,sizes l,sm l,x.time,l⟩
   if r.2.code=0 then ({ r.1 with xE:=b.xE.eraseIdx i },r.2) else r
def jA (b:jE) (x:Cmd):jE × yA :=
 if x.kind=3 then zAF b ⟨x.key,x.piece.size,x.piece.etag,x.time,[x.piece]⟩
 else if x.kind=4 then ({ b with vC:=zDS zAd.key lt b.vC x.key },⟨0,[]⟩)
 else if x.kind=5 then (if 16≤b.xE.length then (b,⟨7,[]⟩) else ({ b with xE:=jN zAH.id ltI b.xE x.id ⟨x.id,x.key,[]⟩ },⟨0,[]⟩))
 else if x.kind=9 then ({ b with days:=x.days },⟨0,[]⟩)
 else match b.xE[qV zAH.id ltI b.xE x.upload]? with
  | none=>(b,⟨3,[]⟩)
  | some u=>if u.id=x.upload∧u.key=x.key then vU sm b (qV zAH.id ltI b.xE x.upload) u x else (b,⟨3,[]⟩)
def old (b:jE) (now:Int) (o:zAd):Bool:=decide (o.time+b.days≤now)
def vT (now:Int) (b:jE):jE:=if b.days=0 then b else { b with vC:=b.vC.filter (fun o=>!old b now o) }
def zAb (fs:List Cid) (id:Cid):List Cid:=match fs[qV Cid.node ltZ fs id.node]? with
 | none=>jN Cid.node ltZ fs id.node id
 | some f=>if f.node=id.node∧¬ ltI f id then fs else jN Cid.node ltZ fs id.node id
def apply (c:Cat) (x:Cmd):Cat × yA :=
 if x.kind=1 then
  (if qC jE.name lt c.qJ x.bucket=true then (c,⟨4,[]⟩)
   else if 16≤c.qJ.length then (c,⟨7,[]⟩)
   else ({ c with qJ:=jN jE.name lt c.qJ x.bucket ⟨x.bucket,x.time,0,[],[]⟩ },⟨0,[]⟩))
 else if x.kind=10 then ({ c with qJ:=c.qJ.map (vT x.time) },⟨0,[]⟩)
 else if x.kind=11 then ({ c with zAW:=zAb c.zAW x.id },⟨0,[]⟩)
 else match c.qJ[qV jE.name lt c.qJ x.bucket]? with
  | none=>(c,⟨1,[]⟩)
  | some b =>
   if b.name≠x.bucket then (c,⟨1,[]⟩)
   else if x.kind=2 then
    (if 0 < b.vC.length+b.xE.length then (c,⟨5,[]⟩) else ({ c with qJ:=c.qJ.eraseIdx (qV jE.name lt c.qJ x.bucket) },⟨0,[]⟩))
   else ({ c with qJ:=c.qJ.set (qV jE.name lt c.qJ x.bucket) (jA sm b x).1 },(jA sm b x).2)
end
end
section
structure zDb (p:Pc):Prop where
 lo:0≤p.size
 hi:p.size≤1024
 et:p.etag.length=64
structure zJF (o:zAd):Prop where
 key:o.key.length≤200
 et:o.etag.length≤100
 lo:0≤o.time
 hi:o.time≤1099511627776
 ne:o.pcs≠[]
 len:o.pcs.length≤16
 pcs:∀ p∈o.pcs,zDb p
 size:o.size=sizes o.pcs
structure zCf (u:zAH):Prop where
 key:u.key.length≤200
 sort:jD qU.num ltZ u.parts
 parts:∀ p∈u.parts,1≤p.num∧p.num≤16∧zDb p.pc
structure yO (b:jE):Prop where
 name:b.name.length≤63
 tlo:0≤b.time
 thi:b.time≤1099511627776
 dlo:0≤b.days
 dhi:b.days≤1099511627776
 os:jD zAd.key lt b.vC
 ol:b.vC.length≤128
 ob:∀ o∈b.vC,zJF o
 us:jD zAH.id ltI b.xE
 ul:b.xE.length≤16
 up:∀ u∈b.xE,zCf u
structure xS (c:Cat):Prop where
 bs:jD jE.name lt c.qJ
 bl:c.qJ.length≤16
 bk:∀ b∈c.qJ,yO b
 fs:jD Cid.node ltZ c.zAW
 fl:∀ f∈c.zAW,0≤f.node∧f.node≤15
structure xJ (x:Cmd):Prop where
 klo:1≤x.kind
 khi:x.kind≤11
 nlo:0≤x.id.node
 nhi:x.id.node≤15
 buck:x.bucket.length≤63
 key:x.key.length≤200
 pc:x.kind=3∨x.kind=6→zDb x.piece
 part:x.kind=6→1≤x.part∧x.part≤16
 pne:x.kind=7→x.parts≠[]
 prt:x.kind=7→x.parts.Pairwise (· < ·)∧∀ n∈x.parts,1≤n∧n≤16
 tlo:0≤x.time
 thi:x.time≤1099511627776
 dlo:0≤x.days
 dhi:x.days≤1099511627776
theorem zEE {fs:List Cid} (hs:jD Cid.node ltZ fs) (id:Cid):zAb fs id=if ∃ f∈fs,f.node=id.node∧¬ ltI f id then fs else jN Cid.node ltZ fs id.node id:=by
 unfold zAb
 cases hp:fs[qV Cid.node ltZ fs id.node]? with
 | none =>
  have hnt:¬ qC Cid.node ltZ fs id.node=true:=fun h=>by
   obtain ⟨y,hy,_⟩:=jQ h;rw [hp] at hy;cases hy
  rw [if_neg];rintro ⟨f,hf,hn,_⟩;exact hnt ((vG zBB hs).2 ⟨f,hf,hn⟩)
 | some f =>
  dsimp only
  by_cases h:f.node=id.node∧¬ ltI f id
  ·rw [if_pos h,if_pos ⟨f,List.mem_of_getElem? hp,h⟩]
  ·rw [if_neg h,if_neg];rintro ⟨g,hg,hn,hl⟩;have ht:=(vG zBB hs).2 ⟨g,hg,hn⟩;obtain ⟨y,hy,hyn⟩:=jQ ht;rw [hp] at hy
   cases hy
   have:=zDF zBB hs hg (List.mem_of_getElem? hp) (hn.trans hyn.symm);subst this;exact h ⟨hn,hl⟩
theorem zFX {fs:List Cid} (hs:jD Cid.node ltZ fs) (id:Cid):jD Cid.node ltZ (zAb fs id):=by
 rw [zEE hs]
 split
 ·exact hs
 ·exact zAS zBB hs rfl
end
section
theorem zCm (p:Pc) (l:List Pc):sizes (p :: l)=p.size+sizes l:=by simp [sizes]
theorem zGp:sizes []=0:=rfl
theorem zHb (a b:List Pc):sizes (a ++ b)=sizes a+sizes b:=by simp [sizes]
theorem zCR:∀ (l:List Pc),(∀ p∈l,zDb p)→0≤sizes l∧sizes l≤1024 * l.length
 | [],_=>by simp [sizes]
 | p :: l,h=>by
  have h1:=h p (List.mem_cons_self ..);have h2:=zCR l (fun q hq=>h q (List.mem_cons_of_mem _ hq));have h3:=h1.lo;have h4:=h1.hi;rw [zCm,List.length_cons];omega
theorem zAa {ps:List qU}:∀ {ns:List Int} {l:List Pc},gather ps ns=some l→l.length=ns.length∧∀ p∈l,∃ q∈ps,q.pc=p
 | [],l,h=>by cases h;simp
 | n :: ns,l,h=>by
  unfold gather at h
  cases hf:ps.find? (fun p=>decide (p.num=n)) with
  | none=>rw [hf] at h;cases h
  | some p =>
   rw [hf] at h;dsimp only at h
   cases hg:gather ps ns with
   | none=>rw [hg] at h;cases h
   | some l' =>
    rw [hg] at h
    cases h
    obtain ⟨h1,h2⟩:=zAa hg;refine ⟨by simp [h1],fun q hq=>?_⟩
    rcases List.mem_cons.1 hq with rfl | hq
    ·exact ⟨p,List.mem_of_find?_eq_some hf,rfl⟩
    ·exact h2 q hq
theorem zCG {ns:List Int} (h1:ns.Pairwise (· < ·)) (h2:∀ n∈ns,1≤n∧n≤16):ns.length≤16:=by
 have:∀ (ns:List Int) (a:Int),ns.Pairwise (· < ·)→(∀ n∈ns,a≤n∧n≤16)→a≤17→(ns.length:Int)≤17 - a:=fun ns=>by
  induction ns with
  | nil=>intro a _ _ h;simp;omega
  | cons n ns ih =>
   intro a hp hb ha;obtain ⟨h3,h4⟩:=List.pairwise_cons.1 hp;have h5:=hb n (List.mem_cons_self ..);have h6:=ih (n+1) h4 (fun m hm=>⟨by have:=h3 m hm;omega,(hb m (List.mem_cons_of_mem _ hm)).2⟩) (by omega);rw [List.length_cons];omega
 have:=this ns 1 h1 h2 (by omega);omega
theorem zBZ {α:Type} {key:α→Int} {xs:List α} {lo hi:Int} (hs:jD key ltZ xs) (hb:∀ x∈xs,lo≤key x∧key x≤hi) (hl:lo≤hi+1):(xs.length:Int)≤hi+1 - lo:=by
 induction xs generalizing lo with
 | nil=>simp;omega
 | cons x xs ih =>
  obtain ⟨h1,h2⟩:=List.pairwise_cons.1 hs;have h3:=hb x (List.mem_cons_self ..);have:=ih (lo:=key x+1) h2 (fun y hy=>⟨by have:=h1 y hy;unfold ltZ at this;omega,(hb y (List.mem_cons_of_mem _ hy)).2⟩) (by omega);rw [List.length_cons];omega
theorem zCf.len {u:zAH} (h:zCf u):u.parts.length≤16:=by
 have:=zBZ (lo:=1) (hi:=16) h.sort (fun p hp=>⟨(h.parts p hp).1,(h.parts p hp).2.1⟩) (by omega);omega
theorem xS.zJd {c:Cat} (h:xS c):c.zAW.length≤16:=by
 have:=zBZ (lo:=0) (hi:=15) h.fs h.fl (by omega);omega
section
variable (sm:List Pc→Bs)
theorem zHB (b:jE) (o:zAd):(zAF b o).2.code=7∨((zAF b o).2.code=0∧(zAF b o).2.etag=o.etag):=by
 unfold zAF
 split
 ·exact .inl rfl
 ·exact .inr ⟨rfl,rfl⟩
theorem zEy {bs:List jE} {k:Bs}:(qC jE.name lt bs k=true↔∃ b,bs[qV jE.name lt bs k]?=some b∧b.name=k):=by
 constructor
 ·exact jQ
 ·rintro ⟨b,hb,hk⟩;unfold qC;rw [hb];exact decide_eq_true hk
theorem zGQ {b:jE} (h:yO b) {o:zAd} (ho:zJF o):yO (zAF b o).1:=by
 unfold zAF
 split
 ·exact h
 ·rename_i hn
  refine ⟨h.name,h.tlo,h.thi,h.dlo,h.dhi,zAS zDk h.os rfl,?_,fun y hy=>?_,h.us,h.ul,h.up⟩
  ·show (jN zAd.key lt b.vC o.key o).length≤128;rw [zBh];have:=h.ol
   split
   ·exact this
   ·rename_i ht
    have:¬ 128≤b.vC.length:=fun e=>hn ⟨by simpa using ht,e⟩;omega
  ·rcases (zBr zDk h.os rfl y).1 hy with rfl | ⟨hm,_⟩
   ·exact ho
   ·exact h.ob y hm
theorem zCC {b:jE} (h:yO b) {us:List zAH} (h1:jD zAH.id ltI us) (h2:us.length≤16) (h3:∀ u∈us,zCf u):yO { b with xE:=us } :=
 ⟨h.name,h.tlo,h.thi,h.dlo,h.dhi,h.os,h.ol,h.ob,h1,h2,h3⟩
theorem zFT {b:jE} (h:yO b) (i:Nat):jD zAH.id ltI (b.xE.eraseIdx i)∧(b.xE.eraseIdx i).length≤16∧∀ u∈b.xE.eraseIdx i,zCf u :=
 ⟨List.Pairwise.sublist (List.eraseIdx_sublist ..) h.us,by have:=(List.eraseIdx_sublist b.xE i).length_le;have:=h.ul;omega,fun u hu=>h.up u ((List.eraseIdx_sublist b.xE i).subset hu)⟩
theorem zJH {us:List zAH} {i:Nat} {u v:zAH} (hs:jD zAH.id ltI us) (hi:us[i]?=some u) (hv:v.id=u.id):jD zAH.id ltI (us.set i v):=by
 have hp:qV zAH.id ltI us u.id=i:=by
  have ht:=(vG zFo hs).2 ⟨u,List.mem_of_getElem? hi,rfl⟩;obtain ⟨y,hy,hyk⟩:=jQ ht;exact zAh zFo hs hy hi hyk
 have ht:=(vG zFo hs).2 ⟨u,List.mem_of_getElem? hi,rfl⟩;have:us.set i v=jN zAH.id ltI us u.id v:=(by unfold jN;rw [if_pos ht,hp]);rw [this];exact zAS zFo hs hv
theorem zCI (b:jE) (o:zAd):(zAF b o).1.name=b.name:=by unfold zAF;split <;> rfl
theorem zFJ (b:jE) (x:Cmd):(jA sm b x).1.name=b.name:=by
 unfold jA
 split
 ·exact zCI _ _
 split
 ·rfl
 split
 ·split <;> rfl
 split
 ·rfl
 split
 ·rfl
 ·split
  ·unfold vU
   split
   ·rfl
   split
   ·rfl
   ·split
    ·rfl
    ·dsimp only
     split
     ·exact zCI _ _
     ·exact zCI _ _
  ·rfl
theorem zHK (hsm:∀ l:List Pc,l.length≤16→(sm l).length≤100) {b:jE} (h:yO b) {x:Cmd} (hx:xJ x) (hk:x.kind≠1∧x.kind≠2∧x.kind≠10∧x.kind≠11):yO (jA sm b x).1:=by
 unfold jA
 split
 ·rename_i k3
  have hp:=hx.pc (.inl k3);exact zGQ h ⟨hx.key,by show x.piece.etag.length≤100;rw [hp.et];omega,hx.tlo,hx.thi,by simp,by simp,fun p hp'=>by rw [List.mem_singleton.1 hp'];exact hp,by simp [sizes]⟩
 split
 ·refine ⟨h.name,h.tlo,h.thi,h.dlo,h.dhi,zII zDk h.os _,?_,fun o ho=>?_,h.us,h.ul,h.up⟩
  ·show (zDS zAd.key lt b.vC x.key).length≤128;rw [zBf zDk h.os];have:=List.length_filter_le (fun o:zAd=>decide (o.key≠x.key)) b.vC;have:=h.ol;omega
  ·have:o∈zDS zAd.key lt b.vC x.key:=ho;rw [zBf zDk h.os] at this;exact h.ob o (List.mem_filter.1 this).1
 split
 ·split
  ·exact h
  ·rename_i hn
   refine zCC h (zAS zFo h.us rfl) ?_ (fun u hu=>?_)
   ·rw [zBh];split <;> omega
   ·rcases (zBr zFo h.us (k:=x.id) (x:=⟨x.id,x.key,[]⟩) rfl u).1 hu with rfl | ⟨hm,_⟩
    ·exact ⟨hx.key,List.Pairwise.nil,by simp⟩
    ·exact h.up u hm
 split
 ·exact ⟨h.name,h.tlo,h.thi,hx.dlo,hx.dhi,h.os,h.ol,h.ob,h.us,h.ul,h.up⟩
 split
 ·exact h
 ·rename_i k3 k4 k5 k9 _ u hu
  split
  ·rename_i hid
   have hmu:=h.up u (List.mem_of_getElem? hu);unfold vU
   split
   ·rename_i k6
    refine zCC h (zJH h.us hu rfl) (by rw [List.length_set];exact h.ul) (fun v hv=>?_);obtain ⟨j,hj⟩:=List.mem_iff_getElem?.1 hv;rw [List.getElem?_set] at hj
    split at hj
    ·split at hj
     ·cases hj
      refine ⟨hmu.key,zAS zBB hmu.sort rfl,fun p hp=>?_⟩
      rcases (zBr zBB hmu.sort (k:=x.part) (x:=⟨x.part,x.piece⟩) rfl p).1 hp with rfl | ⟨hm,_⟩
      ·exact ⟨(hx.part k6).1,(hx.part k6).2,hx.pc (.inr k6)⟩
      ·exact hmu.parts p hm
     ·cases hj
    ·exact h.up v (List.mem_of_getElem? hj)
   split
   ·obtain ⟨e1,e2,e3⟩:=zFT h (qV zAH.id ltI b.xE x.upload);exact zCC h e1 e2 e3
   ·cases hg:gather u.parts x.parts with
    | none=>exact h
    | some l =>
     rename_i k6 k8
     have hk7:x.kind=7:=(by have:=hx.klo;have:=hx.khi;omega);obtain ⟨g1,g2⟩:=zAa hg
     have hpl:∀ p∈l,zDb p:=fun p hp=>by
      obtain ⟨q,hq,rfl⟩:=g2 p hp;exact (hmu.parts q hq).2.2
     dsimp only
     split
     ·rename_i hc
      ·have hlen:l.length≤16:=(by rw [g1];exact zCG (hx.prt hk7).1 (hx.prt hk7).2);have hne:l≠[]:=fun e=>hx.pne hk7 (by rw [e] at g1;exact List.eq_nil_of_length_eq_zero g1.symm);have hb:=zGQ h (o:=⟨x.key,sizes l,sm l,x.time,l⟩) ⟨hx.key,hsm l hlen,hx.tlo,hx.thi,hne,hlen,hpl,rfl⟩;have hu:(zAF b ⟨x.key,sizes l,sm l,x.time,l⟩).1.xE=b.xE:=(by unfold zAF;split <;> rfl);obtain ⟨e1,e2,e3⟩:=zFT h (qV zAH.id ltI b.xE x.upload);exact zCC hb e1 e2 e3
     ·rename_i hc
      have:(zAF b ⟨x.key,sizes l,sm l,x.time,l⟩).1=b:=by
       unfold zAF at hc ⊢
       split
       ·rfl
       ·rename_i hn;rw [if_neg hn] at hc;exact absurd rfl hc
      rw [this];exact h
  ·exact h
theorem zIN (hsm:∀ l:List Pc,l.length≤16→(sm l).length≤100) {c:Cat} (h:xS c) {x:Cmd} (hx:xJ x):xS (apply sm c x).1:=by
 unfold apply
 split
 ·rename_i k1
  split
  ·exact h
  split
  ·exact h
  ·refine ⟨zAS zDk h.bs rfl,?_,fun b hb=>?_,h.fs,h.fl⟩
   ·show (jN jE.name lt c.qJ x.bucket _).length≤16;rw [zBh]
    split <;> omega
   ·rcases (zBr zDk h.bs (k:=x.bucket) (x:=⟨x.bucket,x.time,0,[],[]⟩) rfl b).1 hb with rfl | ⟨hm,_⟩
    ·exact ⟨hx.buck,hx.tlo,hx.thi,by show (0:Int)≤0;omega,by show (0:Int)≤1099511627776;omega,List.Pairwise.nil,by simp,by simp,List.Pairwise.nil,by simp,by simp⟩
    ·exact h.bk b hm
 split
 ·refine ⟨?_,by show (c.qJ.map _).length≤16;rw [List.length_map];exact h.bl,fun b hb=>?_,h.fs,h.fl⟩
  ·refine List.pairwise_map.2 (h.bs.imp fun {a b} hab=>?_);have e:∀ b:jE,(vT x.time b).name=b.name:=fun b=>(by unfold vT;split <;> rfl);rw [e,e];exact hab
  ·obtain ⟨b',hb',rfl⟩:=List.mem_map.1 hb;have h':=h.bk b' hb';unfold vT
   split
   ·exact h'
   ·refine ⟨h'.name,h'.tlo,h'.thi,h'.dlo,h'.dhi,h'.os.filter _,?_,fun o ho=>h'.ob o (List.mem_filter.1 ho).1,h'.us,h'.ul,h'.up⟩;have:=List.length_filter_le (fun o=>!old b' x.time o) b'.vC;have:=h'.ol;show (b'.vC.filter _).length≤128;omega
 split
 ·refine ⟨h.bs,h.bl,h.bk,zFX h.fs x.id,fun f hf=>?_⟩;have hf':f∈zAb c.zAW x.id:=hf;rw [zEE h.fs] at hf'
  split at hf'
  ·exact h.fl f hf'
  ·rcases (zBr zBB h.fs rfl f).1 hf' with rfl | ⟨hm,_⟩
   ·exact ⟨hx.nlo,hx.nhi⟩
   ·exact h.fl f hm
 split
 ·exact h
 ·rename_i k1 k10 k11 _ b hb
  split
  ·exact h
  split
  ·split
   ·exact h
   ·exact ⟨List.Pairwise.sublist (List.eraseIdx_sublist ..) h.bs,by have:=(List.eraseIdx_sublist c.qJ (qV jE.name lt c.qJ x.bucket)).length_le;have:=h.bl;show (c.qJ.eraseIdx _).length≤16;omega,fun b hb=>h.bk b ((List.eraseIdx_sublist ..).subset hb),h.fs,h.fl⟩
  ·rename_i hn k2
   have hin:=zHK sm hsm (h.bk b (List.mem_of_getElem? hb)) hx ⟨k1,k2,k10,k11⟩;have hnm:(jA sm b x).1.name=b.name:=zFJ sm b x;refine ⟨?_,by show (c.qJ.set _ _).length≤16;rw [List.length_set];exact h.bl,fun v hv=>?_,h.fs,h.fl⟩
   ·have hbn:b.name=x.bucket:=Decidable.byContradiction hn;have ht:qC jE.name lt c.qJ x.bucket=true:=zEy.2 ⟨b,hb,hbn⟩;have:c.qJ.set (qV jE.name lt c.qJ x.bucket) (jA sm b x).1=jN jE.name lt c.qJ x.bucket (jA sm b x).1:=(by unfold jN;rw [if_pos ht]);show jD jE.name lt (c.qJ.set _ _);rw [this];exact zAS zDk h.bs (hnm.trans hbn)
   ·obtain ⟨j,hj⟩:=List.mem_iff_getElem?.1 hv;have hj':(c.qJ.set (qV jE.name lt c.qJ x.bucket) (jA sm b x).1)[j]?=some v:=hj;rw [List.getElem?_set] at hj'
    split at hj'
    ·split at hj'
     ·cases hj';exact hin
     ·cases hj'
    ·exact h.bk v (List.mem_of_getElem? hj')
end
end
section
section
variable {α κ:Type} (key:α→κ) (l:κ→κ→Prop) [DecidableRel l] [DecidableEq κ]
def atL (xs:List α) (k:κ):Option α:=if qC key l xs k=true then xs[qV key l xs k]? else none
variable {key l}
theorem zIf (L:zGw l) {xs:List α} (hs:jD key l xs) {k:κ} {x:α}:atL key l xs k=some x↔x∈xs∧key x=k:=by
 unfold atL
 constructor
 ·intro h
  split at h
  ·rename_i ht
   obtain ⟨y,hy,hk⟩:=jQ ht;rw [hy] at h
   cases h
   exact ⟨List.mem_of_getElem? hy,hk⟩
  ·cases h
 ·rintro ⟨hm,hk⟩;have ht:=(vG L hs).2 ⟨x,hm,hk⟩;rw [if_pos ht];obtain ⟨y,hy,hyk⟩:=jQ ht;rw [hy,zDF L hs (List.mem_of_getElem? hy) hm (hyk.trans hk.symm)]
end
section
variable (sm:List Pc→Bs)
end
end
section
theorem zHk {ps:List qU} (hs:jD qU.num ltZ ps) {k:Int} {p:qU} (h:atL qU.num ltZ ps k=some p):ps.find? (fun q=>decide (q.num=k))=some p:=by
 obtain ⟨hm,hk⟩:=(zIf zBB hs).1 h
 cases hf:ps.find? (fun q=>decide (q.num=k)) with
 | none =>
  have:=List.find?_eq_none.1 hf p hm
  simp [hk] at this
 | some q =>
  have h1:=List.mem_of_find?_eq_some hf;have h2:=List.find?_some hf;rw [zDF zBB hs h1 hm (by rw [hk];simpa using h2)]
section
variable (sm:List Pc→Bs)
end
end
section
section
variable {α κ:Type} {key:α→κ} {l:κ→κ→Prop} [DecidableRel l] [DecidableEq κ]
end
def bsA:Bs:=[97,97,97]
def id0:Cid:=⟨0,0,0⟩
def pc0:Pc:=⟨id0,0,[]⟩
section
variable (sm:List Pc→Bs)
end
end
end Go.Proofs.YtfeglnpmpgipiaaGreatDoor
