/- CatPk, part 6: ListMath, SortMath, CatMath, CatInv, CatStep, CatApart, CatBack, CatFull. -/
import Derived.Lib.IndexLaws
import GoSem.Op.String
set_option linter.unusedVariables false
set_option maxRecDepth 100000
set_option linter.unusedSimpArgs false
namespace Go.Proofs.YtfeglnpmpgipiaaGreatDoor
section
abbrev Bs:=List UInt8
def lt (a b:Bs):Prop:=Op.bytesLess a b=true
instance (a b:Bs):Decidable (lt a b):=inferInstanceAs (Decidable (_=true))
theorem lt_irrefl:∀ (a:Bs),¬ lt a a
 | []=>by simp [lt,Op.bytesLess]
 | a :: x=>by
  have:=lt_irrefl x;simp only [lt,Op.bytesLess,Bool.or_eq_true,Bool.and_eq_true,decide_eq_true_eq,beq_iff_eq] at this ⊢;rintro (h | ⟨_,h⟩)
  ·exact absurd h (by simp)
  ·exact this h
theorem lt_trans:∀ {a b c:Bs},lt a b→lt b c→lt a c
 | a,b,[],_,h=>by simp [lt,Op.bytesLess] at h
 | a,[],c :: t,h,_=>by cases a <;> simp [lt,Op.bytesLess] at h
 | [],b :: y,c :: z,_,_=>by simp [lt,Op.bytesLess]
 | a :: x,b :: y,c :: z,h,k=>by
  have ih:=@lt_trans x y z;simp only [lt,Op.bytesLess,Bool.or_eq_true,Bool.and_eq_true,decide_eq_true_eq,beq_iff_eq] at ih h k ⊢
  rcases h with h | ⟨rfl,h⟩
  ·rcases k with k | ⟨rfl,k⟩
   ·exact .inl (UInt8.lt_trans h k)
   ·exact .inl h
  ·rcases k with k | ⟨rfl,k⟩
   ·exact .inl k
   ·exact .inr ⟨rfl,ih h k⟩
theorem lt_total:∀ (a b:Bs),lt a b∨a=b∨lt b a
 | [],[]=>.inr (.inl rfl)
 | [],b :: y=>.inl (by simp [lt,Op.bytesLess])
 | a :: x,[]=>.inr (.inr (by simp [lt,Op.bytesLess]))
 | a :: x,b :: y=>by
  have ih:=lt_total x y;simp only [lt,Op.bytesLess,Bool.or_eq_true,Bool.and_eq_true,decide_eq_true_eq,beq_iff_eq,List.cons.injEq] at ih ⊢
  by_cases h1:a < b
  ·exact .inl (.inl h1)
  ·by_cases h2:b < a
   ·exact .inr (.inr (.inl h2))
   ·have e:a=b:=UInt8.le_antisymm (UInt8.not_lt.1 h2) (UInt8.not_lt.1 h1);subst e
    rcases ih with h | h | h
    ·exact .inl (.inr ⟨rfl,h⟩)
    ·exact .inr (.inl ⟨rfl,h⟩)
    ·exact .inr (.inr (.inr ⟨rfl,h⟩))
end
section
structure LinO {κ:Type} (l:κ→κ→Prop):Prop where
 irr:∀ a,¬ l a a
 trans:∀ {a b c},l a b→l b c→l a c
 tot:∀ a b,l a b∨a=b∨l b a
theorem linB:LinO lt:=⟨lt_irrefl,lt_trans,lt_total⟩
theorem linZ:LinO (fun a b:Int=>a < b):=⟨fun a h=>by omega,fun h k=>by omega,fun a b=>by omega⟩
section
variable {α κ:Type} (key:α→κ) (l:κ→κ→Prop) [DecidableRel l] [DecidableEq κ]
def SortB (xs:List α):Prop:=xs.Pairwise fun a b=>l (key a) (key b)
def posL (xs:List α) (k:κ):Nat:=(xs.takeWhile fun x=>decide (l (key x) k)).length
def thereL (xs:List α) (k:κ):Bool:=match xs[posL key l xs k]? with
 | some x=>decide (key x=k)
 | none=>false
def putL (xs:List α) (k:κ) (x:α):List α:=if thereL key l xs k=true then xs.set (posL key l xs k) x else xs.take (posL key l xs k) ++ x :: xs.drop (posL key l xs k)
def delL (xs:List α) (k:κ):List α:=if thereL key l xs k=true then xs.eraseIdx (posL key l xs k) else xs
variable {key l}
omit [DecidableEq κ] in
theorem posL_le (xs:List α) (k:κ):posL key l xs k≤xs.length:=by
 unfold posL;exact (List.takeWhile_prefix _).length_le
omit [DecidableEq κ] in
theorem posL_lt {xs:List α} {k:κ} {j:Nat} {x:α} (hj:j < posL key l xs k) (hx:xs[j]?=some x):l (key x) k:=by
 have h1:(xs.takeWhile fun x=>decide (l (key x) k))[j]?=some x:=by
  obtain ⟨t,ht⟩:=List.takeWhile_prefix (l:=xs) (fun x=>decide (l (key x) k));rw [← ht,List.getElem?_append_left hj] at hx;exact hx
 have h2:=List.mem_of_getElem? h1
 have h3:∀ (ys:List α),x∈ys.takeWhile (fun x=>decide (l (key x) k))→decide (l (key x) k)=true:=fun ys=>by
  induction ys with
  | nil=>intro h;cases h
  | cons y ys ih =>
   intro h;rw [List.takeWhile_cons] at h
   split at h
   ·rename_i hy
    rcases List.mem_cons.1 h with e | h
    ·rw [e];exact hy
    ·exact ih h
   ·cases h
 exact of_decide_eq_true (h3 xs h2)
omit [DecidableEq κ] in
theorem posL_at {xs:List α} {k:κ} {x:α} (hx:xs[posL key l xs k]?=some x):¬ l (key x) k:=by
 unfold posL at hx
 induction xs with
 | nil=>cases hx
 | cons y ys ih =>
  rw [List.takeWhile_cons] at hx
  split at hx
  ·exact ih (by simpa using hx)
  ·rename_i hy
   simp at hx
   subst hx
   simpa using hy
variable (L:LinO l)
include L
omit [DecidableEq κ] in

theorem posL_ge {xs:List α} (hs:SortB key l xs) {k:κ} {j:Nat} {x:α} (hj:posL key l xs k≤j) (hx:xs[j]?=some x):¬ l (key x) k:=by
 intro hl;obtain ⟨hjl,hxe⟩:=List.getElem?_eq_some_iff.1 hx;have hp:posL key l xs k < xs.length:=(by omega);have h0:=posL_at (List.getElem?_eq_getElem hp)
 rcases Nat.eq_or_lt_of_le hj with h | h
 ·subst h;subst hxe;exact h0 hl
 ·have h1:=List.pairwise_iff_getElem.1 hs _ _ hp hjl h;rw [hxe] at h1;exact h0 (L.trans h1 hl)
omit [DecidableEq κ] in
theorem posL_eq {xs:List α} (hs:SortB key l xs) {k:κ} {n:Nat} (hn:n≤xs.length) (h1:∀ x,0 < n→xs[n - 1]?=some x→l (key x) k) (h2:∀ x,xs[n]?=some x→¬ l (key x) k):posL key l xs k=n:=by
 have hp:=posL_le (key:=key) (l:=l) xs k
 rcases Nat.lt_trichotomy (posL key l xs k) n with h | h | h
 ·have hl:posL key l xs k < xs.length:=(by omega);have h3:=posL_at (List.getElem?_eq_getElem hl);obtain ⟨y,hy⟩:∃ y,xs[n - 1]?=some y:=⟨_,List.getElem?_eq_getElem (by omega)⟩;have h4:=h1 y (by omega) hy;exact absurd h4 (posL_ge L hs (by omega) hy)
 ·exact h
 ·obtain ⟨y,hy⟩:∃ y,xs[n]?=some y:=⟨_,List.getElem?_eq_getElem (by omega)⟩;exact absurd (posL_lt h hy) (h2 y hy)
theorem there_iff {xs:List α} (hs:SortB key l xs) {k:κ}:thereL key l xs k=true↔∃ x∈xs,key x=k:=by
 unfold thereL
 constructor
 ·intro h
  split at h
  ·rename_i x hx
   exact ⟨x,List.mem_of_getElem? hx,of_decide_eq_true h⟩
  ·cases h
 ·rintro ⟨x,hx,hk⟩;obtain ⟨j,hj⟩:=List.mem_iff_getElem?.1 hx
  have h0:posL key l xs k=j:=posL_eq L hs (by have:=(List.getElem?_eq_some_iff.1 hj).1;omega) (fun y h0 hy=>by
   obtain ⟨h1,h2⟩:=List.getElem?_eq_some_iff.1 hj;obtain ⟨h3,h4⟩:=List.getElem?_eq_some_iff.1 hy;have h5:=List.pairwise_iff_getElem.1 hs _ _ h3 h1 (by omega);rw [h2,h4,hk] at h5
   exact h5) (fun y hy=>by rw [hj] at hy;cases hy;rw [hk];exact L.irr k)
  rw [h0,hj]
  simpa using hk
omit L in
theorem there_at {xs:List α} {k:κ} (h:thereL key l xs k=true):∃ x,xs[posL key l xs k]?=some x∧key x=k:=by
 unfold thereL at h
 split at h
 ·rename_i x hx
  exact ⟨x,hx,of_decide_eq_true h⟩
 ·cases h
omit [DecidableEq κ] [DecidableRel l] in
theorem sort_uniq {xs:List α} (hs:SortB key l xs) {i j:Nat} {x y:α} (hx:xs[i]?=some x) (hy:xs[j]?=some y) (h:key x=key y):i=j:=by
 obtain ⟨h1,h2⟩:=List.getElem?_eq_some_iff.1 hx;obtain ⟨h3,h4⟩:=List.getElem?_eq_some_iff.1 hy
 rcases Nat.lt_trichotomy i j with hl | hl | hl
 ·have h5:=List.pairwise_iff_getElem.1 hs _ _ h1 h3 hl;rw [h2,h4,h] at h5;exact absurd h5 (L.irr _)
 ·exact hl
 ·have h5:=List.pairwise_iff_getElem.1 hs _ _ h3 h1 hl;rw [h2,h4,h] at h5;exact absurd h5 (L.irr _)
omit [DecidableEq κ] [DecidableRel l] in
theorem sort_mem {xs:List α} (hs:SortB key l xs) {x y:α} (hx:x∈xs) (hy:y∈xs) (h:key x=key y):x=y:=by
 obtain ⟨i,hi⟩:=List.mem_iff_getElem?.1 hx;obtain ⟨j,hj⟩:=List.mem_iff_getElem?.1 hy;have:=sort_uniq L hs hi hj h;subst this;rw [hi] at hj;exact Option.some.inj hj
omit L [DecidableEq κ] [DecidableRel l] in
theorem sort_app {xs ys:List α}:SortB key l (xs ++ ys)↔SortB key l xs∧SortB key l ys∧∀ x∈xs,∀ y∈ys,l (key x) (key y):=List.pairwise_append
theorem sort_put {xs:List α} (hs:SortB key l xs) {k:κ} {x:α} (hk:key x=k):SortB key l (putL key l xs k x):=by
 unfold putL
 have hlt:∀ y∈xs.take (posL key l xs k),l (key y) k:=fun y hy=>by
  obtain ⟨j,hj⟩:=List.mem_iff_getElem?.1 hy;rw [List.getElem?_take] at hj
  split at hj
  ·exact posL_lt (by assumption) hj
  ·cases hj
 have hge:∀ (n:Nat),posL key l xs k≤n→(∀ y,xs[n]?=some y→key y≠k)→(∀ y∈xs.drop n,l k (key y)):=fun n hn hne y hy=>by
  obtain ⟨j,hj⟩:=List.mem_iff_getElem?.1 hy;rw [List.getElem?_drop] at hj;have h1:¬ l (key y) k:=posL_ge L hs (k:=k) (Nat.le_trans hn (Nat.le_add_right n j)) hj
  rcases L.tot (key y) k with h | h | h
  ·exact absurd h h1
  ·exfalso
   have hp:xs[n]?≠none:=fun e=>by
    have:=List.getElem?_eq_none_iff.1 e;have:=(List.getElem?_eq_some_iff.1 hj).1;omega
   obtain ⟨z,hz⟩:∃ z,xs[n]?=some z:=Option.ne_none_iff_exists'.1 hp;have h2:=posL_ge L hs hn hz
   by_cases h0:j=0
   ·subst h0;rw [Nat.add_zero] at hj;exact hne y hj h
   ·obtain ⟨h3,h4⟩:=List.getElem?_eq_some_iff.1 hz;obtain ⟨h5,h6⟩:=List.getElem?_eq_some_iff.1 hj;have h7:=List.pairwise_iff_getElem.1 hs _ _ h3 h5 (by omega);rw [h4,h6,h] at h7;exact h2 h7
  ·exact h
 split
 ·rename_i ht
  obtain ⟨y,hy,hyk⟩:=there_at ht;obtain ⟨hlen,hye⟩:=List.getElem?_eq_some_iff.1 hy;rw [List.set_eq_take_append_cons_drop,if_pos hlen];have hs2:=hs;rw [← List.take_append_drop (posL key l xs k) xs,List.drop_eq_getElem_cons hlen,hye] at hs2;obtain ⟨p1,p2,p3⟩:=sort_app.1 hs2;refine sort_app.2 ⟨p1,List.Pairwise.cons (fun z hz=>?_) (List.pairwise_cons.1 p2).2,fun u hu v hv=>?_⟩
  ·rw [hk,← hyk];exact (List.pairwise_cons.1 p2).1 z hz
  ·rcases List.mem_cons.1 hv with rfl | hv
   ·rw [hk];exact hlt u hu
   ·exact p3 u hu v (List.mem_cons_of_mem _ hv)
 ·rename_i ht
  have hnk:∀ y,xs[posL key l xs k]?=some y→key y≠k:=fun y hy e=>ht ((there_iff L hs).2 ⟨y,List.mem_of_getElem? hy,e⟩);have hs2:=hs;rw [← List.take_append_drop (posL key l xs k) xs] at hs2;obtain ⟨p1,p2,p3⟩:=sort_app.1 hs2;refine sort_app.2 ⟨p1,List.Pairwise.cons (fun z hz=>?_) p2,fun u hu v hv=>?_⟩
  ·rw [hk];exact hge _ (Nat.le_refl _) hnk z hz
  ·rcases List.mem_cons.1 hv with rfl | hv
   ·rw [hk];exact hlt u hu
   ·exact p3 u hu v hv
theorem del_filter {xs:List α} (hs:SortB key l xs) (k:κ):delL key l xs k=xs.filter (fun x=>decide (key x≠k)):=by
 unfold delL
 split
 ·rename_i ht
  obtain ⟨y,hy,hyk⟩:=there_at ht;obtain ⟨hlen,hye⟩:=List.getElem?_eq_some_iff.1 hy;rw [List.eraseIdx_eq_take_drop_succ]
  conv=>rhs;rw [← List.take_append_drop (posL key l xs k) xs,List.drop_eq_getElem_cons hlen,hye]
  rw [List.filter_append,List.filter_cons_of_neg (by simp [hyk])]
  congr 1
  ·refine (List.filter_eq_self.2 fun x hx=>?_).symm;obtain ⟨j,hj⟩:=List.mem_iff_getElem?.1 hx;rw [List.getElem?_take] at hj
   split at hj
   ·rename_i hjl
    refine decide_eq_true fun e=>?_;have:=sort_uniq L hs hj hy (e.trans hyk.symm);omega
   ·cases hj
  ·refine (List.filter_eq_self.2 fun x hx=>?_).symm;obtain ⟨j,hj⟩:=List.mem_iff_getElem?.1 hx;rw [List.getElem?_drop] at hj;refine decide_eq_true fun e=>?_;have:=sort_uniq L hs hj hy (e.trans hyk.symm);omega
 ·rename_i ht
  refine (List.filter_eq_self.2 fun x hx=>?_).symm;exact decide_eq_true (p:=key x≠k) fun e=>ht ((there_iff L hs).2 ⟨x,hx,e⟩)
theorem sort_del {xs:List α} (hs:SortB key l xs) (k:κ):SortB key l (delL key l xs k):=by
 rw [del_filter L hs];exact hs.filter _
theorem mem_put {xs:List α} (hs:SortB key l xs) {k:κ} {x:α} (hk:key x=k) (y:α):y∈putL key l xs k x↔y=x∨(y∈xs∧key y≠k):=by
 unfold putL
 split
 ·rename_i ht
  obtain ⟨z,hz,hzk⟩:=there_at ht
  constructor
  ·intro h;obtain ⟨j,hj⟩:=List.mem_iff_getElem?.1 h;rw [List.getElem?_set] at hj
   split at hj
   ·split at hj
    ·exact .inl (Option.some.inj hj).symm
    ·cases hj
   ·rename_i hne
    refine .inr ⟨List.mem_of_getElem? hj,fun e=>hne ?_⟩;exact (sort_uniq L hs hj hz (e.trans hzk.symm)).symm
  ·have hlen:=(List.getElem?_eq_some_iff.1 hz).1;rintro (rfl | ⟨hy,hne⟩)
   ·exact List.mem_iff_getElem?.2 ⟨posL key l xs k,by rw [List.getElem?_set_self hlen]⟩
   ·obtain ⟨j,hj⟩:=List.mem_iff_getElem?.1 hy;refine List.mem_iff_getElem?.2 ⟨j,?_⟩;rw [List.getElem?_set_ne (fun e=>hne (by rw [e,hj] at hz;cases hz;exact hzk)),hj]
 ·rename_i ht
  rw [List.mem_append,List.mem_cons]
  have hm:y∈xs↔y∈xs.take (posL key l xs k)∨y∈xs.drop (posL key l xs k):=by
   conv=>lhs;rw [← List.take_append_drop (posL key l xs k) xs]
   rw [List.mem_append]
  constructor
  ·rintro (h | h | h)
   ·exact .inr ⟨hm.2 (.inl h),fun e=>ht ((there_iff L hs).2 ⟨y,hm.2 (.inl h),e⟩)⟩
   ·exact .inl h
   ·exact .inr ⟨hm.2 (.inr h),fun e=>ht ((there_iff L hs).2 ⟨y,hm.2 (.inr h),e⟩)⟩
  ·rintro (h | ⟨h,-⟩)
   ·exact .inr (.inl h)
   ·exact (hm.1 h).imp id .inr
omit L in
theorem put_length (xs:List α) (k:κ) (x:α):(putL key l xs k x).length=if thereL key l xs k=true then xs.length else xs.length+1:=by
 unfold putL
 split
 ·simp
 ·have:=posL_le (key:=key) (l:=l) xs k
  simp
  omega
omit [DecidableEq κ] [DecidableRel l] in

theorem sort_ext {xs ys:List α} (hx:SortB key l xs) (hy:SortB key l ys) (h:∀ a,a∈xs↔a∈ys):xs=ys:=by
 induction xs generalizing ys with
 | nil=>cases ys with
  | nil=>rfl
  | cons y ys=>exact absurd ((h y).2 (List.mem_cons_self ..)) (by simp)
 | cons x xs ih=>cases ys with
  | nil=>exact absurd ((h x).1 (List.mem_cons_self ..)) (by simp)
  | cons y ys =>
   obtain ⟨h1,h2⟩:=List.pairwise_cons.1 hx;obtain ⟨h3,h4⟩:=List.pairwise_cons.1 hy
   have e:x=y:=by
    rcases List.mem_cons.1 ((h x).1 (List.mem_cons_self ..)) with e | e
    ·exact e
    ·rcases List.mem_cons.1 ((h y).2 (List.mem_cons_self ..)) with e2 | e2
     ·exact e2.symm
     ·exact absurd (L.trans (h3 x e) (h1 y e2)) (L.irr _)
   subst e
   congr 1
   refine ih h2 h4 fun a=>?_;have ha:=h a;simp only [List.mem_cons] at ha
   constructor
   ·intro hm
    rcases ha.1 (.inr hm) with rfl | h5
    ·exact absurd (h1 _ hm) (L.irr _)
    ·exact h5
   ·intro hm
    rcases ha.2 (.inr hm) with rfl | h5
    ·exact absurd (h3 _ hm) (L.irr _)
    ·exact h5
end
end
section
structure Cid where
 node:Int
 boot:Int
 seq:Int
 deriving DecidableEq
structure Pc where
 blob:Cid
 size:Int
 etag:Bs
 deriving DecidableEq
structure CObj where
 key:Bs
 size:Int
 etag:Bs
 time:Int
 pcs:List Pc
 deriving DecidableEq
structure CPart where
 num:Int
 pc:Pc
 deriving DecidableEq
structure CUpl where
 id:Cid
 key:Bs
 parts:List CPart
 deriving DecidableEq
structure CBuck where
 name:Bs
 time:Int
 days:Int
 objs:List CObj
 upls:List CUpl
 deriving DecidableEq
structure Cat where
 bucks:List CBuck
 floors:List Cid
 deriving DecidableEq
structure Cmd where
 kind:Int
 id:Cid
 bucket:Bs
 key:Bs
 upload:Cid
 piece:Pc
 part:Int
 parts:List Int
 time:Int
 days:Int
 deriving DecidableEq
structure Outc where
 code:Int
 etag:Bs
 deriving DecidableEq
def ltI (a b:Cid):Prop:=a.node < b.node∨(a.node=b.node∧(a.boot < b.boot∨(a.boot=b.boot∧a.seq < b.seq)))
instance (a b:Cid):Decidable (ltI a b):=inferInstanceAs (Decidable (_∨_))
theorem linI:LinO ltI:=by
 refine ⟨fun a h=>?_,fun {a b c} h k=>?_,fun a b=>?_⟩
 ·unfold ltI at h;omega
 ·unfold ltI at h k ⊢;omega
 ·unfold ltI
  cases a with | mk n1 b1 s1=>cases b with | mk n2 b2 s2 =>
  simp only [Cid.mk.injEq];omega
def ltZ (a b:Int):Prop:=a < b
instance (a b:Int):Decidable (ltZ a b):=inferInstanceAs (Decidable (a < b))
theorem linZ':LinO ltZ:=linZ
section
variable (sm:List Pc→Bs)
def putO (b:CBuck) (o:CObj):CBuck × Outc :=
 if thereL CObj.key lt b.objs o.key=false∧128≤b.objs.length then (b,⟨7,[]⟩)
 else ({ b with objs:=putL CObj.key lt b.objs o.key o },⟨0,o.etag⟩)
def gather (ps:List CPart):List Int→Option (List Pc)
 | []=>some []
 | n :: ns=>match ps.find? (fun p=>decide (p.num=n)) with
  | none=>none
  | some p=>(gather ps ns).map (p.pc :: ·)
def sizes (l:List Pc):Int:=(l.map Pc.size).sum
def inUpl (b:CBuck) (i:Nat) (u:CUpl) (x:Cmd):CBuck × Outc :=
 if x.kind=6 then ({ b with upls:=b.upls.set i { u with parts:=putL CPart.num ltZ u.parts x.part ⟨x.part,x.piece⟩ } },⟨0,x.piece.etag⟩)
 else if x.kind=8 then ({ b with upls:=b.upls.eraseIdx i },⟨0,[]⟩)
 else match gather u.parts x.parts with
  | none=>(b,⟨6,[]⟩)
  | some l =>
   let r:=putO b ⟨x.key,sizes l,sm l,x.time,l⟩
   if r.2.code=0 then ({ r.1 with upls:=b.upls.eraseIdx i },r.2) else r
def inBuck (b:CBuck) (x:Cmd):CBuck × Outc :=
 if x.kind=3 then putO b ⟨x.key,x.piece.size,x.piece.etag,x.time,[x.piece]⟩
 else if x.kind=4 then ({ b with objs:=delL CObj.key lt b.objs x.key },⟨0,[]⟩)
 else if x.kind=5 then (if 16≤b.upls.length then (b,⟨7,[]⟩) else ({ b with upls:=putL CUpl.id ltI b.upls x.id ⟨x.id,x.key,[]⟩ },⟨0,[]⟩))
 else if x.kind=9 then ({ b with days:=x.days },⟨0,[]⟩)
 else match b.upls[posL CUpl.id ltI b.upls x.upload]? with
  | none=>(b,⟨3,[]⟩)
  | some u=>if u.id=x.upload∧u.key=x.key then inUpl sm b (posL CUpl.id ltI b.upls x.upload) u x else (b,⟨3,[]⟩)
def old (b:CBuck) (now:Int) (o:CObj):Bool:=decide (o.time+b.days≤now)
def expireB (now:Int) (b:CBuck):CBuck:=if b.days=0 then b else { b with objs:=b.objs.filter (fun o=>!old b now o) }
def floorL (fs:List Cid) (id:Cid):List Cid:=match fs[posL Cid.node ltZ fs id.node]? with
 | none=>putL Cid.node ltZ fs id.node id
 | some f=>if f.node=id.node∧¬ ltI f id then fs else putL Cid.node ltZ fs id.node id
def apply (c:Cat) (x:Cmd):Cat × Outc :=
 if x.kind=1 then
  (if thereL CBuck.name lt c.bucks x.bucket=true then (c,⟨4,[]⟩)
   else if 16≤c.bucks.length then (c,⟨7,[]⟩)
   else ({ c with bucks:=putL CBuck.name lt c.bucks x.bucket ⟨x.bucket,x.time,0,[],[]⟩ },⟨0,[]⟩))
 else if x.kind=10 then ({ c with bucks:=c.bucks.map (expireB x.time) },⟨0,[]⟩)
 else if x.kind=11 then ({ c with floors:=floorL c.floors x.id },⟨0,[]⟩)
 else match c.bucks[posL CBuck.name lt c.bucks x.bucket]? with
  | none=>(c,⟨1,[]⟩)
  | some b =>
   if b.name≠x.bucket then (c,⟨1,[]⟩)
   else if x.kind=2 then
    (if 0 < b.objs.length+b.upls.length then (c,⟨5,[]⟩) else ({ c with bucks:=c.bucks.eraseIdx (posL CBuck.name lt c.bucks x.bucket) },⟨0,[]⟩))
   else ({ c with bucks:=c.bucks.set (posL CBuck.name lt c.bucks x.bucket) (inBuck sm b x).1 },(inBuck sm b x).2)
end
end
section
structure PcOk (p:Pc):Prop where
 lo:0≤p.size
 hi:p.size≤1024
 et:p.etag.length=64
structure ObOk (o:CObj):Prop where
 key:o.key.length≤200
 et:o.etag.length≤100
 lo:0≤o.time
 hi:o.time≤1099511627776
 ne:o.pcs≠[]
 len:o.pcs.length≤16
 pcs:∀ p∈o.pcs,PcOk p
 size:o.size=sizes o.pcs
structure UpOk (u:CUpl):Prop where
 key:u.key.length≤200
 sort:SortB CPart.num ltZ u.parts
 parts:∀ p∈u.parts,1≤p.num∧p.num≤16∧PcOk p.pc
structure BkOk (b:CBuck):Prop where
 name:b.name.length≤63
 tlo:0≤b.time
 thi:b.time≤1099511627776
 dlo:0≤b.days
 dhi:b.days≤1099511627776
 os:SortB CObj.key lt b.objs
 ol:b.objs.length≤128
 ob:∀ o∈b.objs,ObOk o
 us:SortB CUpl.id ltI b.upls
 ul:b.upls.length≤16
 up:∀ u∈b.upls,UpOk u
structure CatOk (c:Cat):Prop where
 bs:SortB CBuck.name lt c.bucks
 bl:c.bucks.length≤16
 bk:∀ b∈c.bucks,BkOk b
 fs:SortB Cid.node ltZ c.floors
 fl:∀ f∈c.floors,0≤f.node∧f.node≤15
structure CmdOk (x:Cmd):Prop where
 klo:1≤x.kind
 khi:x.kind≤11
 nlo:0≤x.id.node
 nhi:x.id.node≤15
 buck:x.bucket.length≤63
 key:x.key.length≤200
 pc:x.kind=3∨x.kind=6→PcOk x.piece
 part:x.kind=6→1≤x.part∧x.part≤16
 pne:x.kind=7→x.parts≠[]
 prt:x.kind=7→x.parts.Pairwise (· < ·)∧∀ n∈x.parts,1≤n∧n≤16
 tlo:0≤x.time
 thi:x.time≤1099511627776
 dlo:0≤x.days
 dhi:x.days≤1099511627776
theorem floor_put {fs:List Cid} (hs:SortB Cid.node ltZ fs) (id:Cid):floorL fs id=if ∃ f∈fs,f.node=id.node∧¬ ltI f id then fs else putL Cid.node ltZ fs id.node id:=by
 unfold floorL
 cases hp:fs[posL Cid.node ltZ fs id.node]? with
 | none =>
  have hnt:¬ thereL Cid.node ltZ fs id.node=true:=fun h=>by
   obtain ⟨y,hy,_⟩:=there_at h;rw [hp] at hy;cases hy
  rw [if_neg];rintro ⟨f,hf,hn,_⟩;exact hnt ((there_iff linZ' hs).2 ⟨f,hf,hn⟩)
 | some f =>
  dsimp only
  by_cases h:f.node=id.node∧¬ ltI f id
  ·rw [if_pos h,if_pos ⟨f,List.mem_of_getElem? hp,h⟩]
  ·rw [if_neg h,if_neg];rintro ⟨g,hg,hn,hl⟩;have ht:=(there_iff linZ' hs).2 ⟨g,hg,hn⟩;obtain ⟨y,hy,hyn⟩:=there_at ht;rw [hp] at hy
   cases hy
   have:=sort_mem linZ' hs hg (List.mem_of_getElem? hp) (hn.trans hyn.symm);subst this;exact h ⟨hn,hl⟩
theorem floorL_sort {fs:List Cid} (hs:SortB Cid.node ltZ fs) (id:Cid):SortB Cid.node ltZ (floorL fs id):=by
 rw [floor_put hs]
 split
 ·exact hs
 ·exact sort_put linZ' hs rfl
end
section
theorem sizes_cons (p:Pc) (l:List Pc):sizes (p :: l)=p.size+sizes l:=by simp [sizes]
theorem sizes_nil:sizes []=0:=rfl
theorem sizes_app (a b:List Pc):sizes (a ++ b)=sizes a+sizes b:=by simp [sizes]
theorem sizes_bound:∀ (l:List Pc),(∀ p∈l,PcOk p)→0≤sizes l∧sizes l≤1024 * l.length
 | [],_=>by simp [sizes]
 | p :: l,h=>by
  have h1:=h p (List.mem_cons_self ..);have h2:=sizes_bound l (fun q hq=>h q (List.mem_cons_of_mem _ hq));have h3:=h1.lo;have h4:=h1.hi;rw [sizes_cons,List.length_cons];omega
theorem gather_some {ps:List CPart}:∀ {ns:List Int} {l:List Pc},gather ps ns=some l→l.length=ns.length∧∀ p∈l,∃ q∈ps,q.pc=p
 | [],l,h=>by cases h;simp
 | n :: ns,l,h=>by
  unfold gather at h
  cases hf:ps.find? (fun p=>decide (p.num=n)) with
  | none=>rw [hf] at h;cases h
  | some p =>
   rw [hf] at h;dsimp only at h
   cases hg:gather ps ns with
   | none=>rw [hg] at h;cases h
   | some l' =>
    rw [hg] at h
    cases h
    obtain ⟨h1,h2⟩:=gather_some hg;refine ⟨by simp [h1],fun q hq=>?_⟩
    rcases List.mem_cons.1 hq with rfl | hq
    ·exact ⟨p,List.mem_of_find?_eq_some hf,rfl⟩
    ·exact h2 q hq
theorem parts_len {ns:List Int} (h1:ns.Pairwise (· < ·)) (h2:∀ n∈ns,1≤n∧n≤16):ns.length≤16:=by
 have:∀ (ns:List Int) (a:Int),ns.Pairwise (· < ·)→(∀ n∈ns,a≤n∧n≤16)→a≤17→(ns.length:Int)≤17 - a:=fun ns=>by
  induction ns with
  | nil=>intro a _ _ h;simp;omega
  | cons n ns ih =>
   intro a hp hb ha;obtain ⟨h3,h4⟩:=List.pairwise_cons.1 hp;have h5:=hb n (List.mem_cons_self ..);have h6:=ih (n+1) h4 (fun m hm=>⟨by have:=h3 m hm;omega,(hb m (List.mem_cons_of_mem _ hm)).2⟩) (by omega);rw [List.length_cons];omega
 have:=this ns 1 h1 h2 (by omega);omega
theorem sort_nums_len {α:Type} {key:α→Int} {xs:List α} {lo hi:Int} (hs:SortB key ltZ xs) (hb:∀ x∈xs,lo≤key x∧key x≤hi) (hl:lo≤hi+1):(xs.length:Int)≤hi+1 - lo:=by
 induction xs generalizing lo with
 | nil=>simp;omega
 | cons x xs ih =>
  obtain ⟨h1,h2⟩:=List.pairwise_cons.1 hs;have h3:=hb x (List.mem_cons_self ..);have:=ih (lo:=key x+1) h2 (fun y hy=>⟨by have:=h1 y hy;unfold ltZ at this;omega,(hb y (List.mem_cons_of_mem _ hy)).2⟩) (by omega);rw [List.length_cons];omega
theorem UpOk.len {u:CUpl} (h:UpOk u):u.parts.length≤16:=by
 have:=sort_nums_len (lo:=1) (hi:=16) h.sort (fun p hp=>⟨(h.parts p hp).1,(h.parts p hp).2.1⟩) (by omega);omega
theorem CatOk.flen {c:Cat} (h:CatOk c):c.floors.length≤16:=by
 have:=sort_nums_len (lo:=0) (hi:=15) h.fs h.fl (by omega);omega
section
variable (sm:List Pc→Bs)
theorem putO_code (b:CBuck) (o:CObj):(putO b o).2.code=7∨((putO b o).2.code=0∧(putO b o).2.etag=o.etag):=by
 unfold putO
 split
 ·exact .inl rfl
 ·exact .inr ⟨rfl,rfl⟩
theorem there_cases {bs:List CBuck} {k:Bs}:(thereL CBuck.name lt bs k=true↔∃ b,bs[posL CBuck.name lt bs k]?=some b∧b.name=k):=by
 constructor
 ·exact there_at
 ·rintro ⟨b,hb,hk⟩;unfold thereL;rw [hb];exact decide_eq_true hk
theorem putO_ok {b:CBuck} (h:BkOk b) {o:CObj} (ho:ObOk o):BkOk (putO b o).1:=by
 unfold putO
 split
 ·exact h
 ·rename_i hn
  refine ⟨h.name,h.tlo,h.thi,h.dlo,h.dhi,sort_put linB h.os rfl,?_,fun y hy=>?_,h.us,h.ul,h.up⟩
  ·show (putL CObj.key lt b.objs o.key o).length≤128;rw [put_length];have:=h.ol
   split
   ·exact this
   ·rename_i ht
    have:¬ 128≤b.objs.length:=fun e=>hn ⟨by simpa using ht,e⟩;omega
  ·rcases (mem_put linB h.os rfl y).1 hy with rfl | ⟨hm,_⟩
   ·exact ho
   ·exact h.ob y hm
theorem withUpls {b:CBuck} (h:BkOk b) {us:List CUpl} (h1:SortB CUpl.id ltI us) (h2:us.length≤16) (h3:∀ u∈us,UpOk u):BkOk { b with upls:=us } :=
 ⟨h.name,h.tlo,h.thi,h.dlo,h.dhi,h.os,h.ol,h.ob,h1,h2,h3⟩
theorem erase_ok {b:CBuck} (h:BkOk b) (i:Nat):SortB CUpl.id ltI (b.upls.eraseIdx i)∧(b.upls.eraseIdx i).length≤16∧∀ u∈b.upls.eraseIdx i,UpOk u :=
 ⟨List.Pairwise.sublist (List.eraseIdx_sublist ..) h.us,by have:=(List.eraseIdx_sublist b.upls i).length_le;have:=h.ul;omega,fun u hu=>h.up u ((List.eraseIdx_sublist b.upls i).subset hu)⟩
theorem set_ok {us:List CUpl} {i:Nat} {u v:CUpl} (hs:SortB CUpl.id ltI us) (hi:us[i]?=some u) (hv:v.id=u.id):SortB CUpl.id ltI (us.set i v):=by
 have hp:posL CUpl.id ltI us u.id=i:=by
  have ht:=(there_iff linI hs).2 ⟨u,List.mem_of_getElem? hi,rfl⟩;obtain ⟨y,hy,hyk⟩:=there_at ht;exact sort_uniq linI hs hy hi hyk
 have ht:=(there_iff linI hs).2 ⟨u,List.mem_of_getElem? hi,rfl⟩;have:us.set i v=putL CUpl.id ltI us u.id v:=(by unfold putL;rw [if_pos ht,hp]);rw [this];exact sort_put linI hs hv
theorem putO_name (b:CBuck) (o:CObj):(putO b o).1.name=b.name:=by unfold putO;split <;> rfl
theorem inBuck_name (b:CBuck) (x:Cmd):(inBuck sm b x).1.name=b.name:=by
 unfold inBuck
 split
 ·exact putO_name _ _
 split
 ·rfl
 split
 ·split <;> rfl
 split
 ·rfl
 split
 ·rfl
 ·split
  ·unfold inUpl
   split
   ·rfl
   split
   ·rfl
   ·split
    ·rfl
    ·dsimp only
     split
     ·exact putO_name _ _
     ·exact putO_name _ _
  ·rfl
theorem inBuck_ok (hsm:∀ l:List Pc,l.length≤16→(sm l).length≤100) {b:CBuck} (h:BkOk b) {x:Cmd} (hx:CmdOk x) (hk:x.kind≠1∧x.kind≠2∧x.kind≠10∧x.kind≠11):BkOk (inBuck sm b x).1:=by
 unfold inBuck
 split
 ·rename_i k3
  have hp:=hx.pc (.inl k3);exact putO_ok h ⟨hx.key,by show x.piece.etag.length≤100;rw [hp.et];omega,hx.tlo,hx.thi,by simp,by simp,fun p hp'=>by rw [List.mem_singleton.1 hp'];exact hp,by simp [sizes]⟩
 split
 ·refine ⟨h.name,h.tlo,h.thi,h.dlo,h.dhi,sort_del linB h.os _,?_,fun o ho=>?_,h.us,h.ul,h.up⟩
  ·show (delL CObj.key lt b.objs x.key).length≤128;rw [del_filter linB h.os];have:=List.length_filter_le (fun o:CObj=>decide (o.key≠x.key)) b.objs;have:=h.ol;omega
  ·have:o∈delL CObj.key lt b.objs x.key:=ho;rw [del_filter linB h.os] at this;exact h.ob o (List.mem_filter.1 this).1
 split
 ·split
  ·exact h
  ·rename_i hn
   refine withUpls h (sort_put linI h.us rfl) ?_ (fun u hu=>?_)
   ·rw [put_length];split <;> omega
   ·rcases (mem_put linI h.us (k:=x.id) (x:=⟨x.id,x.key,[]⟩) rfl u).1 hu with rfl | ⟨hm,_⟩
    ·exact ⟨hx.key,List.Pairwise.nil,by simp⟩
    ·exact h.up u hm
 split
 ·exact ⟨h.name,h.tlo,h.thi,hx.dlo,hx.dhi,h.os,h.ol,h.ob,h.us,h.ul,h.up⟩
 split
 ·exact h
 ·rename_i k3 k4 k5 k9 _ u hu
  split
  ·rename_i hid
   have hmu:=h.up u (List.mem_of_getElem? hu);unfold inUpl
   split
   ·rename_i k6
    refine withUpls h (set_ok h.us hu rfl) (by rw [List.length_set];exact h.ul) (fun v hv=>?_);obtain ⟨j,hj⟩:=List.mem_iff_getElem?.1 hv;rw [List.getElem?_set] at hj
    split at hj
    ·split at hj
     ·cases hj
      refine ⟨hmu.key,sort_put linZ' hmu.sort rfl,fun p hp=>?_⟩
      rcases (mem_put linZ' hmu.sort (k:=x.part) (x:=⟨x.part,x.piece⟩) rfl p).1 hp with rfl | ⟨hm,_⟩
      ·exact ⟨(hx.part k6).1,(hx.part k6).2,hx.pc (.inr k6)⟩
      ·exact hmu.parts p hm
     ·cases hj
    ·exact h.up v (List.mem_of_getElem? hj)
   split
   ·obtain ⟨e1,e2,e3⟩:=erase_ok h (posL CUpl.id ltI b.upls x.upload);exact withUpls h e1 e2 e3
   ·cases hg:gather u.parts x.parts with
    | none=>exact h
    | some l =>
     rename_i k6 k8
     have hk7:x.kind=7:=(by have:=hx.klo;have:=hx.khi;omega);obtain ⟨g1,g2⟩:=gather_some hg
     have hpl:∀ p∈l,PcOk p:=fun p hp=>by
      obtain ⟨q,hq,rfl⟩:=g2 p hp;exact (hmu.parts q hq).2.2
     dsimp only
     split
     ·rename_i hc
      ·have hlen:l.length≤16:=(by rw [g1];exact parts_len (hx.prt hk7).1 (hx.prt hk7).2);have hne:l≠[]:=fun e=>hx.pne hk7 (by rw [e] at g1;exact List.eq_nil_of_length_eq_zero g1.symm);have hb:=putO_ok h (o:=⟨x.key,sizes l,sm l,x.time,l⟩) ⟨hx.key,hsm l hlen,hx.tlo,hx.thi,hne,hlen,hpl,rfl⟩;have hu:(putO b ⟨x.key,sizes l,sm l,x.time,l⟩).1.upls=b.upls:=(by unfold putO;split <;> rfl);obtain ⟨e1,e2,e3⟩:=erase_ok h (posL CUpl.id ltI b.upls x.upload);exact withUpls hb e1 e2 e3
     ·rename_i hc
      have:(putO b ⟨x.key,sizes l,sm l,x.time,l⟩).1=b:=by
       unfold putO at hc ⊢
       split
       ·rfl
       ·rename_i hn;rw [if_neg hn] at hc;exact absurd rfl hc
      rw [this];exact h
  ·exact h
theorem apply_ok (hsm:∀ l:List Pc,l.length≤16→(sm l).length≤100) {c:Cat} (h:CatOk c) {x:Cmd} (hx:CmdOk x):CatOk (apply sm c x).1:=by
 unfold apply
 split
 ·rename_i k1
  split
  ·exact h
  split
  ·exact h
  ·refine ⟨sort_put linB h.bs rfl,?_,fun b hb=>?_,h.fs,h.fl⟩
   ·show (putL CBuck.name lt c.bucks x.bucket _).length≤16;rw [put_length]
    split <;> omega
   ·rcases (mem_put linB h.bs (k:=x.bucket) (x:=⟨x.bucket,x.time,0,[],[]⟩) rfl b).1 hb with rfl | ⟨hm,_⟩
    ·exact ⟨hx.buck,hx.tlo,hx.thi,by show (0:Int)≤0;omega,by show (0:Int)≤1099511627776;omega,List.Pairwise.nil,by simp,by simp,List.Pairwise.nil,by simp,by simp⟩
    ·exact h.bk b hm
 split
 ·refine ⟨?_,by show (c.bucks.map _).length≤16;rw [List.length_map];exact h.bl,fun b hb=>?_,h.fs,h.fl⟩
  ·refine List.pairwise_map.2 (h.bs.imp fun {a b} hab=>?_);have e:∀ b:CBuck,(expireB x.time b).name=b.name:=fun b=>(by unfold expireB;split <;> rfl);rw [e,e];exact hab
  ·obtain ⟨b',hb',rfl⟩:=List.mem_map.1 hb;have h':=h.bk b' hb';unfold expireB
   split
   ·exact h'
   ·refine ⟨h'.name,h'.tlo,h'.thi,h'.dlo,h'.dhi,h'.os.filter _,?_,fun o ho=>h'.ob o (List.mem_filter.1 ho).1,h'.us,h'.ul,h'.up⟩;have:=List.length_filter_le (fun o=>!old b' x.time o) b'.objs;have:=h'.ol;show (b'.objs.filter _).length≤128;omega
 split
 ·refine ⟨h.bs,h.bl,h.bk,floorL_sort h.fs x.id,fun f hf=>?_⟩;have hf':f∈floorL c.floors x.id:=hf;rw [floor_put h.fs] at hf'
  split at hf'
  ·exact h.fl f hf'
  ·rcases (mem_put linZ' h.fs rfl f).1 hf' with rfl | ⟨hm,_⟩
   ·exact ⟨hx.nlo,hx.nhi⟩
   ·exact h.fl f hm
 split
 ·exact h
 ·rename_i k1 k10 k11 _ b hb
  split
  ·exact h
  split
  ·split
   ·exact h
   ·exact ⟨List.Pairwise.sublist (List.eraseIdx_sublist ..) h.bs,by have:=(List.eraseIdx_sublist c.bucks (posL CBuck.name lt c.bucks x.bucket)).length_le;have:=h.bl;show (c.bucks.eraseIdx _).length≤16;omega,fun b hb=>h.bk b ((List.eraseIdx_sublist ..).subset hb),h.fs,h.fl⟩
  ·rename_i hn k2
   have hin:=inBuck_ok sm hsm (h.bk b (List.mem_of_getElem? hb)) hx ⟨k1,k2,k10,k11⟩;have hnm:(inBuck sm b x).1.name=b.name:=inBuck_name sm b x;refine ⟨?_,by show (c.bucks.set _ _).length≤16;rw [List.length_set];exact h.bl,fun v hv=>?_,h.fs,h.fl⟩
   ·have hbn:b.name=x.bucket:=Decidable.byContradiction hn;have ht:thereL CBuck.name lt c.bucks x.bucket=true:=there_cases.2 ⟨b,hb,hbn⟩;have:c.bucks.set (posL CBuck.name lt c.bucks x.bucket) (inBuck sm b x).1=putL CBuck.name lt c.bucks x.bucket (inBuck sm b x).1:=(by unfold putL;rw [if_pos ht]);show SortB CBuck.name lt (c.bucks.set _ _);rw [this];exact sort_put linB h.bs (hnm.trans hbn)
   ·obtain ⟨j,hj⟩:=List.mem_iff_getElem?.1 hv;have hj':(c.bucks.set (posL CBuck.name lt c.bucks x.bucket) (inBuck sm b x).1)[j]?=some v:=hj;rw [List.getElem?_set] at hj'
    split at hj'
    ·split at hj'
     ·cases hj';exact hin
     ·cases hj'
    ·exact h.bk v (List.mem_of_getElem? hj')
end
end
section
section
variable {α κ:Type} (key:α→κ) (l:κ→κ→Prop) [DecidableRel l] [DecidableEq κ]
def atL (xs:List α) (k:κ):Option α:=if thereL key l xs k=true then xs[posL key l xs k]? else none
variable {key l}
theorem atL_iff (L:LinO l) {xs:List α} (hs:SortB key l xs) {k:κ} {x:α}:atL key l xs k=some x↔x∈xs∧key x=k:=by
 unfold atL
 constructor
 ·intro h
  split at h
  ·rename_i ht
   obtain ⟨y,hy,hk⟩:=there_at ht;rw [hy] at h
   cases h
   exact ⟨List.mem_of_getElem? hy,hk⟩
  ·cases h
 ·rintro ⟨hm,hk⟩;have ht:=(there_iff L hs).2 ⟨x,hm,hk⟩;rw [if_pos ht];obtain ⟨y,hy,hyk⟩:=there_at ht;rw [hy,sort_mem L hs (List.mem_of_getElem? hy) hm (hyk.trans hk.symm)]
theorem atL_none (L:LinO l) {xs:List α} (hs:SortB key l xs) {k:κ}:atL key l xs k=none↔∀ x∈xs,key x≠k:=by
 constructor
 ·intro h x hx hk;rw [(atL_iff L hs).2 ⟨hx,hk⟩] at h
  cases h
 ·intro h
  cases ha:atL key l xs k with
  | none=>rfl
  | some x=>exact absurd ((atL_iff L hs).1 ha).2 (h x ((atL_iff L hs).1 ha).1)
theorem atL_some {xs:List α} {k:κ} {x:α} (h:atL key l xs k=some x):xs[posL key l xs k]?=some x∧key x=k∧thereL key l xs k=true:=by
 unfold atL at h
 split at h
 ·rename_i ht
  obtain ⟨y,hy,hk⟩:=there_at ht;rw [hy] at h
  cases h
  exact ⟨hy,hk,ht⟩
 ·cases h
theorem atL_put (L:LinO l) {xs:List α} (hs:SortB key l xs) {k j:κ} {x:α} (hk:key x=k) (hj:j≠k):atL key l (putL key l xs k x) j=atL key l xs j:=by
 have hs2:=sort_put L hs hk
 cases ha:atL key l xs j with
 | none =>
  rw [atL_none L hs2];intro y hy e
  rcases (mem_put L hs hk y).1 hy with rfl | ⟨hm,-⟩
  ·exact hj (e.symm.trans hk)
  ·exact (atL_none L hs).1 ha y hm e
 | some y =>
  obtain ⟨hm,hy⟩:=(atL_iff L hs).1 ha;exact (atL_iff L hs2).2 ⟨(mem_put L hs hk y).2 (.inr ⟨hm,fun e=>hj (hy.symm.trans e)⟩),hy⟩
theorem atL_putSelf (L:LinO l) {xs:List α} (hs:SortB key l xs) {k:κ} {x:α} (hk:key x=k):atL key l (putL key l xs k x) k=some x :=
 (atL_iff L (sort_put L hs hk)).2 ⟨(mem_put L hs hk x).2 (.inl rfl),hk⟩
theorem atL_del (L:LinO l) {xs:List α} (hs:SortB key l xs) {k j:κ} (hj:j≠k):atL key l (delL key l xs k) j=atL key l xs j:=by
 have hs2:=sort_del L hs k
 cases ha:atL key l xs j with
 | none =>
  rw [atL_none L hs2];intro y hy e;rw [del_filter L hs] at hy;exact (atL_none L hs).1 ha y (List.mem_filter.1 hy).1 e
 | some y =>
  obtain ⟨hm,hy⟩:=(atL_iff L hs).1 ha;refine (atL_iff L hs2).2 ⟨?_,hy⟩;rw [del_filter L hs];exact List.mem_filter.2 ⟨hm,by simpa using fun e=>hj (hy.symm.trans e)⟩
theorem del_put (L:LinO l) {xs:List α} (hs:SortB key l xs) {k:κ} {x:α} (hk:key x=k) (hn:∀ y∈xs,key y≠k):delL key l (putL key l xs k x) k=xs:=by
 have hs2:=sort_put L hs hk;refine sort_ext L (sort_del L hs2 k) hs (fun y=>?_);rw [del_filter L hs2,List.mem_filter,mem_put L hs hk]
 constructor
 ·rintro ⟨rfl | ⟨h,-⟩,h2⟩
  ·simp [hk] at h2
  ·exact h
 ·intro h;exact ⟨.inr ⟨h,hn y h⟩,by simpa using hn y h⟩
theorem put_ne (L:LinO l) {xs:List α} (hs:SortB key l xs) {k:κ} {x:α} (hk:key x=k) (hn:∀ y∈xs,key y≠k):putL key l xs k x≠xs:=fun e =>
 hn x (by rw [← e];exact (mem_put L hs hk x).2 (.inl rfl)) hk
theorem put_put (L:LinO l) {xs:List α} (hs:SortB key l xs) {k:κ} {x y:α} (hk:key x=k) (hy:key y=k):putL key l (putL key l xs k x) k y=putL key l xs k y:=by
 have hs1:=sort_put L hs hk;refine sort_ext L (sort_put L hs1 hy) (sort_put L hs hy) (fun z=>?_);rw [mem_put L hs1 hy,mem_put L hs hk,mem_put L hs hy]
 constructor
 ·rintro (h | ⟨rfl | h,h2⟩)
  ·exact .inl h
  ·exact absurd hk h2
  ·exact .inr h
 ·rintro (h | ⟨h,h2⟩)
  ·exact .inl h
  ·exact .inr ⟨.inr ⟨h,h2⟩,h2⟩
end
def findB (c:Cat) (n:Bs):Option CBuck:=atL CBuck.name lt c.bucks n
def findO (c:Cat) (n k:Bs):Option CObj:=(findB c n).bind fun b=>atL CObj.key lt b.objs k
def findU (c:Cat) (n k:Bs) (id:Cid):Option CUpl:=(findB c n).bind fun b=>(atL CUpl.id ltI b.upls id).bind fun u=>if u.key=k then some u else none
section
variable (sm:List Pc→Bs)
theorem putO_bad {b:CBuck} {o:CObj} (h:(putO b o).2.code≠0):(putO b o).1=b∧(putO b o).2.etag=[]:=by
 unfold putO at h ⊢
 split
 ·exact ⟨rfl,rfl⟩
 ·rename_i hn
  rw [if_neg hn] at h;exact absurd rfl h
theorem inUpl_bad {b:CBuck} {i:Nat} {u:CUpl} {x:Cmd} (h:(inUpl sm b i u x).2.code≠0):(inUpl sm b i u x).1=b∧(inUpl sm b i u x).2.etag=[]:=by
 unfold inUpl at h ⊢
 by_cases h6:x.kind=6
 ·rw [if_pos h6] at h;exact absurd rfl h
 rw [if_neg h6] at h ⊢
 by_cases h8:x.kind=8
 ·rw [if_pos h8] at h;exact absurd rfl h
 rw [if_neg h8] at h ⊢
 cases hg:gather u.parts x.parts with
 | none=>exact ⟨rfl,rfl⟩
 | some l =>
  rw [hg] at h;dsimp only at h ⊢
  by_cases hc:(putO b ⟨x.key,sizes l,sm l,x.time,l⟩).2.code=0
  ·rw [if_pos hc] at h;exact absurd hc h
  ·rw [if_neg hc];exact putO_bad hc
theorem inBuck_bad {b:CBuck} {x:Cmd} (h:(inBuck sm b x).2.code≠0):(inBuck sm b x).1=b∧(inBuck sm b x).2.etag=[]:=by
 unfold inBuck at h ⊢
 by_cases h3:x.kind=3
 ·rw [if_pos h3] at h ⊢;exact putO_bad h
 rw [if_neg h3] at h ⊢
 by_cases h4:x.kind=4
 ·rw [if_pos h4] at h;exact absurd rfl h
 rw [if_neg h4] at h ⊢
 by_cases h5:x.kind=5
 ·rw [if_pos h5] at h ⊢
  by_cases hl:16≤b.upls.length
  ·rw [if_pos hl];exact ⟨rfl,rfl⟩
  ·rw [if_neg hl] at h;exact absurd rfl h
 rw [if_neg h5] at h ⊢
 by_cases h9:x.kind=9
 ·rw [if_pos h9] at h;exact absurd rfl h
 rw [if_neg h9] at h ⊢
 cases hp:b.upls[posL CUpl.id ltI b.upls x.upload]? with
 | none=>exact ⟨rfl,rfl⟩
 | some u =>
  rw [hp] at h;dsimp only at h ⊢
  by_cases hu:u.id=x.upload∧u.key=x.key
  ·rw [if_pos hu] at h ⊢;exact inUpl_bad sm h
  ·rw [if_neg hu];exact ⟨rfl,rfl⟩
theorem set_self {α:Type} {xs:List α} {i:Nat} {x:α} (h:xs[i]?=some x):xs.set i x=xs:=by
 apply List.ext_getElem?;intro j;rw [List.getElem?_set]
 split
 ·rename_i e;subst e
  rw [h]
  simp [(List.getElem?_eq_some_iff.1 h).1]
 ·rfl
theorem apply_bad {c:Cat} {x:Cmd} (h:(apply sm c x).2.code≠0):(apply sm c x).1=c∧(apply sm c x).2.etag=[]:=by
 unfold apply at h ⊢
 by_cases h1:x.kind=1
 ·simp only [if_pos h1] at h ⊢
  by_cases ht:thereL CBuck.name lt c.bucks x.bucket=true
  ·rw [if_pos ht];exact ⟨rfl,rfl⟩
  ·rw [if_neg ht] at h ⊢
   by_cases hl:16≤c.bucks.length
   ·rw [if_pos hl];exact ⟨rfl,rfl⟩
   ·rw [if_neg hl] at h;exact absurd rfl h
 simp only [if_neg h1] at h ⊢
 by_cases h10:x.kind=10
 ·rw [if_pos h10] at h;exact absurd rfl h
 rw [if_neg h10] at h ⊢
 by_cases h11:x.kind=11
 ·rw [if_pos h11] at h;exact absurd rfl h
 rw [if_neg h11] at h ⊢
 cases hp:c.bucks[posL CBuck.name lt c.bucks x.bucket]? with
 | none=>exact ⟨rfl,rfl⟩
 | some b =>
  rw [hp] at h;dsimp only at h ⊢
  by_cases hn:b.name≠x.bucket
  ·rw [if_pos hn];exact ⟨rfl,rfl⟩
  rw [if_neg hn] at h ⊢
  by_cases h2:x.kind=2
  ·rw [if_pos h2] at h ⊢
   by_cases hl:0 < b.objs.length+b.upls.length
   ·rw [if_pos hl];exact ⟨rfl,rfl⟩
   ·rw [if_neg hl] at h;exact absurd rfl h
  ·rw [if_neg h2] at h ⊢;obtain ⟨e1,e2⟩:=inBuck_bad sm h;refine ⟨?_,e2⟩;rw [e1,set_self hp]
theorem inBuck_apart {b:CBuck} (h:BkOk b) {x:Cmd} (hc:(inBuck sm b x).2.code=0) :
  (∀ y∈b.objs,y.key≠x.key→atL CObj.key lt (inBuck sm b x).1.objs y.key=some y)∧(∀ y∈b.upls,y.id≠x.upload→y.id≠x.id→atL CUpl.id ltI (inBuck sm b x).1.upls y.id=some y):=by
 have hO:∀ y∈b.objs,atL CObj.key lt b.objs y.key=some y:=fun y hy=>(atL_iff linB h.os).2 ⟨hy,rfl⟩;have hU:∀ y∈b.upls,atL CUpl.id ltI b.upls y.id=some y:=fun y hy=>(atL_iff linI h.us).2 ⟨hy,rfl⟩
 have hP:∀ o:CObj,o.key=x.key→(∀ y∈b.objs,y.key≠x.key→atL CObj.key lt (putO b o).1.objs y.key=some y)∧(putO b o).1.upls=b.upls:=by
  intro o ho;unfold putO
  split
  ·exact ⟨fun y hy _=>hO y hy,rfl⟩
  ·refine ⟨fun y hy hk=>?_,rfl⟩;show atL CObj.key lt (putL CObj.key lt b.objs o.key o) y.key=some y;rw [atL_put linB h.os rfl (by rw [ho];exact hk)];exact hO y hy
 have hE:∀ y∈b.upls,y.id≠x.upload→∀ u,b.upls[posL CUpl.id ltI b.upls x.upload]?=some u→u.id=x.upload→atL CUpl.id ltI (b.upls.eraseIdx (posL CUpl.id ltI b.upls x.upload)) y.id=some y:=by
  intro y hy hne u hu hid
  have he:b.upls.eraseIdx (posL CUpl.id ltI b.upls x.upload)=delL CUpl.id ltI b.upls x.upload:=by
   unfold delL;rw [if_pos ((there_iff linI h.us).2 ⟨u,List.mem_of_getElem? hu,hid⟩)]
  rw [he,atL_del linI h.us hne];exact hU y hy
 unfold inBuck at hc ⊢
 by_cases h3:x.kind=3
 ·simp only [if_pos h3] at hc ⊢;obtain ⟨e1,e2⟩:=hP ⟨x.key,x.piece.size,x.piece.etag,x.time,[x.piece]⟩ rfl;exact ⟨e1,fun y hy _ _=>by rw [e2];exact hU y hy⟩
 simp only [if_neg h3] at hc ⊢
 by_cases h4:x.kind=4
 ·simp only [if_pos h4] at hc ⊢;exact ⟨fun y hy hk=>by rw [atL_del linB h.os hk];exact hO y hy,fun y hy _ _=>hU y hy⟩
 simp only [if_neg h4] at hc ⊢
 by_cases h5:x.kind=5
 ·simp only [if_pos h5] at hc ⊢
  by_cases hl:16≤b.upls.length
  ·simp only [if_pos hl];exact ⟨fun y hy _=>hO y hy,fun y hy _ _=>hU y hy⟩
  ·simp only [if_neg hl];exact ⟨fun y hy _=>hO y hy,fun y hy _ hk=>(atL_put linI h.us (k:=x.id) (x:=⟨x.id,x.key,[]⟩) rfl hk).trans (hU y hy)⟩
 simp only [if_neg h5] at hc ⊢
 by_cases h9:x.kind=9
 ·simp only [if_pos h9];exact ⟨fun y hy _=>hO y hy,fun y hy _ _=>hU y hy⟩
 simp only [if_neg h9] at hc ⊢
 cases hp:b.upls[posL CUpl.id ltI b.upls x.upload]? with
 | none=>exact ⟨fun y hy _=>hO y hy,fun y hy _ _=>hU y hy⟩
 | some u =>
  rw [hp] at hc;dsimp only at hc ⊢
  by_cases hu:u.id=x.upload∧u.key=x.key
  ·rw [if_pos hu] at hc ⊢;unfold inUpl at hc ⊢
   by_cases h6:x.kind=6
   ·simp only [if_pos h6];refine ⟨fun y hy _=>hO y hy,fun y hy hk _=>?_⟩
    have he:b.upls.set (posL CUpl.id ltI b.upls x.upload) { u with parts:=putL CPart.num ltZ u.parts x.part ⟨x.part,x.piece⟩ }=putL CUpl.id ltI b.upls x.upload { u with parts:=putL CPart.num ltZ u.parts x.part ⟨x.part,x.piece⟩ }:=by
     unfold putL;rw [if_pos ((there_iff linI h.us).2 ⟨u,List.mem_of_getElem? hp,hu.1⟩)]
    rw [he];exact (atL_put linI h.us (k:=x.upload) (x:={ u with parts:=putL CPart.num ltZ u.parts x.part ⟨x.part,x.piece⟩ }) hu.1 hk).trans (hU y hy)
   simp only [if_neg h6] at hc ⊢
   by_cases h8:x.kind=8
   ·simp only [if_pos h8];exact ⟨fun y hy _=>hO y hy,fun y hy hk _=>hE y hy hk u hp hu.1⟩
   simp only [if_neg h8] at hc ⊢
   cases hg:gather u.parts x.parts with
   | none=>exact ⟨fun y hy _=>hO y hy,fun y hy _ _=>hU y hy⟩
   | some g =>
    obtain ⟨e1,e2⟩:=hP ⟨x.key,sizes g,sm g,x.time,g⟩ rfl;dsimp only
    split
    ·exact ⟨e1,fun y hy hk _=>hE y hy hk u hp hu.1⟩
    ·exact ⟨e1,fun y hy _ _=>by rw [e2];exact hU y hy⟩
  ·rw [if_neg hu];exact ⟨fun y hy _=>hO y hy,fun y hy _ _=>hU y hy⟩
theorem apply_apart {c:Cat} (h:CatOk c) {x:Cmd} (hc:(apply sm c x).2.code=0) (hk:x.kind≠10) {b:CBuck} (hb:b∈c.bucks) :
  (b.name≠x.bucket→findB (apply sm c x).1 b.name=some b) ∧
  (b.name=x.bucket→(∀ y∈b.objs,y.key≠x.key→findO (apply sm c x).1 b.name y.key=some y)∧∀ y∈b.upls,y.id≠x.upload→y.id≠x.id→findU (apply sm c x).1 b.name y.key y.id=some y):=by
 have hB:∀ b∈c.bucks,atL CBuck.name lt c.bucks b.name=some b:=fun b hb=>(atL_iff linB h.bs).2 ⟨hb,rfl⟩;have hbk:=h.bk b hb
 have hS:∀ d:Cat,atL CBuck.name lt d.bucks b.name=some b→(b.name≠x.bucket→findB d b.name=some b)∧(b.name=x.bucket→(∀ y∈b.objs,y.key≠x.key→findO d b.name y.key=some y)∧∀ y∈b.upls,y.id≠x.upload→y.id≠x.id→findU d b.name y.key y.id=some y):=by
  intro d hd;refine ⟨fun _=>hd,fun _=>⟨fun y hy _=>?_,fun y hy _ _=>?_⟩⟩
  ·unfold findO findB;rw [hd];exact (atL_iff linB hbk.os).2 ⟨hy,rfl⟩
  ·unfold findU findB;rw [hd];show (atL CUpl.id ltI b.upls y.id).bind _=_;rw [(atL_iff linI hbk.us).2 ⟨hy,rfl⟩];exact if_pos rfl
 unfold apply at hc ⊢
 by_cases h1:x.kind=1
 ·simp only [if_pos h1] at hc ⊢
  by_cases ht:thereL CBuck.name lt c.bucks x.bucket=true
  ·simp only [if_pos ht];exact hS c (hB b hb)
  ·simp only [if_neg ht]
   by_cases hl:16≤c.bucks.length
   ·simp only [if_pos hl];exact hS c (hB b hb)
   ·simp only [if_neg hl];refine hS _ ?_;have hne:b.name≠x.bucket:=fun e=>ht ((there_iff linB h.bs).2 ⟨b,hb,e⟩);show atL CBuck.name lt (putL CBuck.name lt c.bucks x.bucket ⟨x.bucket,x.time,0,[],[]⟩) b.name=some b;exact (atL_put linB h.bs (k:=x.bucket) (x:=⟨x.bucket,x.time,0,[],[]⟩) rfl hne).trans (hB b hb)
 simp only [if_neg h1,if_neg hk] at hc ⊢
 by_cases h11:x.kind=11
 ·simp only [if_pos h11];exact hS _ (hB b hb)
 simp only [if_neg h11] at hc ⊢
 cases hp:c.bucks[posL CBuck.name lt c.bucks x.bucket]? with
 | none=>exact hS c (hB b hb)
 | some z =>
  rw [hp] at hc;dsimp only at hc ⊢
  by_cases hn:z.name≠x.bucket
  ·simp only [if_pos hn];exact hS c (hB b hb)
  have hz:z.name=x.bucket:=Decidable.not_not.1 hn;simp only [if_neg hn] at hc ⊢;have ht:=(there_iff linB h.bs).2 ⟨z,List.mem_of_getElem? hp,hz⟩
  by_cases h2:x.kind=2
  ·simp only [if_pos h2] at hc ⊢
   by_cases hl:0 < z.objs.length+z.upls.length
   ·simp only [if_pos hl];exact hS c (hB b hb)
   ·simp only [if_neg hl]
    have he:c.bucks.eraseIdx (posL CBuck.name lt c.bucks x.bucket)=delL CBuck.name lt c.bucks x.bucket:=by
     unfold delL;rw [if_pos ht]
    by_cases hne:b.name=x.bucket
    ·have hbz:b=z:=sort_mem linB h.bs hb (List.mem_of_getElem? hp) (hne.trans hz.symm);subst hbz;refine ⟨fun h=>absurd hne h,fun _=>⟨fun y hy _=>?_,fun y hy _ _=>?_⟩⟩
     ·have:=List.length_pos_of_mem hy;omega
     ·have:=List.length_pos_of_mem hy;omega
    ·refine hS _ ?_;show atL CBuck.name lt (c.bucks.eraseIdx _) b.name=some b;rw [he,atL_del linB h.bs hne];exact hB b hb
  ·simp only [if_neg h2] at hc ⊢
   have he:c.bucks.set (posL CBuck.name lt c.bucks x.bucket) (inBuck sm z x).1=putL CBuck.name lt c.bucks x.bucket (inBuck sm z x).1:=by
    unfold putL;rw [if_pos ht]
   have hnm:(inBuck sm z x).1.name=x.bucket:=(inBuck_name sm z x).trans hz
   by_cases hne:b.name=x.bucket
   ·have hbz:b=z:=sort_mem linB h.bs hb (List.mem_of_getElem? hp) (hne.trans hz.symm);subst hbz
    have hat:atL CBuck.name lt (c.bucks.set (posL CBuck.name lt c.bucks x.bucket) (inBuck sm b x).1) b.name=some (inBuck sm b x).1:=by
     rw [he,hne];exact atL_putSelf linB h.bs hnm
    obtain ⟨a1,a2⟩:=inBuck_apart sm hbk hc;refine ⟨fun h=>absurd hne h,fun _=>⟨fun y hy hyk=>?_,fun y hy hy1 hy2=>?_⟩⟩
    ·unfold findO findB;rw [hat];exact a1 y hy hyk
    ·unfold findU findB;rw [hat];show (atL CUpl.id ltI (inBuck sm b x).1.upls y.id).bind _=_;rw [a2 y hy hy1 hy2];exact if_pos rfl
   ·refine hS _ ?_;show atL CBuck.name lt (c.bucks.set _ _) b.name=some b;rw [he,atL_put linB h.bs hnm hne];exact hB b hb
end
end
section
section
variable {α κ:Type} {key:α→κ} {l:κ→κ→Prop} [DecidableRel l] [DecidableEq κ]
theorem put_same {xs:List α} {k:κ} {x:α} (h:atL key l xs k=some x):putL key l xs k x=xs:=by
 obtain ⟨h1,h2,h3⟩:=atL_some h;unfold putL;rw [if_pos h3,set_self h1]
end
section
variable (sm:List Pc→Bs)
theorem apply_in (c:Cat) {x:Cmd} (h1:x.kind≠1) (h2:x.kind≠2) (h10:x.kind≠10) (h11:x.kind≠11) :
  apply sm c x=match atL CBuck.name lt c.bucks x.bucket with
   | none=>(c,⟨1,[]⟩)
   | some b=>({ c with bucks:=putL CBuck.name lt c.bucks x.bucket (inBuck sm b x).1 },(inBuck sm b x).2):=by
 unfold apply;rw [if_neg h1,if_neg h10,if_neg h11]
 cases ha:atL CBuck.name lt c.bucks x.bucket with
 | none =>
  dsimp only
  cases hp:c.bucks[posL CBuck.name lt c.bucks x.bucket]? with
  | none=>rfl
  | some b =>
   dsimp only
   by_cases hn:b.name=x.bucket
   ·have ht:thereL CBuck.name lt c.bucks x.bucket=true:=there_cases.2 ⟨b,hp,hn⟩;unfold atL at ha;rw [if_pos ht,hp] at ha
    cases ha
   ·rw [if_pos hn]
 | some b =>
  obtain ⟨e1,e2,e3⟩:=atL_some ha;rw [e1];dsimp only;rw [if_neg (by simpa using e2),if_neg h2];unfold putL;rw [if_pos e3]
theorem back_none {c:Cat} {x y:Cmd} (hx:x.kind=3) (hy:y.kind=4) (hb:y.bucket=x.bucket) (h:(apply sm c x).2.code=1):(apply sm (apply sm c x).1 y).2.code=1∧(apply sm (apply sm c x).1 y).1=c:=by
 have e:=apply_in sm c (x:=x) (by omega) (by omega) (by omega) (by omega);have hc:=(apply_bad sm (by rw [h];decide:(apply sm c x).2.code≠0)).1;rw [hc];have e2:=apply_in sm c (x:=y) (by omega) (by omega) (by omega) (by omega);rw [hb] at e2
 cases ha:atL CBuck.name lt c.bucks x.bucket with
 | none=>rw [ha] at e2;rw [e2];exact ⟨rfl,rfl⟩
 | some b =>
  rw [ha] at e;rw [e] at h;dsimp only at h;unfold inBuck at h;rw [if_pos hx] at h
  rcases putO_code b ⟨x.key,x.piece.size,x.piece.etag,x.time,[x.piece]⟩ with h7 | ⟨h0,-⟩
  ·rw [h7] at h;cases h
  ·rw [h0] at h;cases h
theorem back_put {c:Cat} (h:CatOk c) {x y:Cmd} (hx:x.kind=3) (hy:y.kind=4) (hb:y.bucket=x.bucket) (hk:y.key=x.key) (hn:findO c x.bucket x.key=none) (h0:(apply sm c x).2.code=0) :
  (apply sm (apply sm c x).1 y).2.code=0∧(apply sm c x).2.etag=x.piece.etag∧(apply sm (apply sm c x).1 y).1=c∧(apply sm c x).1≠c:=by
 have e:=apply_in sm c (x:=x) (by omega) (by omega) (by omega) (by omega)
 cases ha:atL CBuck.name lt c.bucks x.bucket with
 | none =>
  rw [ha] at e;rw [e] at h0;exact absurd (show (1:Int)=0 from h0) (by decide)
 | some b =>
  rw [ha] at e;dsimp only at e;obtain ⟨hm,hbn⟩:=(atL_iff linB h.bs).1 ha;have hbk:=h.bk b hm
  have hno:∀ o∈b.objs,o.key≠x.key:=by
   unfold findO findB at hn;rw [ha] at hn;exact (atL_none linB hbk.os).1 hn
  obtain ⟨O,hO⟩:∃ O:CObj,O=⟨x.key,x.piece.size,x.piece.etag,x.time,[x.piece]⟩:=⟨_,rfl⟩;have hOk:O.key=x.key:=(by rw [hO]);have hOe:O.etag=x.piece.etag:=(by rw [hO]);have hin:inBuck sm b x=putO b O:=(by unfold inBuck;rw [if_pos hx,hO]);rw [hin] at e;rw [e] at h0;dsimp only at h0
  have hp:putO b O=({ b with objs:=putL CObj.key lt b.objs O.key O },⟨0,O.etag⟩):=by
   unfold putO at h0 ⊢
   split
   ·rename_i hc;rw [if_pos hc] at h0;cases h0
   ·rfl
  rw [hp] at e;dsimp only at e;rw [hOk] at e;obtain ⟨b',hb'⟩:∃ b':CBuck,b'={ b with objs:=putL CObj.key lt b.objs x.key O }:=⟨_,rfl⟩;rw [← hb'] at e;have hb'n:b'.name=x.bucket:=(by rw [hb'];exact hbn);have hat:atL CBuck.name lt (putL CBuck.name lt c.bucks x.bucket b') x.bucket=some b':=atL_putSelf linB h.bs hb'n;have e2:=apply_in sm { c with bucks:=putL CBuck.name lt c.bucks x.bucket b' } (x:=y) (by omega) (by omega) (by omega) (by omega);rw [hb] at e2;dsimp only at e2;rw [hat] at e2;dsimp only at e2
  have hdel:inBuck sm b' y=(b,⟨0,[]⟩):=by
   unfold inBuck;rw [if_neg (by omega),if_pos hy,hk,hb'];dsimp only;rw [del_put linB hbk.os hOk hno]
  rw [hdel] at e2;dsimp only at e2;rw [put_put linB h.bs hb'n hbn,put_same ha] at e2;rw [e];dsimp only;rw [e2];refine ⟨rfl,hOe,rfl,fun hcc=>?_⟩;have hbb:putL CBuck.name lt c.bucks x.bucket b'=c.bucks:=congrArg Cat.bucks hcc
  have hmb:b'∈c.bucks:=by
   rw [← hbb];exact (mem_put linB h.bs hb'n b').2 (.inl rfl)
  have hbe:b'=b:=sort_mem linB h.bs hmb hm (hb'n.trans hbn.symm)
  have hoo:putL CObj.key lt b.objs x.key O=b.objs:=by
   have:=congrArg CBuck.objs hbe;rw [hb'] at this;exact this
  exact put_ne linB hbk.os hOk hno hoo
end
end
section
theorem find_at' {ps:List CPart} (hs:SortB CPart.num ltZ ps) {k:Int} {p:CPart} (h:atL CPart.num ltZ ps k=some p):ps.find? (fun q=>decide (q.num=k))=some p:=by
 obtain ⟨hm,hk⟩:=(atL_iff linZ' hs).1 h
 cases hf:ps.find? (fun q=>decide (q.num=k)) with
 | none =>
  have:=List.find?_eq_none.1 hf p hm
  simp [hk] at this
 | some q =>
  have h1:=List.mem_of_find?_eq_some hf;have h2:=List.find?_some hf;rw [sort_mem linZ' hs h1 hm (by rw [hk];simpa using h2)]
section
variable (sm:List Pc→Bs)
end
end
end Go.Proofs.YtfeglnpmpgipiaaGreatDoor
