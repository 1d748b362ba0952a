/- CmpPk, part 4: ListMath, SortMath, CatMath, CatInv, CatStep, CatApart, CatFull, CatComp. -/
import Derived.Lib.IndexLaws
import GoSem.Op.String
set_option linter.unusedVariables false
set_option maxRecDepth 100000
set_option linter.unusedSimpArgs false
namespace Go.Proofs.YtfeglnpmpgipiaaGreatDoor
section
abbrev Bs:=List UInt8
def lt (a b:Bs):Prop:=Op.bytesLess a b=true
instance (a b:Bs):Decidable (lt a b):=inferInstanceAs (Decidable (_=true))
theorem lt_irrefl:∀ (a:Bs),¬ lt a a
 | []=>by simp [lt,Op.bytesLess]
 | a :: x=>by
  have:=lt_irrefl x;simp only [lt,Op.bytesLess,Bool.or_eq_true,Bool.and_eq_true,decide_eq_true_eq,beq_iff_eq] at this ⊢;rintro (h | ⟨_,h⟩)
  ·exact absurd h (by simp)
  ·exact this h
theorem lt_trans:∀ {a b c:Bs},lt a b→lt b c→lt a c
 | a,b,[],_,h=>by simp [lt,Op.bytesLess] at h
 | a,[],c :: t,h,_=>by cases a <;> simp [lt,Op.bytesLess] at h
 | [],b :: y,c :: z,_,_=>by simp [lt,Op.bytesLess]
 | a :: x,b :: y,c :: z,h,k=>by
  have ih:=@lt_trans x y z;simp only [lt,Op.bytesLess,Bool.or_eq_true,Bool.and_eq_true,decide_eq_true_eq,beq_iff_eq] at ih h k ⊢
  rcases h with h | ⟨rfl,h⟩
  ·rcases k with k | ⟨rfl,k⟩
   ·exact .inl (UInt8.lt_trans h k)
   ·exact .inl h
  ·rcases k with k | ⟨rfl,k⟩
   ·exact .inl k
   ·exact .inr ⟨rfl,ih h k⟩
theorem lt_total:∀ (a b:Bs),lt a b∨a=b∨lt b a
 | [],[]=>.inr (.inl rfl)
 | [],b :: y=>.inl (by simp [lt,Op.bytesLess])
 | a :: x,[]=>.inr (.inr (by simp [lt,Op.bytesLess]))
 | a :: x,b :: y=>by
  have ih:=lt_total x y;simp only [lt,Op.bytesLess,Bool.or_eq_true,Bool.and_eq_true,decide_eq_true_eq,beq_iff_eq,List.cons.injEq] at ih ⊢
  by_cases h1:a < b
  ·exact .inl (.inl h1)
  ·by_cases h2:b < a
   ·exact .inr (.inr (.inl h2))
   ·have e:a=b:=UInt8.le_antisymm (UInt8.not_lt.1 h2) (UInt8.not_lt.1 h1);subst e
    rcases ih with h | h | h
    ·exact .inl (.inr ⟨rfl,h⟩)
    ·exact .inr (.inl ⟨rfl,h⟩)
    ·exact .inr (.inr (.inr ⟨rfl,h⟩))
end
section
structure LinO {κ:Type} (l:κ→κ→Prop):Prop where
 irr:∀ a,¬ l a a
 trans:∀ {a b c},l a b→l b c→l a c
 tot:∀ a b,l a b∨a=b∨l b a
theorem linB:LinO lt:=⟨lt_irrefl,lt_trans,lt_total⟩
theorem linZ:LinO (fun a b:Int=>a < b):=⟨fun a h=>by omega,fun h k=>by omega,fun a b=>by omega⟩
section
variable {α κ:Type} (key:α→κ) (l:κ→κ→Prop) [DecidableRel l] [DecidableEq κ]
def SortB (xs:List α):Prop:=xs.Pairwise fun a b=>l (key a) (key b)
def posL (xs:List α) (k:κ):Nat:=(xs.takeWhile fun x=>decide (l (key x) k)).length
def thereL (xs:List α) (k:κ):Bool:=match xs[posL key l xs k]? with
 | some x=>decide (key x=k)
 | none=>false
def putL (xs:List α) (k:κ) (x:α):List α:=if thereL key l xs k=true then xs.set (posL key l xs k) x else xs.take (posL key l xs k) ++ x :: xs.drop (posL key l xs k)
def delL (xs:List α) (k:κ):List α:=if thereL key l xs k=true then xs.eraseIdx (posL key l xs k) else xs
variable {key l}
omit [DecidableEq κ] in
theorem posL_le (xs:List α) (k:κ):posL key l xs k≤xs.length:=by
 unfold posL;exact (List.takeWhile_prefix _).length_le
omit [DecidableEq κ] in
theorem posL_lt {xs:List α} {k:κ} {j:Nat} {x:α} (hj:j < posL key l xs k) (hx:xs[j]?=some x):l (key x) k:=by
 have h1:(xs.takeWhile fun x=>decide (l (key x) k))[j]?=some x:=by
  obtain ⟨t,ht⟩:=List.takeWhile_prefix (l:=xs) (fun x=>decide (l (key x) k));rw [← ht,List.getElem?_append_left hj] at hx;exact hx
 have h2:=List.mem_of_getElem? h1
 have h3:∀ (ys:List α),x∈ys.takeWhile (fun x=>decide (l (key x) k))→decide (l (key x) k)=true:=fun ys=>by
  induction ys with
  | nil=>intro h;cases h
  | cons y ys ih =>
   intro h;rw [List.takeWhile_cons] at h
   split at h
   ·rename_i hy
    rcases List.mem_cons.1 h with e | h
    ·rw [e];exact hy
    ·exact ih h
   ·cases h
 exact of_decide_eq_true (h3 xs h2)
omit [DecidableEq κ] in
theorem posL_at {xs:List α} {k:κ} {x:α} (hx:xs[posL key l xs k]?=some x):¬ l (key x) k:=by
 unfold posL at hx
 induction xs with
 | nil=>cases hx
 | cons y ys ih =>
  rw [List.takeWhile_cons] at hx
  split at hx
  ·exact ih (by simpa using hx)
  ·rename_i hy
   simp at hx
   subst hx
   simpa using hy
variable (L:LinO l)
include L
omit [DecidableEq κ] in

theorem posL_ge {xs:List α} (hs:SortB key l xs) {k:κ} {j:Nat} {x:α} (hj:posL key l xs k≤j) (hx:xs[j]?=some x):¬ l (key x) k:=by
 intro hl;obtain ⟨hjl,hxe⟩:=List.getElem?_eq_some_iff.1 hx;have hp:posL key l xs k < xs.length:=(by omega);have h0:=posL_at (List.getElem?_eq_getElem hp)
 rcases Nat.eq_or_lt_of_le hj with h | h
 ·subst h;subst hxe;exact h0 hl
 ·have h1:=List.pairwise_iff_getElem.1 hs _ _ hp hjl h;rw [hxe] at h1;exact h0 (L.trans h1 hl)
omit [DecidableEq κ] in
theorem posL_eq {xs:List α} (hs:SortB key l xs) {k:κ} {n:Nat} (hn:n≤xs.length) (h1:∀ x,0 < n→xs[n - 1]?=some x→l (key x) k) (h2:∀ x,xs[n]?=some x→¬ l (key x) k):posL key l xs k=n:=by
 have hp:=posL_le (key:=key) (l:=l) xs k
 rcases Nat.lt_trichotomy (posL key l xs k) n with h | h | h
 ·have hl:posL key l xs k < xs.length:=(by omega);have h3:=posL_at (List.getElem?_eq_getElem hl);obtain ⟨y,hy⟩:∃ y,xs[n - 1]?=some y:=⟨_,List.getElem?_eq_getElem (by omega)⟩;have h4:=h1 y (by omega) hy;exact absurd h4 (posL_ge L hs (by omega) hy)
 ·exact h
 ·obtain ⟨y,hy⟩:∃ y,xs[n]?=some y:=⟨_,List.getElem?_eq_getElem (by omega)⟩;exact absurd (posL_lt h hy) (h2 y hy)
theorem there_iff {xs:List α} (hs:SortB key l xs) {k:κ}:thereL key l xs k=true↔∃ x∈xs,key x=k:=by
 unfold thereL
 constructor
 ·intro h
  split at h
  ·rename_i x hx
   exact ⟨x,List.mem_of_getElem? hx,of_decide_eq_true h⟩
  ·cases h
 ·rintro ⟨x,hx,hk⟩;obtain ⟨j,hj⟩:=List.mem_iff_getElem?.1 hx
  have h0:posL key l xs k=j:=posL_eq L hs (by have:=(List.getElem?_eq_some_iff.1 hj).1;omega) (fun y h0 hy=>by
   obtain ⟨h1,h2⟩:=List.getElem?_eq_some_iff.1 hj;obtain ⟨h3,h4⟩:=List.getElem?_eq_some_iff.1 hy;have h5:=List.pairwise_iff_getElem.1 hs _ _ h3 h1 (by omega);rw [h2,h4,hk] at h5
   exact h5) (fun y hy=>by rw [hj] at hy;cases hy;rw [hk];exact L.irr k)
  rw [h0,hj]
  simpa using hk
omit L in
theorem there_at {xs:List α} {k:κ} (h:thereL key l xs k=true):∃ x,xs[posL key l xs k]?=some x∧key x=k:=by
 unfold thereL at h
 split at h
 ·rename_i x hx
  exact ⟨x,hx,of_decide_eq_true h⟩
 ·cases h
omit [DecidableEq κ] [DecidableRel l] in
theorem sort_uniq {xs:List α} (hs:SortB key l xs) {i j:Nat} {x y:α} (hx:xs[i]?=some x) (hy:xs[j]?=some y) (h:key x=key y):i=j:=by
 obtain ⟨h1,h2⟩:=List.getElem?_eq_some_iff.1 hx;obtain ⟨h3,h4⟩:=List.getElem?_eq_some_iff.1 hy
 rcases Nat.lt_trichotomy i j with hl | hl | hl
 ·have h5:=List.pairwise_iff_getElem.1 hs _ _ h1 h3 hl;rw [h2,h4,h] at h5;exact absurd h5 (L.irr _)
 ·exact hl
 ·have h5:=List.pairwise_iff_getElem.1 hs _ _ h3 h1 hl;rw [h2,h4,h] at h5;exact absurd h5 (L.irr _)
omit [DecidableEq κ] [DecidableRel l] in
theorem sort_mem {xs:List α} (hs:SortB key l xs) {x y:α} (hx:x∈xs) (hy:y∈xs) (h:key x=key y):x=y:=by
 obtain ⟨i,hi⟩:=List.mem_iff_getElem?.1 hx;obtain ⟨j,hj⟩:=List.mem_iff_getElem?.1 hy;have:=sort_uniq L hs hi hj h;subst this;rw [hi] at hj;exact Option.some.inj hj
omit L [DecidableEq κ] [DecidableRel l] in
theorem sort_app {xs ys:List α}:SortB key l (xs ++ ys)↔SortB key l xs∧SortB key l ys∧∀ x∈xs,∀ y∈ys,l (key x) (key y):=List.pairwise_append
theorem sort_put {xs:List α} (hs:SortB key l xs) {k:κ} {x:α} (hk:key x=k):SortB key l (putL key l xs k x):=by
 unfold putL
 have hlt:∀ y∈xs.take (posL key l xs k),l (key y) k:=fun y hy=>by
  obtain ⟨j,hj⟩:=List.mem_iff_getElem?.1 hy;rw [List.getElem?_take] at hj
  split at hj
  ·exact posL_lt (by assumption) hj
  ·cases hj
 have hge:∀ (n:Nat),posL key l xs k≤n→(∀ y,xs[n]?=some y→key y≠k)→(∀ y∈xs.drop n,l k (key y)):=fun n hn hne y hy=>by
  obtain ⟨j,hj⟩:=List.mem_iff_getElem?.1 hy;rw [List.getElem?_drop] at hj;have h1:¬ l (key y) k:=posL_ge L hs (k:=k) (Nat.le_trans hn (Nat.le_add_right n j)) hj
  rcases L.tot (key y) k with h | h | h
  ·exact absurd h h1
  ·exfalso
   have hp:xs[n]?≠none:=fun e=>by
    have:=List.getElem?_eq_none_iff.1 e;have:=(List.getElem?_eq_some_iff.1 hj).1;omega
   obtain ⟨z,hz⟩:∃ z,xs[n]?=some z:=Option.ne_none_iff_exists'.1 hp;have h2:=posL_ge L hs hn hz
   by_cases h0:j=0
   ·subst h0;rw [Nat.add_zero] at hj;exact hne y hj h
   ·obtain ⟨h3,h4⟩:=List.getElem?_eq_some_iff.1 hz;obtain ⟨h5,h6⟩:=List.getElem?_eq_some_iff.1 hj;have h7:=List.pairwise_iff_getElem.1 hs _ _ h3 h5 (by omega);rw [h4,h6,h] at h7;exact h2 h7
  ·exact h
 split
 ·rename_i ht
  obtain ⟨y,hy,hyk⟩:=there_at ht;obtain ⟨hlen,hye⟩:=List.getElem?_eq_some_iff.1 hy;rw [List.set_eq_take_append_cons_drop,if_pos hlen];have hs2:=hs;rw [← List.take_append_drop (posL key l xs k) xs,List.drop_eq_getElem_cons hlen,hye] at hs2;obtain ⟨p1,p2,p3⟩:=sort_app.1 hs2;refine sort_app.2 ⟨p1,List.Pairwise.cons (fun z hz=>?_) (List.pairwise_cons.1 p2).2,fun u hu v hv=>?_⟩
  ·rw [hk,← hyk];exact (List.pairwise_cons.1 p2).1 z hz
  ·rcases List.mem_cons.1 hv with rfl | hv
   ·rw [hk];exact hlt u hu
   ·exact p3 u hu v (List.mem_cons_of_mem _ hv)
 ·rename_i ht
  have hnk:∀ y,xs[posL key l xs k]?=some y→key y≠k:=fun y hy e=>ht ((there_iff L hs).2 ⟨y,List.mem_of_getElem? hy,e⟩);have hs2:=hs;rw [← List.take_append_drop (posL key l xs k) xs] at hs2;obtain ⟨p1,p2,p3⟩:=sort_app.1 hs2;refine sort_app.2 ⟨p1,List.Pairwise.cons (fun z hz=>?_) p2,fun u hu v hv=>?_⟩
  ·rw [hk];exact hge _ (Nat.le_refl _) hnk z hz
  ·rcases List.mem_cons.1 hv with rfl | hv
   ·rw [hk];exact hlt u hu
   ·exact p3 u hu v hv
theorem del_filter {xs:List α} (hs:SortB key l xs) (k:κ):delL key l xs k=xs.filter (fun x=>decide (key x≠k)):=by
 unfold delL
 split
 ·rename_i ht
  obtain ⟨y,hy,hyk⟩:=there_at ht;obtain ⟨hlen,hye⟩:=List.getElem?_eq_some_iff.1 hy;rw [List.eraseIdx_eq_take_drop_succ]
  conv=>rhs;rw [← List.take_append_drop (posL key l xs k) xs,List.drop_eq_getElem_cons hlen,hye]
  rw [List.filter_append,List.filter_cons_of_neg (by simp [hyk])]
  congr 1
  ·refine (List.filter_eq_self.2 fun x hx=>?_).symm;obtain ⟨j,hj⟩:=List.mem_iff_getElem?.1 hx;rw [List.getElem?_take] at hj
   split at hj
   ·rename_i hjl
    refine decide_eq_true fun e=>?_;have:=sort_uniq L hs hj hy (e.trans hyk.symm);omega
   ·cases hj
  ·refine (List.filter_eq_self.2 fun x hx=>?_).symm;obtain ⟨j,hj⟩:=List.mem_iff_getElem?.1 hx;rw [List.getElem?_drop] at hj;refine decide_eq_true fun e=>?_;have:=sort_uniq L hs hj hy (e.trans hyk.symm);omega
 ·rename_i ht
  refine (List.filter_eq_self.2 fun x hx=>?_).symm;exact decide_eq_true (p:=key x≠k) fun e=>ht ((there_iff L hs).2 ⟨x,hx,e⟩)
theorem sort_del {xs:List α} (hs:SortB key l xs) (k:κ):SortB key l (delL key l xs k):=by
 rw [del_filter L hs];exact hs.filter _
theorem mem_put {xs:List α} (hs:SortB key l xs) {k:κ} {x:α} (hk:key x=k) (y:α):y∈putL key l xs k x↔y=x∨(y∈xs∧key y≠k):=by
 unfold putL
 split
 ·rename_i ht
  obtain ⟨z,hz,hzk⟩:=there_at ht
  constructor
  ·intro h;obtain ⟨j,hj⟩:=List.mem_iff_getElem?.1 h;rw [List.getElem?_set] at hj
   split at hj
   ·split at hj
    ·exact .inl (Option.some.inj hj).symm
    ·cases hj
   ·rename_i hne
    refine .inr ⟨List.mem_of_getElem? hj,fun e=>hne ?_⟩;exact (sort_uniq L hs hj hz (e.trans hzk.symm)).symm
  ·have hlen:=(List.getElem?_eq_some_iff.1 hz).1;rintro (rfl | ⟨hy,hne⟩)
   ·exact List.mem_iff_getElem?.2 ⟨posL key l xs k,by rw [List.getElem?_set_self hlen]⟩
   ·obtain ⟨j,hj⟩:=List.mem_iff_getElem?.1 hy;refine List.mem_iff_getElem?.2 ⟨j,?_⟩;rw [List.getElem?_set_ne (fun e=>hne (by rw [e,hj] at hz;cases hz;exact hzk)),hj]
 ·rename_i ht
  rw [List.mem_append,List.mem_cons]
  have hm:y∈xs↔y∈xs.take (posL key l xs k)∨y∈xs.drop (posL key l xs k):=by
   conv=>lhs;rw [← List.take_append_drop (posL key l xs k) xs]
   rw [List.mem_append]
  constructor
  ·rintro (h | h | h)
   ·exact .inr ⟨hm.2 (.inl h),fun e=>ht ((there_iff L hs).2 ⟨y,hm.2 (.inl h),e⟩)⟩
   ·exact .inl h
   ·exact .inr ⟨hm.2 (.inr h),fun e=>ht ((there_iff L hs).2 ⟨y,hm.2 (.inr h),e⟩)⟩
  ·rintro (h | ⟨h,-⟩)
   ·exact .inr (.inl h)
   ·exact (hm.1 h).imp id .inr
omit L in
theorem put_length (xs:List α) (k:κ) (x:α):(putL key l xs k x).length=if thereL key l xs k=true then xs.length else xs.length+1:=by
 unfold putL
 split
 ·simp
 ·have:=posL_le (key:=key) (l:=l) xs k
  simp
  omega
end
end
section
structure Cid where
 node:Int
 boot:Int
 seq:Int
 deriving DecidableEq
structure Pc where
 blob:Cid
 size:Int
 etag:Bs
 deriving DecidableEq
structure CObj where
 key:Bs
 size:Int
 etag:Bs
 time:Int
 pcs:List Pc
 deriving DecidableEq
structure CPart where
 num:Int
 pc:Pc
 deriving DecidableEq
structure CUpl where
 id:Cid
 key:Bs
 parts:List CPart
 deriving DecidableEq
structure CBuck where
 name:Bs
 time:Int
 days:Int
 objs:List CObj
 upls:List CUpl
 deriving DecidableEq
structure Cat where
 bucks:List CBuck
 floors:List Cid
 deriving DecidableEq
structure Cmd where
 kind:Int
 id:Cid
 bucket:Bs
 key:Bs
 upload:Cid
 piece:Pc
 part:Int
 parts:List Int
 time:Int
 days:Int
 deriving DecidableEq
structure Outc where
 code:Int
 etag:Bs
 deriving DecidableEq
def ltI (a b:Cid):Prop:=a.node < b.node∨(a.node=b.node∧(a.boot < b.boot∨(a.boot=b.boot∧a.seq < b.seq)))
instance (a b:Cid):Decidable (ltI a b):=inferInstanceAs (Decidable (_∨_))
theorem linI:LinO ltI:=by
 refine ⟨fun a h=>?_,fun {a b c} h k=>?_,fun a b=>?_⟩
 ·unfold ltI at h;omega
 ·unfold ltI at h k ⊢;omega
 ·unfold ltI
  cases a with | mk n1 b1 s1=>cases b with | mk n2 b2 s2 =>
  simp only [Cid.mk.injEq];omega
def ltZ (a b:Int):Prop:=a < b
instance (a b:Int):Decidable (ltZ a b):=inferInstanceAs (Decidable (a < b))
theorem linZ':LinO ltZ:=linZ
section
variable (sm:List Pc→Bs)
def putO (b:CBuck) (o:CObj):CBuck × Outc :=
 if thereL CObj.key lt b.objs o.key=false∧128≤b.objs.length then (b,⟨7,[]⟩)
 else ({ b with objs:=putL CObj.key lt b.objs o.key o },⟨0,o.etag⟩)
def gather (ps:List CPart):List Int→Option (List Pc)
 | []=>some []
 | n :: ns=>match ps.find? (fun p=>decide (p.num=n)) with
  | none=>none
  | some p=>(gather ps ns).map (p.pc :: ·)
def sizes (l:List Pc):Int:=(l.map Pc.size).sum
def inUpl (b:CBuck) (i:Nat) (u:CUpl) (x:Cmd):CBuck × Outc :=
 if x.kind=6 then ({ b with upls:=b.upls.set i { u with parts:=putL CPart.num ltZ u.parts x.part ⟨x.part,x.piece⟩ } },⟨0,x.piece.etag⟩)
 else if x.kind=8 then ({ b with upls:=b.upls.eraseIdx i },⟨0,[]⟩)
 else match gather u.parts x.parts with
  | none=>(b,⟨6,[]⟩)
  | some l =>
   let r:=putO b ⟨x.key,sizes l,sm l,x.time,l⟩
   if r.2.code=0 then ({ r.1 with upls:=b.upls.eraseIdx i },r.2) else r
def inBuck (b:CBuck) (x:Cmd):CBuck × Outc :=
 if x.kind=3 then putO b ⟨x.key,x.piece.size,x.piece.etag,x.time,[x.piece]⟩
 else if x.kind=4 then ({ b with objs:=delL CObj.key lt b.objs x.key },⟨0,[]⟩)
 else if x.kind=5 then (if 16≤b.upls.length then (b,⟨7,[]⟩) else ({ b with upls:=putL CUpl.id ltI b.upls x.id ⟨x.id,x.key,[]⟩ },⟨0,[]⟩))
 else if x.kind=9 then ({ b with days:=x.days },⟨0,[]⟩)
 else match b.upls[posL CUpl.id ltI b.upls x.upload]? with
  | none=>(b,⟨3,[]⟩)
  | some u=>if u.id=x.upload∧u.key=x.key then inUpl sm b (posL CUpl.id ltI b.upls x.upload) u x else (b,⟨3,[]⟩)
def old (b:CBuck) (now:Int) (o:CObj):Bool:=decide (o.time+b.days≤now)
def expireB (now:Int) (b:CBuck):CBuck:=if b.days=0 then b else { b with objs:=b.objs.filter (fun o=>!old b now o) }
def floorL (fs:List Cid) (id:Cid):List Cid:=match fs[posL Cid.node ltZ fs id.node]? with
 | none=>putL Cid.node ltZ fs id.node id
 | some f=>if f.node=id.node∧¬ ltI f id then fs else putL Cid.node ltZ fs id.node id
def apply (c:Cat) (x:Cmd):Cat × Outc :=
 if x.kind=1 then
  (if thereL CBuck.name lt c.bucks x.bucket=true then (c,⟨4,[]⟩)
   else if 16≤c.bucks.length then (c,⟨7,[]⟩)
   else ({ c with bucks:=putL CBuck.name lt c.bucks x.bucket ⟨x.bucket,x.time,0,[],[]⟩ },⟨0,[]⟩))
 else if x.kind=10 then ({ c with bucks:=c.bucks.map (expireB x.time) },⟨0,[]⟩)
 else if x.kind=11 then ({ c with floors:=floorL c.floors x.id },⟨0,[]⟩)
 else match c.bucks[posL CBuck.name lt c.bucks x.bucket]? with
  | none=>(c,⟨1,[]⟩)
  | some b =>
   if b.name≠x.bucket then (c,⟨1,[]⟩)
   else if x.kind=2 then
    (if 0 < b.objs.length+b.upls.length then (c,⟨5,[]⟩) else ({ c with bucks:=c.bucks.eraseIdx (posL CBuck.name lt c.bucks x.bucket) },⟨0,[]⟩))
   else ({ c with bucks:=c.bucks.set (posL CBuck.name lt c.bucks x.bucket) (inBuck sm b x).1 },(inBuck sm b x).2)
end
end
section
structure PcOk (p:Pc):Prop where
 lo:0≤p.size
 hi:p.size≤1024
 et:p.etag.length=64
structure ObOk (o:CObj):Prop where
 key:o.key.length≤200
 et:o.etag.length≤100
 lo:0≤o.time
 hi:o.time≤1099511627776
 ne:o.pcs≠[]
 len:o.pcs.length≤16
 pcs:∀ p∈o.pcs,PcOk p
 size:o.size=sizes o.pcs
structure UpOk (u:CUpl):Prop where
 key:u.key.length≤200
 sort:SortB CPart.num ltZ u.parts
 parts:∀ p∈u.parts,1≤p.num∧p.num≤16∧PcOk p.pc
structure BkOk (b:CBuck):Prop where
 name:b.name.length≤63
 tlo:0≤b.time
 thi:b.time≤1099511627776
 dlo:0≤b.days
 dhi:b.days≤1099511627776
 os:SortB CObj.key lt b.objs
 ol:b.objs.length≤128
 ob:∀ o∈b.objs,ObOk o
 us:SortB CUpl.id ltI b.upls
 ul:b.upls.length≤16
 up:∀ u∈b.upls,UpOk u
structure CatOk (c:Cat):Prop where
 bs:SortB CBuck.name lt c.bucks
 bl:c.bucks.length≤16
 bk:∀ b∈c.bucks,BkOk b
 fs:SortB Cid.node ltZ c.floors
 fl:∀ f∈c.floors,0≤f.node∧f.node≤15
structure CmdOk (x:Cmd):Prop where
 klo:1≤x.kind
 khi:x.kind≤11
 nlo:0≤x.id.node
 nhi:x.id.node≤15
 buck:x.bucket.length≤63
 key:x.key.length≤200
 pc:x.kind=3∨x.kind=6→PcOk x.piece
 part:x.kind=6→1≤x.part∧x.part≤16
 pne:x.kind=7→x.parts≠[]
 prt:x.kind=7→x.parts.Pairwise (· < ·)∧∀ n∈x.parts,1≤n∧n≤16
 tlo:0≤x.time
 thi:x.time≤1099511627776
 dlo:0≤x.days
 dhi:x.days≤1099511627776
theorem floor_put {fs:List Cid} (hs:SortB Cid.node ltZ fs) (id:Cid):floorL fs id=if ∃ f∈fs,f.node=id.node∧¬ ltI f id then fs else putL Cid.node ltZ fs id.node id:=by
 unfold floorL
 cases hp:fs[posL Cid.node ltZ fs id.node]? with
 | none =>
  have hnt:¬ thereL Cid.node ltZ fs id.node=true:=fun h=>by
   obtain ⟨y,hy,_⟩:=there_at h;rw [hp] at hy;cases hy
  rw [if_neg];rintro ⟨f,hf,hn,_⟩;exact hnt ((there_iff linZ' hs).2 ⟨f,hf,hn⟩)
 | some f =>
  dsimp only
  by_cases h:f.node=id.node∧¬ ltI f id
  ·rw [if_pos h,if_pos ⟨f,List.mem_of_getElem? hp,h⟩]
  ·rw [if_neg h,if_neg];rintro ⟨g,hg,hn,hl⟩;have ht:=(there_iff linZ' hs).2 ⟨g,hg,hn⟩;obtain ⟨y,hy,hyn⟩:=there_at ht;rw [hp] at hy
   cases hy
   have:=sort_mem linZ' hs hg (List.mem_of_getElem? hp) (hn.trans hyn.symm);subst this;exact h ⟨hn,hl⟩
theorem floorL_sort {fs:List Cid} (hs:SortB Cid.node ltZ fs) (id:Cid):SortB Cid.node ltZ (floorL fs id):=by
 rw [floor_put hs]
 split
 ·exact hs
 ·exact sort_put linZ' hs rfl
end
section
theorem sizes_cons (p:Pc) (l:List Pc):sizes (p :: l)=p.size+sizes l:=by simp [sizes]
theorem sizes_nil:sizes []=0:=rfl
theorem sizes_app (a b:List Pc):sizes (a ++ b)=sizes a+sizes b:=by simp [sizes]
theorem sizes_bound:∀ (l:List Pc),(∀ p∈l,PcOk p)→0≤sizes l∧sizes l≤1024 * l.length
 | [],_=>by simp [sizes]
 | p :: l,h=>by
  have h1:=h p (List.mem_cons_self ..);have h2:=sizes_bound l (fun q hq=>h q (List.mem_cons_of_mem _ hq));have h3:=h1.lo;have h4:=h1.hi;rw [sizes_cons,List.length_cons];omega
theorem gather_some {ps:List CPart}:∀ {ns:List Int} {l:List Pc},gather ps ns=some l→l.length=ns.length∧∀ p∈l,∃ q∈ps,q.pc=p
 | [],l,h=>by cases h;simp
 | n :: ns,l,h=>by
  unfold gather at h
  cases hf:ps.find? (fun p=>decide (p.num=n)) with
  | none=>rw [hf] at h;cases h
  | some p =>
   rw [hf] at h;dsimp only at h
   cases hg:gather ps ns with
   | none=>rw [hg] at h;cases h
   | some l' =>
    rw [hg] at h
    cases h
    obtain ⟨h1,h2⟩:=gather_some hg;refine ⟨by simp [h1],fun q hq=>?_⟩
    rcases List.mem_cons.1 hq with rfl | hq
    ·exact ⟨p,List.mem_of_find?_eq_some hf,rfl⟩
    ·exact h2 q hq
theorem parts_len {ns:List Int} (h1:ns.Pairwise (· < ·)) (h2:∀ n∈ns,1≤n∧n≤16):ns.length≤16:=by
 have:∀ (ns:List Int) (a:Int),ns.Pairwise (· < ·)→(∀ n∈ns,a≤n∧n≤16)→a≤17→(ns.length:Int)≤17 - a:=fun ns=>by
  induction ns with
  | nil=>intro a _ _ h;simp;omega
  | cons n ns ih =>
   intro a hp hb ha;obtain ⟨h3,h4⟩:=List.pairwise_cons.1 hp;have h5:=hb n (List.mem_cons_self ..);have h6:=ih (n+1) h4 (fun m hm=>⟨by have:=h3 m hm;omega,(hb m (List.mem_cons_of_mem _ hm)).2⟩) (by omega);rw [List.length_cons];omega
 have:=this ns 1 h1 h2 (by omega);omega
theorem sort_nums_len {α:Type} {key:α→Int} {xs:List α} {lo hi:Int} (hs:SortB key ltZ xs) (hb:∀ x∈xs,lo≤key x∧key x≤hi) (hl:lo≤hi+1):(xs.length:Int)≤hi+1 - lo:=by
 induction xs generalizing lo with
 | nil=>simp;omega
 | cons x xs ih =>
  obtain ⟨h1,h2⟩:=List.pairwise_cons.1 hs;have h3:=hb x (List.mem_cons_self ..);have:=ih (lo:=key x+1) h2 (fun y hy=>⟨by have:=h1 y hy;unfold ltZ at this;omega,(hb y (List.mem_cons_of_mem _ hy)).2⟩) (by omega);rw [List.length_cons];omega
theorem UpOk.len {u:CUpl} (h:UpOk u):u.parts.length≤16:=by
 have:=sort_nums_len (lo:=1) (hi:=16) h.sort (fun p hp=>⟨(h.parts p hp).1,(h.parts p hp).2.1⟩) (by omega);omega
theorem CatOk.flen {c:Cat} (h:CatOk c):c.floors.length≤16:=by
 have:=sort_nums_len (lo:=0) (hi:=15) h.fs h.fl (by omega);omega
section
variable (sm:List Pc→Bs)
theorem putO_code (b:CBuck) (o:CObj):(putO b o).2.code=7∨((putO b o).2.code=0∧(putO b o).2.etag=o.etag):=by
 unfold putO
 split
 ·exact .inl rfl
 ·exact .inr ⟨rfl,rfl⟩
theorem there_cases {bs:List CBuck} {k:Bs}:(thereL CBuck.name lt bs k=true↔∃ b,bs[posL CBuck.name lt bs k]?=some b∧b.name=k):=by
 constructor
 ·exact there_at
 ·rintro ⟨b,hb,hk⟩;unfold thereL;rw [hb];exact decide_eq_true hk
theorem putO_ok {b:CBuck} (h:BkOk b) {o:CObj} (ho:ObOk o):BkOk (putO b o).1:=by
 unfold putO
 split
 ·exact h
 ·rename_i hn
  refine ⟨h.name,h.tlo,h.thi,h.dlo,h.dhi,sort_put linB h.os rfl,?_,fun y hy=>?_,h.us,h.ul,h.up⟩
  ·show (putL CObj.key lt b.objs o.key o).length≤128;rw [put_length];have:=h.ol
   split
   ·exact this
   ·rename_i ht
    have:¬ 128≤b.objs.length:=fun e=>hn ⟨by simpa using ht,e⟩;omega
  ·rcases (mem_put linB h.os rfl y).1 hy with rfl | ⟨hm,_⟩
   ·exact ho
   ·exact h.ob y hm
theorem withUpls {b:CBuck} (h:BkOk b) {us:List CUpl} (h1:SortB CUpl.id ltI us) (h2:us.length≤16) (h3:∀ u∈us,UpOk u):BkOk { b with upls:=us } :=
 ⟨h.name,h.tlo,h.thi,h.dlo,h.dhi,h.os,h.ol,h.ob,h1,h2,h3⟩
theorem erase_ok {b:CBuck} (h:BkOk b) (i:Nat):SortB CUpl.id ltI (b.upls.eraseIdx i)∧(b.upls.eraseIdx i).length≤16∧∀ u∈b.upls.eraseIdx i,UpOk u :=
 ⟨List.Pairwise.sublist (List.eraseIdx_sublist ..) h.us,by have:=(List.eraseIdx_sublist b.upls i).length_le;have:=h.ul;omega,fun u hu=>h.up u ((List.eraseIdx_sublist b.upls i).subset hu)⟩
theorem set_ok {us:List CUpl} {i:Nat} {u v:CUpl} (hs:SortB CUpl.id ltI us) (hi:us[i]?=some u) (hv:v.id=u.id):SortB CUpl.id ltI (us.set i v):=by
 have hp:posL CUpl.id ltI us u.id=i:=by
  have ht:=(there_iff linI hs).2 ⟨u,List.mem_of_getElem? hi,rfl⟩;obtain ⟨y,hy,hyk⟩:=there_at ht;exact sort_uniq linI hs hy hi hyk
 have ht:=(there_iff linI hs).2 ⟨u,List.mem_of_getElem? hi,rfl⟩;have:us.set i v=putL CUpl.id ltI us u.id v:=(by unfold putL;rw [if_pos ht,hp]);rw [this];exact sort_put linI hs hv
theorem putO_name (b:CBuck) (o:CObj):(putO b o).1.name=b.name:=by unfold putO;split <;> rfl
theorem inBuck_name (b:CBuck) (x:Cmd):(inBuck sm b x).1.name=b.name:=by
 unfold inBuck
 split
 ·exact putO_name _ _
 split
 ·rfl
 split
 ·split <;> rfl
 split
 ·rfl
 split
 ·rfl
 ·split
  ·unfold inUpl
   split
   ·rfl
   split
   ·rfl
   ·split
    ·rfl
    ·dsimp only
     split
     ·exact putO_name _ _
     ·exact putO_name _ _
  ·rfl
theorem inBuck_ok (hsm:∀ l:List Pc,l.length≤16→(sm l).length≤100) {b:CBuck} (h:BkOk b) {x:Cmd} (hx:CmdOk x) (hk:x.kind≠1∧x.kind≠2∧x.kind≠10∧x.kind≠11):BkOk (inBuck sm b x).1:=by
 unfold inBuck
 split
 ·rename_i k3
  have hp:=hx.pc (.inl k3);exact putO_ok h ⟨hx.key,by show x.piece.etag.length≤100;rw [hp.et];omega,hx.tlo,hx.thi,by simp,by simp,fun p hp'=>by rw [List.mem_singleton.1 hp'];exact hp,by simp [sizes]⟩
 split
 ·refine ⟨h.name,h.tlo,h.thi,h.dlo,h.dhi,sort_del linB h.os _,?_,fun o ho=>?_,h.us,h.ul,h.up⟩
  ·show (delL CObj.key lt b.objs x.key).length≤128;rw [del_filter linB h.os];have:=List.length_filter_le (fun o:CObj=>decide (o.key≠x.key)) b.objs;have:=h.ol;omega
  ·have:o∈delL CObj.key lt b.objs x.key:=ho;rw [del_filter linB h.os] at this;exact h.ob o (List.mem_filter.1 this).1
 split
 ·split
  ·exact h
  ·rename_i hn
   refine withUpls h (sort_put linI h.us rfl) ?_ (fun u hu=>?_)
   ·rw [put_length];split <;> omega
   ·rcases (mem_put linI h.us (k:=x.id) (x:=⟨x.id,x.key,[]⟩) rfl u).1 hu with rfl | ⟨hm,_⟩
    ·exact ⟨hx.key,List.Pairwise.nil,by simp⟩
    ·exact h.up u hm
 split
 ·exact ⟨h.name,h.tlo,h.thi,hx.dlo,hx.dhi,h.os,h.ol,h.ob,h.us,h.ul,h.up⟩
 split
 ·exact h
 ·rename_i k3 k4 k5 k9 _ u hu
  split
  ·rename_i hid
   have hmu:=h.up u (List.mem_of_getElem? hu);unfold inUpl
   split
   ·rename_i k6
    refine withUpls h (set_ok h.us hu rfl) (by rw [List.length_set];exact h.ul) (fun v hv=>?_);obtain ⟨j,hj⟩:=List.mem_iff_getElem?.1 hv;rw [List.getElem?_set] at hj
    split at hj
    ·split at hj
     ·cases hj
      refine ⟨hmu.key,sort_put linZ' hmu.sort rfl,fun p hp=>?_⟩
      rcases (mem_put linZ' hmu.sort (k:=x.part) (x:=⟨x.part,x.piece⟩) rfl p).1 hp with rfl | ⟨hm,_⟩
      ·exact ⟨(hx.part k6).1,(hx.part k6).2,hx.pc (.inr k6)⟩
      ·exact hmu.parts p hm
     ·cases hj
    ·exact h.up v (List.mem_of_getElem? hj)
   split
   ·obtain ⟨e1,e2,e3⟩:=erase_ok h (posL CUpl.id ltI b.upls x.upload);exact withUpls h e1 e2 e3
   ·cases hg:gather u.parts x.parts with
    | none=>exact h
    | some l =>
     rename_i k6 k8
     have hk7:x.kind=7:=(by have:=hx.klo;have:=hx.khi;omega);obtain ⟨g1,g2⟩:=gather_some hg
     have hpl:∀ p∈l,PcOk p:=fun p hp=>by
      obtain ⟨q,hq,rfl⟩:=g2 p hp;exact (hmu.parts q hq).2.2
     dsimp only
     split
     ·rename_i hc
      ·have hlen:l.length≤16:=(by rw [g1];exact parts_len (hx.prt hk7).1 (hx.prt hk7).2);have hne:l≠[]:=fun e=>hx.pne hk7 (by rw [e] at g1;exact List.eq_nil_of_length_eq_zero g1.symm);have hb:=putO_ok h (o:=⟨x.key,sizes l,sm l,x.time,l⟩) ⟨hx.key,hsm l hlen,hx.tlo,hx.thi,hne,hlen,hpl,rfl⟩;have hu:(putO b ⟨x.key,sizes l,sm l,x.time,l⟩).1.upls=b.upls:=(by unfold putO;split <;> rfl);obtain ⟨e1,e2,e3⟩:=erase_ok h (posL CUpl.id ltI b.upls x.upload);exact withUpls hb e1 e2 e3
     ·rename_i hc
      have:(putO b ⟨x.key,sizes l,sm l,x.time,l⟩).1=b:=by
       unfold putO at hc ⊢
       split
       ·rfl
       ·rename_i hn;rw [if_neg hn] at hc;exact absurd rfl hc
      rw [this];exact h
  ·exact h
theorem apply_ok (hsm:∀ l:List Pc,l.length≤16→(sm l).length≤100) {c:Cat} (h:CatOk c) {x:Cmd} (hx:CmdOk x):CatOk (apply sm c x).1:=by
 unfold apply
 split
 ·rename_i k1
  split
  ·exact h
  split
  ·exact h
  ·refine ⟨sort_put linB h.bs rfl,?_,fun b hb=>?_,h.fs,h.fl⟩
   ·show (putL CBuck.name lt c.bucks x.bucket _).length≤16;rw [put_length]
    split <;> omega
   ·rcases (mem_put linB h.bs (k:=x.bucket) (x:=⟨x.bucket,x.time,0,[],[]⟩) rfl b).1 hb with rfl | ⟨hm,_⟩
    ·exact ⟨hx.buck,hx.tlo,hx.thi,by show (0:Int)≤0;omega,by show (0:Int)≤1099511627776;omega,List.Pairwise.nil,by simp,by simp,List.Pairwise.nil,by simp,by simp⟩
    ·exact h.bk b hm
 split
 ·refine ⟨?_,by show (c.bucks.map _).length≤16;rw [List.length_map];exact h.bl,fun b hb=>?_,h.fs,h.fl⟩
  ·refine List.pairwise_map.2 (h.bs.imp fun {a b} hab=>?_);have e:∀ b:CBuck,(expireB x.time b).name=b.name:=fun b=>(by unfold expireB;split <;> rfl);rw [e,e];exact hab
  ·obtain ⟨b',hb',rfl⟩:=List.mem_map.1 hb;have h':=h.bk b' hb';unfold expireB
   split
   ·exact h'
   ·refine ⟨h'.name,h'.tlo,h'.thi,h'.dlo,h'.dhi,h'.os.filter _,?_,fun o ho=>h'.ob o (List.mem_filter.1 ho).1,h'.us,h'.ul,h'.up⟩;have:=List.length_filter_le (fun o=>!old b' x.time o) b'.objs;have:=h'.ol;show (b'.objs.filter _).length≤128;omega
 split
 ·refine ⟨h.bs,h.bl,h.bk,floorL_sort h.fs x.id,fun f hf=>?_⟩;have hf':f∈floorL c.floors x.id:=hf;rw [floor_put h.fs] at hf'
  split at hf'
  ·exact h.fl f hf'
  ·rcases (mem_put linZ' h.fs rfl f).1 hf' with rfl | ⟨hm,_⟩
   ·exact ⟨hx.nlo,hx.nhi⟩
   ·exact h.fl f hm
 split
 ·exact h
 ·rename_i k1 k10 k11 _ b hb
  split
  ·exact h
  split
  ·split
   ·exact h
   ·exact ⟨List.Pairwise.sublist (List.eraseIdx_sublist ..) h.bs,by have:=(List.eraseIdx_sublist c.bucks (posL CBuck.name lt c.bucks x.bucket)).length_le;have:=h.bl;show (c.bucks.eraseIdx _).length≤16;omega,fun b hb=>h.bk b ((List.eraseIdx_sublist ..).subset hb),h.fs,h.fl⟩
  ·rename_i hn k2
   have hin:=inBuck_ok sm hsm (h.bk b (List.mem_of_getElem? hb)) hx ⟨k1,k2,k10,k11⟩;have hnm:(inBuck sm b x).1.name=b.name:=inBuck_name sm b x;refine ⟨?_,by show (c.bucks.set _ _).length≤16;rw [List.length_set];exact h.bl,fun v hv=>?_,h.fs,h.fl⟩
   ·have hbn:b.name=x.bucket:=Decidable.byContradiction hn;have ht:thereL CBuck.name lt c.bucks x.bucket=true:=there_cases.2 ⟨b,hb,hbn⟩;have:c.bucks.set (posL CBuck.name lt c.bucks x.bucket) (inBuck sm b x).1=putL CBuck.name lt c.bucks x.bucket (inBuck sm b x).1:=(by unfold putL;rw [if_pos ht]);show SortB CBuck.name lt (c.bucks.set _ _);rw [this];exact sort_put linB h.bs (hnm.trans hbn)
   ·obtain ⟨j,hj⟩:=List.mem_iff_getElem?.1 hv;have hj':(c.bucks.set (posL CBuck.name lt c.bucks x.bucket) (inBuck sm b x).1)[j]?=some v:=hj;rw [List.getElem?_set] at hj'
    split at hj'
    ·split at hj'
     ·cases hj';exact hin
     ·cases hj'
    ·exact h.bk v (List.mem_of_getElem? hj')
end
end
section
section
variable {α κ:Type} (key:α→κ) (l:κ→κ→Prop) [DecidableRel l] [DecidableEq κ]
def atL (xs:List α) (k:κ):Option α:=if thereL key l xs k=true then xs[posL key l xs k]? else none
variable {key l}
theorem atL_iff (L:LinO l) {xs:List α} (hs:SortB key l xs) {k:κ} {x:α}:atL key l xs k=some x↔x∈xs∧key x=k:=by
 unfold atL
 constructor
 ·intro h
  split at h
  ·rename_i ht
   obtain ⟨y,hy,hk⟩:=there_at ht;rw [hy] at h
   cases h
   exact ⟨List.mem_of_getElem? hy,hk⟩
  ·cases h
 ·rintro ⟨hm,hk⟩;have ht:=(there_iff L hs).2 ⟨x,hm,hk⟩;rw [if_pos ht];obtain ⟨y,hy,hyk⟩:=there_at ht;rw [hy,sort_mem L hs (List.mem_of_getElem? hy) hm (hyk.trans hk.symm)]
theorem atL_none (L:LinO l) {xs:List α} (hs:SortB key l xs) {k:κ}:atL key l xs k=none↔∀ x∈xs,key x≠k:=by
 constructor
 ·intro h x hx hk;rw [(atL_iff L hs).2 ⟨hx,hk⟩] at h
  cases h
 ·intro h
  cases ha:atL key l xs k with
  | none=>rfl
  | some x=>exact absurd ((atL_iff L hs).1 ha).2 (h x ((atL_iff L hs).1 ha).1)
theorem atL_put (L:LinO l) {xs:List α} (hs:SortB key l xs) {k j:κ} {x:α} (hk:key x=k) (hj:j≠k):atL key l (putL key l xs k x) j=atL key l xs j:=by
 have hs2:=sort_put L hs hk
 cases ha:atL key l xs j with
 | none =>
  rw [atL_none L hs2];intro y hy e
  rcases (mem_put L hs hk y).1 hy with rfl | ⟨hm,-⟩
  ·exact hj (e.symm.trans hk)
  ·exact (atL_none L hs).1 ha y hm e
 | some y =>
  obtain ⟨hm,hy⟩:=(atL_iff L hs).1 ha;exact (atL_iff L hs2).2 ⟨(mem_put L hs hk y).2 (.inr ⟨hm,fun e=>hj (hy.symm.trans e)⟩),hy⟩
theorem atL_putSelf (L:LinO l) {xs:List α} (hs:SortB key l xs) {k:κ} {x:α} (hk:key x=k):atL key l (putL key l xs k x) k=some x :=
 (atL_iff L (sort_put L hs hk)).2 ⟨(mem_put L hs hk x).2 (.inl rfl),hk⟩
end
def findB (c:Cat) (n:Bs):Option CBuck:=atL CBuck.name lt c.bucks n
def findO (c:Cat) (n k:Bs):Option CObj:=(findB c n).bind fun b=>atL CObj.key lt b.objs k
def findU (c:Cat) (n k:Bs) (id:Cid):Option CUpl:=(findB c n).bind fun b=>(atL CUpl.id ltI b.upls id).bind fun u=>if u.key=k then some u else none
section
variable (sm:List Pc→Bs)
end
end
section
theorem find_at' {ps:List CPart} (hs:SortB CPart.num ltZ ps) {k:Int} {p:CPart} (h:atL CPart.num ltZ ps k=some p):ps.find? (fun q=>decide (q.num=k))=some p:=by
 obtain ⟨hm,hk⟩:=(atL_iff linZ' hs).1 h
 cases hf:ps.find? (fun q=>decide (q.num=k)) with
 | none =>
  have:=List.find?_eq_none.1 hf p hm
  simp [hk] at this
 | some q =>
  have h1:=List.mem_of_find?_eq_some hf;have h2:=List.find?_some hf;rw [sort_mem linZ' hs h1 hm (by rw [hk];simpa using h2)]
section
variable (sm:List Pc→Bs)
end
end
section
section
variable {α κ:Type} {key:α→κ} {l:κ→κ→Prop} [DecidableRel l] [DecidableEq κ]
theorem find_atL (L:LinO l) {xs:List α} (hs:SortB key l xs) (k:κ):xs.find? (fun x=>decide (key x=k))=atL key l xs k:=by
 cases h:xs.find? (fun x=>decide (key x=k)) with
 | none =>
  rw [List.find?_eq_none] at h;exact ((atL_none L hs).2 (fun x hx e=>h x hx (by simpa using e))).symm
 | some x =>
  have h1:=List.find?_some h;have h2:=List.mem_of_find?_eq_some h;exact ((atL_iff L hs).2 ⟨h2,by simpa using h1⟩).symm
end
theorem gather_atF {ps:List CPart} (hs:SortB CPart.num ltZ ps) (f:Int→Pc):∀ (ns:List Int),(∀ k∈ns,∃ p,atL CPart.num ltZ ps k=some p∧p.pc=f k)→gather ps ns=some (ns.map f)
 | [],_=>rfl
 | n :: ns,h=>by
  obtain ⟨p,h1,h2⟩:=h n (by simp);have h3:ps.find? (fun p=>decide (p.num=n))=some p:=(by rw [find_atL linZ' hs];exact h1);unfold gather;rw [h3];dsimp only;rw [gather_atF hs f ns (fun k hk=>h k (by simp [hk])),h2]
  rfl
def bsA:Bs:=[97,97,97]
def bsK:Bs:=[107]
def idU:Cid:=⟨1,0,1⟩
def id0:Cid:=⟨0,0,0⟩
def pc0:Pc:=⟨id0,0,[]⟩
def bkA (os:List CObj) (us:List CUpl):Cat:=⟨[⟨bsA,0,0,os,us⟩],[]⟩
def cU (ps:List CPart):Cat:=bkA [] [⟨idU,bsK,ps⟩]
def mkA:Cmd:=⟨1,id0,bsA,[],id0,pc0,0,[],0,0⟩
def stA:Cmd:=⟨5,idU,bsA,bsK,id0,pc0,0,[],0,0⟩
def pcA (et:Bs) (i:Nat) (z:Int):Pc:=⟨⟨2,0,i⟩,z,et⟩
def ptC (et:Bs) (p i:Nat) (z:Int):Cmd:=⟨6,⟨2,0,i⟩,bsA,bsK,idU,pcA et i z,(p:Int)+1,[],0,0⟩
def ptA (et:Bs) (p i:Nat) (z:Int):CPart:=⟨(p:Int)+1,pcA et i z⟩
def allN (n:Nat):List Int:=(List.range n).map fun j:Nat=>(j:Int)+1
def coC (n:Nat):Cmd:=⟨7,⟨0,0,9⟩,bsA,bsK,idU,pc0,0,allN n,4,0⟩
theorem allN_succ (n:Nat):allN (n+1)=allN n ++ [(n:Int)+1]:=by unfold allN;rw [List.range_succ,List.map_append];rfl
theorem allN_len (n:Nat):(allN n).length=n:=by simp [allN]
theorem mem_allN {n:Nat} {k:Int}:k∈allN n↔∃ j:Nat,j < n∧k=(j:Int)+1:=by
 unfold allN;simp only [List.mem_map,List.mem_range];exact ⟨fun ⟨j,h,e⟩=>⟨j,h,e.symm⟩,fun ⟨j,h,e⟩=>⟨j,h,e.symm⟩⟩
theorem allN_lt (n:Nat):(allN n).Pairwise (· < ·):=by
 unfold allN;rw [List.pairwise_map];exact List.pairwise_lt_range.imp (fun h=>by omega)
section
variable (sm:List Pc→Bs)
theorem app_mkA:apply sm ⟨[],[]⟩ mkA=(bkA [] [],⟨0,[]⟩):=rfl
theorem app_stA:apply sm (bkA [] []) stA=(cU [],⟨0,[]⟩):=rfl
theorem app_ptC (et:Bs) (p i:Nat) (z:Int) (ps:List CPart):apply sm (cU ps) (ptC et p i z)=(cU (putL CPart.num ltZ ps ((p:Int)+1) (ptA et p i z)),⟨0,et⟩):=rfl
def obA (n:Nat) (l:List Pc):CObj:=⟨bsK,sizes l,sm l,4,l⟩
theorem app_coC {n:Nat} {ps:List CPart} {l:List Pc} (h:gather ps (allN n)=some l):apply sm (cU ps) (coC n)=(bkA [obA sm n l] [],⟨0,sm l⟩):=by
 have e:apply sm (cU ps) (coC n)=match gather ps (allN n) with
  | none=>(cU ps,⟨6,[]⟩)
  | some l=>(bkA [obA sm n l] [],⟨0,sm l⟩):=by
  show ({ cU ps with bucks:=[(inUpl sm ⟨bsA,0,0,[],[⟨idU,bsK,ps⟩]⟩ 0 ⟨idU,bsK,ps⟩ (coC n)).1] },(inUpl sm ⟨bsA,0,0,[],[⟨idU,bsK,ps⟩]⟩ 0 ⟨idU,bsK,ps⟩ (coC n)).2)=_;unfold inUpl;rw [if_neg (show ¬ (coC n).kind=6 by simp [coC]),if_neg (show ¬ (coC n).kind=8 by simp [coC])];dsimp only;rw [show (coC n).parts=allN n from rfl]
  cases gather ps (allN n) with
  | none=>rfl
  | some l=>rfl
 rw [e,h]
theorem findO_end (n:Nat) (l:List Pc):findO (bkA [obA sm n l] []) bsA bsK=some (obA sm n l):=rfl
theorem findU_end (n:Nat) (l:List Pc):findU (bkA [obA sm n l] []) bsA bsK idU=none:=rfl
end
structure PsI (et:Bs) (n m:Nat) (z:Nat→Int) (i:Nat) (ps:List CPart):Prop where
 so:SortB CPart.num ltZ ps
 at_:∀ j,j < n→j+m < i→atL CPart.num ltZ ps ((j:Int)+1)=some (ptA et j (m+j) (z j))
theorem PsI.start (et:Bs) (n m:Nat) (z:Nat→Int):PsI et n m z 0 []:=⟨List.Pairwise.nil,fun j _ h=>by omega⟩
theorem PsI.any {et:Bs} {n m:Nat} {z:Nat→Int} {i:Nat} {ps:List CPart} (h:PsI et n m z i ps) (hi:i < m) (p:Nat) (y:Int):PsI et n m z (i+1) (putL CPart.num ltZ ps ((p:Int)+1) (ptA et p i y)) :=
 ⟨sort_put linZ' h.so rfl,fun j _ hj=>by omega⟩
theorem PsI.each {et:Bs} {n m:Nat} {z:Nat→Int} {p:Nat} {ps:List CPart} (h:PsI et n m z (m+p) ps):PsI et n m z (m+p+1) (putL CPart.num ltZ ps ((p:Int)+1) (ptA et p (m+p) (z p))) :=
 ⟨sort_put linZ' h.so rfl,fun j hn hj=>by
  rcases Nat.lt_or_ge j p with hlt | hge
  ·rw [atL_put linZ' h.so (k:=(p:Int)+1) (j:=(j:Int)+1) (x:=ptA et p (m+p) (z p)) rfl (by omega)];exact h.at_ j hn (by omega)
  ·obtain rfl:j=p:=by omega
   exact atL_putSelf linZ' h.so rfl⟩
def pcsA (et:Bs) (n m:Nat) (z:Nat→Int):List Pc:=(List.range n).map fun j=>pcA et (m+j) (z j)
theorem PsI.gather {et:Bs} {n m:Nat} {z:Nat→Int} {ps:List CPart} (h:PsI et n m z (m+n) ps):gather ps (allN n)=some (pcsA et n m z):=by
 rw [gather_atF h.so (fun k=>pcA et (m+(k - 1).toNat) (z (k - 1).toNat)) (allN n) (fun k hk=>by
  obtain ⟨j,hj,rfl⟩:=mem_allN.1 hk;refine ⟨_,h.at_ j hj (by omega),?_⟩;rw [show ((j:Int)+1 - 1).toNat=j by omega]
  rfl)]
 unfold pcsA allN;rw [List.map_map];refine congrArg some (List.map_congr_left fun j _=>?_);show pcA et (m+((j:Int)+1 - 1).toNat) (z ((j:Int)+1 - 1).toNat)=_;rw [show ((j:Int)+1 - 1).toNat=j by omega]
def totA (z:Nat→Int):Nat→Int
 | 0=>0
 | n+1=>totA z n+z n
theorem totA_sizes (et:Bs) (n m:Nat) (z:Nat→Int):sizes (pcsA et n m z)=totA z n:=by
 unfold sizes pcsA
 induction n with
 | zero=>rfl
 | succ n ih =>
  rw [List.range_succ,List.map_append,List.map_append,List.sum_append,ih];show totA z n+(z n+0)=totA z n+z n;omega
theorem totA_range {z:Nat→Int} (h:∀ j,0≤z j∧z j≤1024):∀ n:Nat,0≤totA z n∧totA z n≤1024 * n
 | 0=>by simp [totA]
 | n+1=>by
  have h1:=totA_range h n;have h2:=h n;show 0≤totA z n+z n∧totA z n+z n≤1024 * ((n+1:Nat):Int);omega
theorem mkA_ok:CmdOk mkA:=⟨by decide,by decide,by decide,by decide,by decide,by decide,fun h=>absurd h (by decide),fun h=>absurd h (by decide),fun h=>absurd h (by decide),fun h=>absurd h (by decide),by decide,by decide,by decide,by decide⟩
theorem stA_ok:CmdOk stA:=⟨by decide,by decide,by decide,by decide,by decide,by decide,fun h=>absurd h (by decide),fun h=>absurd h (by decide),fun h=>absurd h (by decide),fun h=>absurd h (by decide),by decide,by decide,by decide,by decide⟩
theorem ptC_ok {et:Bs} {p i:Nat} {z:Int} (he:et.length=64) (hp:p < 16) (hz:0≤z∧z≤1024):CmdOk (ptC et p i z) :=
 ⟨by simp [ptC],by simp [ptC],by simp [ptC],by simp [ptC],by simp [ptC,bsA],by simp [ptC,bsK],fun _=>⟨hz.1,hz.2,he⟩,fun _=>by simp only [ptC];omega,fun h=>by simp [ptC] at h,fun h=>by simp [ptC] at h,by simp [ptC],by simp [ptC],by simp [ptC],by simp [ptC]⟩
theorem coC_ok {n:Nat} (h0:0 < n) (hn:n≤16):CmdOk (coC n) :=
 ⟨by simp [coC],by simp [coC],by simp [coC],by simp [coC],by simp [coC,bsA],by simp [coC,bsK],fun h=>by simp [coC] at h,fun h=>by simp [coC] at h,fun _ e=>by have:=allN_len n;rw [show allN n=[] from e] at this;simp at this;omega,fun _=>⟨allN_lt n,fun k hk=>by
  obtain ⟨j,hj,e⟩:=mem_allN.1 hk
  omega⟩,by simp [coC],by simp [coC],by simp [coC],by simp [coC]⟩
theorem bkA_ok:CatOk (bkA [] []) where
 bs:=List.pairwise_singleton _ _
 bl:=by simp [bkA]
 bk:=fun b hb=>by
  obtain rfl:=List.mem_singleton.1 hb;exact { name:=by decide,tlo:=by decide,thi:=by decide,dlo:=by decide,dhi:=by decide,os:=List.Pairwise.nil,ol:=by decide,ob:=fun _ h=>absurd h (List.not_mem_nil),us:=List.Pairwise.nil,ul:=by decide,up:=fun _ h=>absurd h (List.not_mem_nil) }
 fs:=List.Pairwise.nil
 fl:=fun _ h=>absurd h (List.not_mem_nil)
end
end Go.Proofs.YtfeglnpmpgipiaaGreatDoor
