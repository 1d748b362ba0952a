/- EndsPk, part 5: ListMath, SortMath, CatMath, CatInv, CatStep, HealMath. -/
import Derived.Lib.IndexLaws
import GoSem.Op.String
set_option linter.unusedVariables false
set_option maxRecDepth 100000
section
set_option linter.unusedVariables false
set_option maxRecDepth 100000
namespace Go.Proofs.Ytfeglnpmpgipiaa
abbrev Bs := List UInt8
def lt (a b : Bs) : Prop := Op.bytesLess a b = true
instance (a b : Bs) : Decidable (lt a b) := inferInstanceAs (Decidable (_ = true))
theorem lt_irrefl : ∀ (a : Bs), ¬ lt a a
 | [] => by simp [lt, Op.bytesLess]
 | a :: x => by
  have := lt_irrefl x; simp only [lt, Op.bytesLess, Bool.or_eq_true, Bool.and_eq_true, decide_eq_true_eq, beq_iff_eq] at this ⊢; rintro (h | ⟨_, h⟩)
  ·exact absurd h (by simp)
  ·exact this h
theorem lt_trans : ∀ {a b c : Bs}, lt a b → lt b c → lt a c
 | a, b, [], _, h => by simp [lt, Op.bytesLess] at h
 | a, [], c :: t, h, _ => by cases a <;> simp [lt, Op.bytesLess] at h
 | [], b :: y, c :: z, _, _ => by simp [lt, Op.bytesLess]
 | a :: x, b :: y, c :: z, h, k => by
  have ih := @lt_trans x y z; simp only [lt, Op.bytesLess, Bool.or_eq_true, Bool.and_eq_true, decide_eq_true_eq, beq_iff_eq] at ih h k ⊢
  rcases h with h | ⟨rfl, h⟩
  ·rcases k with k | ⟨rfl, k⟩
   ·exact .inl (UInt8.lt_trans h k)
   ·exact .inl h
  ·rcases k with k | ⟨rfl, k⟩
   ·exact .inl k
   ·exact .inr ⟨rfl, ih h k⟩
theorem lt_total : ∀ (a b : Bs), lt a b ∨ a = b ∨ lt b a
 | [], [] => .inr (.inl rfl)
 | [], b :: y => .inl (by simp [lt, Op.bytesLess])
 | a :: x, [] => .inr (.inr (by simp [lt, Op.bytesLess]))
 | a :: x, b :: y => by
  have ih := lt_total x y; simp only [lt, Op.bytesLess, Bool.or_eq_true, Bool.and_eq_true, decide_eq_true_eq, beq_iff_eq, List.cons.injEq] at ih ⊢
  by_cases h1 : a < b
  ·exact .inl (.inl h1)
  ·by_cases h2 : b < a
   ·exact .inr (.inr (.inl h2))
   ·have e : a = b := UInt8.le_antisymm (UInt8.not_lt.1 h2) (UInt8.not_lt.1 h1); subst e
    rcases ih with h | h | h
    ·exact .inl (.inr ⟨rfl, h⟩)
    ·exact .inr (.inl ⟨rfl, h⟩)
    ·exact .inr (.inr (.inr ⟨rfl, h⟩))
end Go.Proofs.Ytfeglnpmpgipiaa
end
section
set_option linter.unusedVariables false
set_option maxRecDepth 100000
namespace Go.Proofs.Ytfeglnpmpgipiaa
structure LinO {κ : Type} (l : κ → κ → Prop) : Prop where
 irr : ∀ a, ¬ l a a
 trans : ∀ {a b c}, l a b → l b c → l a c
 tot : ∀ a b, l a b ∨ a = b ∨ l b a
theorem linB : LinO lt := ⟨lt_irrefl, lt_trans, lt_total⟩
theorem linZ : LinO (fun a b : Int => a < b) := ⟨fun a h => by omega, fun h k => by omega, fun a b => by omega⟩
section
variable {α κ : Type} (key : α → κ) (l : κ → κ → Prop) [DecidableRel l] [DecidableEq κ]
def SortB (xs : List α) : Prop := xs.Pairwise fun a b => l (key a) (key b)
def posL (xs : List α) (k : κ) : Nat := (xs.takeWhile fun x => decide (l (key x) k)).length
def thereL (xs : List α) (k : κ) : Bool := match xs[posL key l xs k]? with
 | some x => decide (key x = k)
 | none => false
def putL (xs : List α) (k : κ) (x : α) : List α := if thereL key l xs k = true then xs.set (posL key l xs k) x else xs.take (posL key l xs k) ++ x :: xs.drop (posL key l xs k)
def delL (xs : List α) (k : κ) : List α := if thereL key l xs k = true then xs.eraseIdx (posL key l xs k) else xs
variable {key l}
omit [DecidableEq κ] in
theorem posL_le (xs : List α) (k : κ) : posL key l xs k ≤ xs.length := by
 unfold posL; exact (List.takeWhile_prefix _).length_le
omit [DecidableEq κ] in
theorem posL_lt {xs : List α} {k : κ} {j : Nat} {x : α} (hj : j < posL key l xs k) (hx : xs[j]? = some x) : l (key x) k := by
 have h1 : (xs.takeWhile fun x => decide (l (key x) k))[j]? = some x := by
  obtain ⟨t, ht⟩ := List.takeWhile_prefix (l := xs) (fun x => decide (l (key x) k)); rw [← ht, List.getElem?_append_left hj] at hx; exact hx
 have h2 := List.mem_of_getElem? h1
 have h3 : ∀ (ys : List α), x ∈ ys.takeWhile (fun x => decide (l (key x) k)) → decide (l (key x) k) = true := fun ys => by
  induction ys with
  | nil => intro h; cases h
  | cons y ys ih =>
   intro h; rw [List.takeWhile_cons] at h
   split at h
   ·rename_i hy
    rcases List.mem_cons.1 h with e | h
    ·rw [e]; exact hy
    ·exact ih h
   ·cases h
 exact of_decide_eq_true (h3 xs h2)
omit [DecidableEq κ] in
theorem posL_at {xs : List α} {k : κ} {x : α} (hx : xs[posL key l xs k]? = some x) : ¬ l (key x) k := by
 unfold posL at hx
 induction xs with
 | nil => cases hx
 | cons y ys ih =>
  rw [List.takeWhile_cons] at hx
  split at hx
  ·exact ih (by simpa using hx)
  ·rename_i hy
   simp at hx
   subst hx
   simpa using hy
variable (L : LinO l)
include L
omit [DecidableEq κ] in

theorem posL_ge {xs : List α} (hs : SortB key l xs) {k : κ} {j : Nat} {x : α} (hj : posL key l xs k ≤ j) (hx : xs[j]? = some x) : ¬ l (key x) k := by
 intro hl; obtain ⟨hjl, hxe⟩ := List.getElem?_eq_some_iff.1 hx; have hp : posL key l xs k < xs.length := (by omega); have h0 := posL_at (List.getElem?_eq_getElem hp)
 rcases Nat.eq_or_lt_of_le hj with h | h
 ·subst h; subst hxe; exact h0 hl
 ·have h1 := List.pairwise_iff_getElem.1 hs _ _ hp hjl h; rw [hxe] at h1; exact h0 (L.trans h1 hl)
omit [DecidableEq κ] in
theorem posL_eq {xs : List α} (hs : SortB key l xs) {k : κ} {n : Nat} (hn : n ≤ xs.length) (h1 : ∀ x, 0 < n → xs[n - 1]? = some x → l (key x) k) (h2 : ∀ x, xs[n]? = some x → ¬ l (key x) k) : posL key l xs k = n := by
 have hp := posL_le (key := key) (l := l) xs k
 rcases Nat.lt_trichotomy (posL key l xs k) n with h | h | h
 ·have hl : posL key l xs k < xs.length := (by omega); have h3 := posL_at (List.getElem?_eq_getElem hl); obtain ⟨y, hy⟩ : ∃ y, xs[n - 1]? = some y := ⟨_, List.getElem?_eq_getElem (by omega)⟩; have h4 := h1 y (by omega) hy; exact absurd h4 (posL_ge L hs (by omega) hy)
 ·exact h
 ·obtain ⟨y, hy⟩ : ∃ y, xs[n]? = some y := ⟨_, List.getElem?_eq_getElem (by omega)⟩; exact absurd (posL_lt h hy) (h2 y hy)
theorem there_iff {xs : List α} (hs : SortB key l xs) {k : κ} : thereL key l xs k = true ↔ ∃ x ∈ xs, key x = k := by
 unfold thereL
 constructor
 ·intro h
  split at h
  ·rename_i x hx
   exact ⟨x, List.mem_of_getElem? hx, of_decide_eq_true h⟩
  ·cases h
 ·rintro ⟨x, hx, hk⟩; obtain ⟨j, hj⟩ := List.mem_iff_getElem?.1 hx
  have h0 : posL key l xs k = j := posL_eq L hs (by have := (List.getElem?_eq_some_iff.1 hj).1; omega) (fun y h0 hy => by
   obtain ⟨h1, h2⟩ := List.getElem?_eq_some_iff.1 hj; obtain ⟨h3, h4⟩ := List.getElem?_eq_some_iff.1 hy; have h5 := List.pairwise_iff_getElem.1 hs _ _ h3 h1 (by omega); rw [h2, h4, hk] at h5
   exact h5) (fun y hy => by rw [hj] at hy; cases hy; rw [hk]; exact L.irr k)
  rw [h0, hj]
  simpa using hk
omit L in
theorem there_at {xs : List α} {k : κ} (h : thereL key l xs k = true) : ∃ x, xs[posL key l xs k]? = some x ∧ key x = k := by
 unfold thereL at h
 split at h
 ·rename_i x hx
  exact ⟨x, hx, of_decide_eq_true h⟩
 ·cases h
omit [DecidableEq κ] [DecidableRel l] in
theorem sort_uniq {xs : List α} (hs : SortB key l xs) {i j : Nat} {x y : α} (hx : xs[i]? = some x) (hy : xs[j]? = some y) (h : key x = key y) : i = j := by
 obtain ⟨h1, h2⟩ := List.getElem?_eq_some_iff.1 hx; obtain ⟨h3, h4⟩ := List.getElem?_eq_some_iff.1 hy
 rcases Nat.lt_trichotomy i j with hl | hl | hl
 ·have h5 := List.pairwise_iff_getElem.1 hs _ _ h1 h3 hl; rw [h2, h4, h] at h5; exact absurd h5 (L.irr _)
 ·exact hl
 ·have h5 := List.pairwise_iff_getElem.1 hs _ _ h3 h1 hl; rw [h2, h4, h] at h5; exact absurd h5 (L.irr _)
omit [DecidableEq κ] [DecidableRel l] in
theorem sort_mem {xs : List α} (hs : SortB key l xs) {x y : α} (hx : x ∈ xs) (hy : y ∈ xs) (h : key x = key y) : x = y := by
 obtain ⟨i, hi⟩ := List.mem_iff_getElem?.1 hx; obtain ⟨j, hj⟩ := List.mem_iff_getElem?.1 hy; have := sort_uniq L hs hi hj h; subst this; rw [hi] at hj; exact Option.some.inj hj
omit L [DecidableEq κ] [DecidableRel l] in
theorem sort_app {xs ys : List α} : SortB key l (xs ++ ys) ↔ SortB key l xs ∧ SortB key l ys ∧ ∀ x ∈ xs, ∀ y ∈ ys, l (key x) (key y) := List.pairwise_append
theorem sort_put {xs : List α} (hs : SortB key l xs) {k : κ} {x : α} (hk : key x = k) : SortB key l (putL key l xs k x) := by
 unfold putL
 have hlt : ∀ y ∈ xs.take (posL key l xs k), l (key y) k := fun y hy => by
  obtain ⟨j, hj⟩ := List.mem_iff_getElem?.1 hy; rw [List.getElem?_take] at hj
  split at hj
  ·exact posL_lt (by assumption) hj
  ·cases hj
 have hge : ∀ (n : Nat), posL key l xs k ≤ n → (∀ y, xs[n]? = some y → key y ≠ k) → (∀ y ∈ xs.drop n, l k (key y)) := fun n hn hne y hy => by
  obtain ⟨j, hj⟩ := List.mem_iff_getElem?.1 hy; rw [List.getElem?_drop] at hj; have h1 : ¬ l (key y) k := posL_ge L hs (k := k) (Nat.le_trans hn (Nat.le_add_right n j)) hj
  rcases L.tot (key y) k with h | h | h
  ·exact absurd h h1
  ·exfalso
   have hp : xs[n]? ≠ none := fun e => by
    have := List.getElem?_eq_none_iff.1 e; have := (List.getElem?_eq_some_iff.1 hj).1; omega
   obtain ⟨z, hz⟩ : ∃ z, xs[n]? = some z := Option.ne_none_iff_exists'.1 hp; have h2 := posL_ge L hs hn hz
   by_cases h0 : j = 0
   ·subst h0; rw [Nat.add_zero] at hj; exact hne y hj h
   ·obtain ⟨h3, h4⟩ := List.getElem?_eq_some_iff.1 hz; obtain ⟨h5, h6⟩ := List.getElem?_eq_some_iff.1 hj; have h7 := List.pairwise_iff_getElem.1 hs _ _ h3 h5 (by omega); rw [h4, h6, h] at h7; exact h2 h7
  ·exact h
 split
 ·rename_i ht
  obtain ⟨y, hy, hyk⟩ := there_at ht; obtain ⟨hlen, hye⟩ := List.getElem?_eq_some_iff.1 hy; rw [List.set_eq_take_append_cons_drop, if_pos hlen]; have hs2 := hs; rw [← List.take_append_drop (posL key l xs k) xs, List.drop_eq_getElem_cons hlen, hye] at hs2; obtain ⟨p1, p2, p3⟩ := sort_app.1 hs2; refine sort_app.2 ⟨p1, List.Pairwise.cons (fun z hz => ?_) (List.pairwise_cons.1 p2).2, fun u hu v hv => ?_⟩
  ·rw [hk, ← hyk]; exact (List.pairwise_cons.1 p2).1 z hz
  ·rcases List.mem_cons.1 hv with rfl | hv
   ·rw [hk]; exact hlt u hu
   ·exact p3 u hu v (List.mem_cons_of_mem _ hv)
 ·rename_i ht
  have hnk : ∀ y, xs[posL key l xs k]? = some y → key y ≠ k := fun y hy e => ht ((there_iff L hs).2 ⟨y, List.mem_of_getElem? hy, e⟩); have hs2 := hs; rw [← List.take_append_drop (posL key l xs k) xs] at hs2; obtain ⟨p1, p2, p3⟩ := sort_app.1 hs2; refine sort_app.2 ⟨p1, List.Pairwise.cons (fun z hz => ?_) p2, fun u hu v hv => ?_⟩
  ·rw [hk]; exact hge _ (Nat.le_refl _) hnk z hz
  ·rcases List.mem_cons.1 hv with rfl | hv
   ·rw [hk]; exact hlt u hu
   ·exact p3 u hu v hv
theorem del_filter {xs : List α} (hs : SortB key l xs) (k : κ) : delL key l xs k = xs.filter (fun x => decide (key x ≠ k)) := by
 unfold delL
 split
 ·rename_i ht
  obtain ⟨y, hy, hyk⟩ := there_at ht; obtain ⟨hlen, hye⟩ := List.getElem?_eq_some_iff.1 hy; rw [List.eraseIdx_eq_take_drop_succ]
  conv => rhs; rw [← List.take_append_drop (posL key l xs k) xs, List.drop_eq_getElem_cons hlen, hye]
  rw [List.filter_append, List.filter_cons_of_neg (by simp [hyk])]
  congr 1
  ·refine (List.filter_eq_self.2 fun x hx => ?_).symm; obtain ⟨j, hj⟩ := List.mem_iff_getElem?.1 hx; rw [List.getElem?_take] at hj
   split at hj
   ·rename_i hjl
    refine decide_eq_true fun e => ?_; have := sort_uniq L hs hj hy (e.trans hyk.symm); omega
   ·cases hj
  ·refine (List.filter_eq_self.2 fun x hx => ?_).symm; obtain ⟨j, hj⟩ := List.mem_iff_getElem?.1 hx; rw [List.getElem?_drop] at hj; refine decide_eq_true fun e => ?_; have := sort_uniq L hs hj hy (e.trans hyk.symm); omega
 ·rename_i ht
  refine (List.filter_eq_self.2 fun x hx => ?_).symm; exact decide_eq_true (p := key x ≠ k) fun e => ht ((there_iff L hs).2 ⟨x, hx, e⟩)
theorem sort_del {xs : List α} (hs : SortB key l xs) (k : κ) : SortB key l (delL key l xs k) := by
 rw [del_filter L hs]; exact hs.filter _
theorem mem_put {xs : List α} (hs : SortB key l xs) {k : κ} {x : α} (hk : key x = k) (y : α) : y ∈ putL key l xs k x ↔ y = x ∨ (y ∈ xs ∧ key y ≠ k) := by
 unfold putL
 split
 ·rename_i ht
  obtain ⟨z, hz, hzk⟩ := there_at ht
  constructor
  ·intro h; obtain ⟨j, hj⟩ := List.mem_iff_getElem?.1 h; rw [List.getElem?_set] at hj
   split at hj
   ·split at hj
    ·exact .inl (Option.some.inj hj).symm
    ·cases hj
   ·rename_i hne
    refine .inr ⟨List.mem_of_getElem? hj, fun e => hne ?_⟩; exact (sort_uniq L hs hj hz (e.trans hzk.symm)).symm
  ·have hlen := (List.getElem?_eq_some_iff.1 hz).1; rintro (rfl | ⟨hy, hne⟩)
   ·exact List.mem_iff_getElem?.2 ⟨posL key l xs k, by rw [List.getElem?_set_self hlen]⟩
   ·obtain ⟨j, hj⟩ := List.mem_iff_getElem?.1 hy; refine List.mem_iff_getElem?.2 ⟨j, ?_⟩; rw [List.getElem?_set_ne (fun e => hne (by rw [e, hj] at hz; cases hz; exact hzk)), hj]
 ·rename_i ht
  rw [List.mem_append, List.mem_cons]
  have hm : y ∈ xs ↔ y ∈ xs.take (posL key l xs k) ∨ y ∈ xs.drop (posL key l xs k) := by
   conv => lhs; rw [← List.take_append_drop (posL key l xs k) xs]
   rw [List.mem_append]
  constructor
  ·rintro (h | h | h)
   ·exact .inr ⟨hm.2 (.inl h), fun e => ht ((there_iff L hs).2 ⟨y, hm.2 (.inl h), e⟩)⟩
   ·exact .inl h
   ·exact .inr ⟨hm.2 (.inr h), fun e => ht ((there_iff L hs).2 ⟨y, hm.2 (.inr h), e⟩)⟩
  ·rintro (h | ⟨h, -⟩)
   ·exact .inr (.inl h)
   ·exact (hm.1 h).imp id .inr
omit L in
theorem put_length (xs : List α) (k : κ) (x : α) : (putL key l xs k x).length = if thereL key l xs k = true then xs.length else xs.length + 1 := by
 unfold putL
 split
 ·simp
 ·have := posL_le (key := key) (l := l) xs k
  simp
  omega
omit [DecidableEq κ] [DecidableRel l] in

theorem sort_ext {xs ys : List α} (hx : SortB key l xs) (hy : SortB key l ys) (h : ∀ a, a ∈ xs ↔ a ∈ ys) : xs = ys := by
 induction xs generalizing ys with
 | nil => cases ys with
  | nil => rfl
  | cons y ys => exact absurd ((h y).2 (List.mem_cons_self ..)) (by simp)
 | cons x xs ih => cases ys with
  | nil => exact absurd ((h x).1 (List.mem_cons_self ..)) (by simp)
  | cons y ys =>
   obtain ⟨h1, h2⟩ := List.pairwise_cons.1 hx; obtain ⟨h3, h4⟩ := List.pairwise_cons.1 hy
   have e : x = y := by
    rcases List.mem_cons.1 ((h x).1 (List.mem_cons_self ..)) with e | e
    ·exact e
    ·rcases List.mem_cons.1 ((h y).2 (List.mem_cons_self ..)) with e2 | e2
     ·exact e2.symm
     ·exact absurd (L.trans (h3 x e) (h1 y e2)) (L.irr _)
   subst e
   congr 1
   refine ih h2 h4 fun a => ?_; have ha := h a; simp only [List.mem_cons] at ha
   constructor
   ·intro hm
    rcases ha.1 (.inr hm) with rfl | h5
    ·exact absurd (h1 _ hm) (L.irr _)
    ·exact h5
   ·intro hm
    rcases ha.2 (.inr hm) with rfl | h5
    ·exact absurd (h3 _ hm) (L.irr _)
    ·exact h5
end
end Go.Proofs.Ytfeglnpmpgipiaa
end
section
set_option linter.unusedVariables false
set_option maxRecDepth 100000
namespace Go.Proofs.Ytfeglnpmpgipiaa
structure Cid where
 node : Int
 boot : Int
 seq : Int
 deriving DecidableEq
structure Pc where
 blob : Cid
 size : Int
 etag : Bs
 deriving DecidableEq
structure CObj where
 key : Bs
 size : Int
 etag : Bs
 time : Int
 pcs : List Pc
 deriving DecidableEq
structure CPart where
 num : Int
 pc : Pc
 deriving DecidableEq
structure CUpl where
 id : Cid
 key : Bs
 parts : List CPart
 deriving DecidableEq
structure CBuck where
 name : Bs
 time : Int
 days : Int
 objs : List CObj
 upls : List CUpl
 deriving DecidableEq
structure Cat where
 bucks : List CBuck
 floors : List Cid
 deriving DecidableEq
structure Cmd where
 kind : Int
 id : Cid
 bucket : Bs
 key : Bs
 upload : Cid
 piece : Pc
 part : Int
 parts : List Int
 time : Int
 days : Int
 deriving DecidableEq
structure Outc where
 code : Int
 etag : Bs
 deriving DecidableEq
def ltI (a b : Cid) : Prop := a.node < b.node ∨ (a.node = b.node ∧ (a.boot < b.boot ∨ (a.boot = b.boot ∧ a.seq < b.seq)))
instance (a b : Cid) : Decidable (ltI a b) := inferInstanceAs (Decidable (_ ∨ _))
theorem linI : LinO ltI := by
 refine ⟨fun a h => ?_, fun {a b c} h k => ?_, fun a b => ?_⟩
 ·unfold ltI at h; omega
 ·unfold ltI at h k ⊢; omega
 ·unfold ltI
  cases a with | mk n1 b1 s1 => cases b with | mk n2 b2 s2 =>
  simp only [Cid.mk.injEq]; omega
def ltZ (a b : Int) : Prop := a < b
instance (a b : Int) : Decidable (ltZ a b) := inferInstanceAs (Decidable (a < b))
theorem linZ' : LinO ltZ := linZ
section
variable (sm : List Pc → Bs)
def putO (b : CBuck) (o : CObj) : CBuck × Outc :=
 if thereL CObj.key lt b.objs o.key = false ∧ 128 ≤ b.objs.length then (b, ⟨7, []⟩)
 else ({ b with objs := putL CObj.key lt b.objs o.key o }, ⟨0, o.etag⟩)
def gather (ps : List CPart) : List Int → Option (List Pc)
 | [] => some []
 | n :: ns => match ps.find? (fun p => decide (p.num = n)) with
  | none => none
  | some p => (gather ps ns).map (p.pc :: ·)
def sizes (l : List Pc) : Int := (l.map Pc.size).sum
def inUpl (b : CBuck) (i : Nat) (u : CUpl) (x : Cmd) : CBuck × Outc :=
 if x.kind = 6 then ({ b with upls := b.upls.set i { u with parts := putL CPart.num ltZ u.parts x.part ⟨x.part, x.piece⟩ } }, ⟨0, x.piece.etag⟩)
 else if x.kind = 8 then ({ b with upls := b.upls.eraseIdx i }, ⟨0, []⟩)
 else match gather u.parts x.parts with
  | none => (b, ⟨6, []⟩)
  | some l =>
   let r := putO b ⟨x.key, sizes l, sm l, x.time, l⟩
   if r.2.code = 0 then ({ r.1 with upls := b.upls.eraseIdx i }, r.2) else r
def inBuck (b : CBuck) (x : Cmd) : CBuck × Outc :=
 if x.kind = 3 then putO b ⟨x.key, x.piece.size, x.piece.etag, x.time, [x.piece]⟩
 else if x.kind = 4 then ({ b with objs := delL CObj.key lt b.objs x.key }, ⟨0, []⟩)
 else if x.kind = 5 then (if 16 ≤ b.upls.length then (b, ⟨7, []⟩) else ({ b with upls := putL CUpl.id ltI b.upls x.id ⟨x.id, x.key, []⟩ }, ⟨0, []⟩))
 else if x.kind = 9 then ({ b with days := x.days }, ⟨0, []⟩)
 else match b.upls[posL CUpl.id ltI b.upls x.upload]? with
  | none => (b, ⟨3, []⟩)
  | some u => if u.id = x.upload ∧ u.key = x.key then inUpl sm b (posL CUpl.id ltI b.upls x.upload) u x else (b, ⟨3, []⟩)
def old (b : CBuck) (now : Int) (o : CObj) : Bool := decide (o.time + b.days ≤ now)
def expireB (now : Int) (b : CBuck) : CBuck := if b.days = 0 then b else { b with objs := b.objs.filter (fun o => !old b now o) }
def floorL (fs : List Cid) (id : Cid) : List Cid := match fs[posL Cid.node ltZ fs id.node]? with
 | none => putL Cid.node ltZ fs id.node id
 | some f => if f.node = id.node ∧ ¬ ltI f id then fs else putL Cid.node ltZ fs id.node id
def apply (c : Cat) (x : Cmd) : Cat × Outc :=
 if x.kind = 1 then
  (if thereL CBuck.name lt c.bucks x.bucket = true then (c, ⟨4, []⟩)
   else if 16 ≤ c.bucks.length then (c, ⟨7, []⟩)
   else ({ c with bucks := putL CBuck.name lt c.bucks x.bucket ⟨x.bucket, x.time, 0, [], []⟩ }, ⟨0, []⟩))
 else if x.kind = 10 then ({ c with bucks := c.bucks.map (expireB x.time) }, ⟨0, []⟩)
 else if x.kind = 11 then ({ c with floors := floorL c.floors x.id }, ⟨0, []⟩)
 else match c.bucks[posL CBuck.name lt c.bucks x.bucket]? with
  | none => (c, ⟨1, []⟩)
  | some b =>
   if b.name ≠ x.bucket then (c, ⟨1, []⟩)
   else if x.kind = 2 then
    (if 0 < b.objs.length + b.upls.length then (c, ⟨5, []⟩) else ({ c with bucks := c.bucks.eraseIdx (posL CBuck.name lt c.bucks x.bucket) }, ⟨0, []⟩))
   else ({ c with bucks := c.bucks.set (posL CBuck.name lt c.bucks x.bucket) (inBuck sm b x).1 }, (inBuck sm b x).2)
def putRs (o : CObj) (s : List CObj × Bool) (x : CObj) : List CObj × Bool :=
 ((s.1 ++ (if s.2 = false ∧ ¬ lt x.key o.key then [o] else [])) ++ (if x.key = o.key then [] else [x]), s.2 || !decide (lt x.key o.key))
def putR (os : List CObj) (o : CObj) : List CObj :=
 let s := os.foldl (putRs o) ([], false)
 if s.2 then s.1 else s.1 ++ [o]
def hasR (os : List CObj) (k : Bs) : Bool := os.any fun o => decide (o.key = k)
def withoutR (us : List CUpl) (id : Cid) : List CUpl := us.filter fun u => decide (u.id ≠ id)
def startRs (u : CUpl) (s : List CUpl × Bool) (x : CUpl) : List CUpl × Bool :=
 ((s.1 ++ (if s.2 = false ∧ ltI u.id x.id then [u] else [])) ++ [x], s.2 || decide (ltI u.id x.id))
def startR (us : List CUpl) (u : CUpl) : List CUpl :=
 let s := (withoutR us u.id).foldl (startRs u) ([], false)
 if s.2 then s.1 else s.1 ++ [u]
def partRs (ps : List CPart) (p : CPart) (n : Nat) : List CPart := if (n : Int) = p.num then [p] else ps.filter fun x => decide (x.num = n)
def segs {α : Type} (f : Nat → List α) : Nat → List α
 | 0 => []
 | n + 1 => segs f n ++ f n
def partR (ps : List CPart) (p : CPart) (n : Nat) : List CPart := segs (fun j => partRs ps p (j + 1)) n
def gatherR (ps : List CPart) : List Int → Option (List Pc)
 | [] => some []
 | n :: ns => if ps.any (fun p => decide (p.num = n)) = true then (gatherR ps ns).map (((ps.filter fun p => decide (p.num = n)).map CPart.pc) ++ ·) else none
def completeR (b : CBuck) (u : CUpl) (x : Cmd) : CBuck × Outc :=
 match gatherR u.parts x.parts with
 | none => (b, ⟨6, []⟩)
 | some l =>
  if hasR b.objs x.key = false ∧ 128 ≤ b.objs.length then (b, ⟨7, []⟩)
  else ({ b with objs := putR b.objs ⟨x.key, sizes l, sm l, x.time, l⟩, upls := withoutR b.upls u.id }, ⟨0, sm l⟩)
def buckR (b : CBuck) (x : Cmd) : CBuck × Outc :=
 if x.kind = 3 then
  (if hasR b.objs x.key = false ∧ 128 ≤ b.objs.length then (b, ⟨7, []⟩)
   else ({ b with objs := putR b.objs ⟨x.key, x.piece.size, x.piece.etag, x.time, [x.piece]⟩ }, ⟨0, x.piece.etag⟩))
 else if x.kind = 4 then ({ b with objs := b.objs.filter fun o => decide (o.key ≠ x.key) }, ⟨0, []⟩)
 else if x.kind = 5 then (if 16 ≤ b.upls.length then (b, ⟨7, []⟩) else ({ b with upls := startR b.upls ⟨x.id, x.key, []⟩ }, ⟨0, []⟩))
 else if x.kind = 9 then ({ b with days := x.days }, ⟨0, []⟩)
 else match b.upls.findIdx? (fun u => decide (u.id = x.upload) && decide (u.key = x.key)) with
  | none => (b, ⟨3, []⟩)
  | some i => match b.upls[i]? with
   | none => (b, ⟨3, []⟩)
   | some u =>
    if x.kind = 6 then ({ b with upls := b.upls.set i { u with parts := partR u.parts ⟨x.part, x.piece⟩ 16 } }, ⟨0, x.piece.etag⟩)
    else if x.kind = 8 then ({ b with upls := withoutR b.upls u.id }, ⟨0, []⟩)
    else completeR sm b u x
def bestR (n : Nat) (b : Cid) (f : Cid) : Cid := if f.node = n ∧ (b.node < 0 ∨ ltI b f) then f else b
def floorRs (fs : List Cid) (id : Cid) (n : Nat) : List Cid := if 0 ≤ ((fs ++ [id]).foldl (bestR n) ⟨-1, 0, 0⟩).node then [(fs ++ [id]).foldl (bestR n) ⟨-1, 0, 0⟩] else []
def floorsR (fs : List Cid) (id : Cid) (n : Nat) : List Cid := segs (floorRs fs id) n
def keptR (now : Int) (b : CBuck) : CBuck := { b with objs := b.objs.filter fun o => decide (b.days = 0) || decide (now < o.time + b.days) }
def applyR (c : Cat) (x : Cmd) : Cat × Outc :=
 if x.kind = 11 then ({ c with floors := floorsR c.floors x.id 16 }, ⟨0, []⟩)
 else if x.kind = 10 then ({ c with bucks := c.bucks.map (keptR x.time) }, ⟨0, []⟩)
 else
  let at' := posL CBuck.name lt c.bucks x.bucket
  let there := thereL CBuck.name lt c.bucks x.bucket
  if x.kind = 1 then
   (if there = true then (c, ⟨4, []⟩)
    else if 16 ≤ c.bucks.length then (c, ⟨7, []⟩)
    else ({ c with bucks := c.bucks.take at' ++ ⟨x.bucket, x.time, 0, [], []⟩ :: c.bucks.drop at' }, ⟨0, []⟩))
  else match c.bucks[at']? with
   | none => (c, ⟨1, []⟩)
   | some b =>
    if b.name ≠ x.bucket then (c, ⟨1, []⟩)
    else if x.kind = 2 then
     (if 0 < b.objs.length ∨ 0 < b.upls.length then (c, ⟨5, []⟩) else ({ c with bucks := c.bucks.take at' ++ c.bucks.drop (at' + 1) }, ⟨0, []⟩))
    else ({ c with bucks := c.bucks.set at' (buckR sm b x).1 }, (buckR sm b x).2)
end
end Go.Proofs.Ytfeglnpmpgipiaa
end
section
set_option linter.unusedVariables false
set_option maxRecDepth 100000
namespace Go.Proofs.Ytfeglnpmpgipiaa
structure PcOk (p : Pc) : Prop where
 lo : 0 ≤ p.size
 hi : p.size ≤ 1024
 et : p.etag.length = 64
structure ObOk (o : CObj) : Prop where
 key : o.key.length ≤ 200
 et : o.etag.length ≤ 100
 lo : 0 ≤ o.time
 hi : o.time ≤ 1099511627776
 ne : o.pcs ≠ []
 len : o.pcs.length ≤ 16
 pcs : ∀ p ∈ o.pcs, PcOk p
 size : o.size = sizes o.pcs
structure UpOk (u : CUpl) : Prop where
 key : u.key.length ≤ 200
 sort : SortB CPart.num ltZ u.parts
 parts : ∀ p ∈ u.parts, 1 ≤ p.num ∧ p.num ≤ 16 ∧ PcOk p.pc
structure BkOk (b : CBuck) : Prop where
 name : b.name.length ≤ 63
 tlo : 0 ≤ b.time
 thi : b.time ≤ 1099511627776
 dlo : 0 ≤ b.days
 dhi : b.days ≤ 1099511627776
 os : SortB CObj.key lt b.objs
 ol : b.objs.length ≤ 128
 ob : ∀ o ∈ b.objs, ObOk o
 us : SortB CUpl.id ltI b.upls
 ul : b.upls.length ≤ 16
 up : ∀ u ∈ b.upls, UpOk u
structure CatOk (c : Cat) : Prop where
 bs : SortB CBuck.name lt c.bucks
 bl : c.bucks.length ≤ 16
 bk : ∀ b ∈ c.bucks, BkOk b
 fs : SortB Cid.node ltZ c.floors
 fl : ∀ f ∈ c.floors, 0 ≤ f.node ∧ f.node ≤ 15
structure CmdOk (x : Cmd) : Prop where
 klo : 1 ≤ x.kind
 khi : x.kind ≤ 11
 nlo : 0 ≤ x.id.node
 nhi : x.id.node ≤ 15
 buck : x.bucket.length ≤ 63
 key : x.key.length ≤ 200
 pc : x.kind = 3 ∨ x.kind = 6 → PcOk x.piece
 part : x.kind = 6 → 1 ≤ x.part ∧ x.part ≤ 16
 pne : x.kind = 7 → x.parts ≠ []
 prt : x.kind = 7 → x.parts.Pairwise (· < ·) ∧ ∀ n ∈ x.parts, 1 ≤ n ∧ n ≤ 16
 tlo : 0 ≤ x.time
 thi : x.time ≤ 1099511627776
 dlo : 0 ≤ x.days
 dhi : x.days ≤ 1099511627776
theorem segs_mem {α : Type} {f : Nat → List α} {a : α} : ∀ {n : Nat}, a ∈ segs f n ↔ ∃ j, j < n ∧ a ∈ f j
 | 0 => by simp [segs]
 | n + 1 => by
  unfold segs; rw [List.mem_append, segs_mem (n := n)]
  constructor
  ·rintro (⟨j, h1, h2⟩ | h)
   ·exact ⟨j, by omega, h2⟩
   ·exact ⟨n, by omega, h⟩
  ·rintro ⟨j, h1, h2⟩
   rcases Nat.lt_or_ge j n with h | h
   ·exact .inl ⟨j, h, h2⟩
   ·obtain rfl : j = n := (by omega); exact .inr h2
theorem segs_sort {α : Type} {key : α → Int} {f : Nat → List α} (g : Nat → Int) (hg : ∀ i j, i < j → g i < g j) (h1 : ∀ n, (f n).length ≤ 1) (h2 : ∀ n, ∀ a ∈ f n, key a = g n) : ∀ n, SortB key ltZ (segs f n)
 | 0 => List.Pairwise.nil
 | n + 1 => by
  unfold segs; refine sort_app.2 ⟨segs_sort g hg h1 h2 n, ?_, fun a ha b hb => ?_⟩
  ·have := h1 n
   match hf : f n with
   | [] => exact List.Pairwise.nil
   | [a] => exact List.pairwise_singleton ..
   | a :: b :: l => rw [hf] at this; simp at this
  ·obtain ⟨j, hj, ha⟩ := segs_mem.1 ha; show key a < key b; rw [h2 j a ha, h2 n b hb]; exact hg j n hj
theorem putRs_lo (o : CObj) : ∀ (xs acc : List CObj), (∀ x ∈ xs, lt x.key o.key) → xs.foldl (putRs o) (acc, false) = (acc ++ xs, false)
 | [], acc, _ => by simp
 | x :: xs, acc, h => by
  have hx := h x (List.mem_cons_self ..); have hne : ¬ x.key = o.key := fun e => lt_irrefl _ (e ▸ hx); rw [List.foldl_cons]; have : putRs o (acc, false) x = (acc ++ [x], false) := (by simp [putRs, hx, hne]); rw [this, putRs_lo o xs _ (fun y hy => h y (List.mem_cons_of_mem _ hy))]
  simp
theorem putRs_hi (o : CObj) : ∀ (xs acc : List CObj), (∀ x ∈ xs, lt o.key x.key) → xs.foldl (putRs o) (acc, true) = (acc ++ xs, true)
 | [], acc, _ => by simp
 | x :: xs, acc, h => by
  have hx := h x (List.mem_cons_self ..); have hne : ¬ x.key = o.key := fun e => lt_irrefl _ (e ▸ hx); rw [List.foldl_cons]; have : putRs o (acc, true) x = (acc ++ [x], true) := (by simp [putRs, hne]); rw [this, putRs_hi o xs _ (fun y hy => h y (List.mem_cons_of_mem _ hy))]
  simp
theorem take_pos {α κ : Type} {key : α → κ} {l : κ → κ → Prop} [DecidableRel l] (xs : List α) (k : κ) : ∀ x ∈ xs.take (posL key l xs k), l (key x) k := fun y hy => by
 obtain ⟨j, hj⟩ := List.mem_iff_getElem?.1 hy; rw [List.getElem?_take] at hj
 split at hj
 ·exact posL_lt (by assumption) hj
 ·cases hj
theorem drop_pos {α κ : Type} {key : α → κ} {l : κ → κ → Prop} [DecidableRel l] [DecidableEq κ] (L : LinO l) {xs : List α} (hs : SortB key l xs) (k : κ) : ∀ x ∈ xs.drop (posL key l xs k), key x = k ∨ l k (key x) := fun y hy => by
 obtain ⟨j, hj⟩ := List.mem_iff_getElem?.1 hy; rw [List.getElem?_drop] at hj; have h1 := posL_ge L hs (k := k) (Nat.le_add_right _ j) hj
 rcases L.tot (key y) k with h | h | h
 ·exact absurd h h1
 ·exact .inl h
 ·exact .inr h
theorem putR_eq {os : List CObj} (hs : SortB CObj.key lt os) (o : CObj) : putR os o = putL CObj.key lt os o.key o := by
 obtain ⟨n, hn⟩ : ∃ n, posL CObj.key lt os o.key = n := ⟨_, rfl⟩; have hA := take_pos (key := CObj.key) (l := lt) os o.key; have hB := drop_pos linB hs o.key; have hE := sort_app.1 (by rw [List.take_append_drop n os]; exact hs : SortB CObj.key lt (os.take n ++ os.drop n))
 have ht : os.foldl (putRs o) ([], false) = (os.drop n).foldl (putRs o) (os.take n, false) := by
  conv => lhs; rw [← List.take_append_drop n os]
  rw [List.foldl_append, putRs_lo o _ _ (by rw [← hn]; exact hA), List.nil_append]
 unfold putR putL thereL; rw [ht, hn]; rw [hn] at hB
 match hd : os.drop n with
 | [] =>
  have : os[n]? = none := by
   rw [List.getElem?_eq_none_iff]; have := congrArg List.length hd
   simp at this; omega
  simp [this]
 | y :: ys =>
  have hy : os[n]? = some y := by
   have h1 : (os.drop n)[0]? = some y := by rw [hd]; rfl
   rwa [List.getElem?_drop, Nat.add_zero] at h1
  rw [hd] at hB hE; have hlt : n < os.length := (List.getElem?_eq_some_iff.1 hy).1
  have hys : ys = os.drop (n + 1) := by
   have h1 := List.drop_eq_getElem_cons hlt; rw [hd] at h1; exact (List.cons.inj h1).2
  have hny : ¬ lt y.key o.key := by rw [← hn] at hy; exact posL_at hy
  have hz : ∀ z ∈ ys, lt o.key z.key := fun z hz => by
   have h1 := (List.pairwise_cons.1 hE.2.1).1 z hz
   rcases hB y (List.mem_cons_self ..) with e | e
   ·rw [← e]; exact h1
   ·exact lt_trans e h1
  rw [List.foldl_cons]
  by_cases e : y.key = o.key
  ·have h1 : putRs o (os.take n, false) y = (os.take n ++ [o], true) := (by simp [putRs, e, lt_irrefl]); rw [h1, putRs_hi o _ _ hz, hy]; simp only [e, decide_true, if_true]; rw [List.set_eq_take_append_cons_drop, if_pos hlt, hys]
   simp
  ·have h1 : putRs o (os.take n, false) y = (os.take n ++ [o] ++ [y], true) := (by simp [putRs, e, hny]); rw [h1, putRs_hi o _ _ hz, hy]
   simp [e]
theorem has_eq {os : List CObj} (hs : SortB CObj.key lt os) (k : Bs) : hasR os k = thereL CObj.key lt os k := by
 rw [Bool.eq_iff_iff, there_iff linB hs]; unfold hasR
 simp
theorem startRs_lo (u : CUpl) : ∀ (xs acc : List CUpl), (∀ x ∈ xs, ltI x.id u.id) → xs.foldl (startRs u) (acc, false) = (acc ++ xs, false)
 | [], acc, _ => by simp
 | x :: xs, acc, h => by
  have hx := h x (List.mem_cons_self ..); have hne : ¬ ltI u.id x.id := fun e => linI.irr _ (linI.trans e hx); rw [List.foldl_cons]; have : startRs u (acc, false) x = (acc ++ [x], false) := (by simp [startRs, hne]); rw [this, startRs_lo u xs _ (fun y hy => h y (List.mem_cons_of_mem _ hy))]
  simp
theorem startRs_hi (u : CUpl) : ∀ (xs acc : List CUpl), xs.foldl (startRs u) (acc, true) = (acc ++ xs, true)
 | [], acc => by simp
 | x :: xs, acc => by
  rw [List.foldl_cons]; have : startRs u (acc, true) x = (acc ++ [x], true) := (by simp [startRs]); rw [this, startRs_hi u xs _]
  simp
theorem without_eq {us : List CUpl} (hs : SortB CUpl.id ltI us) (id : Cid) : withoutR us id = delL CUpl.id ltI us id := (del_filter linI hs id).symm
theorem erase_eq {us : List CUpl} (hs : SortB CUpl.id ltI us) {i : Nat} {u : CUpl} (h : us[i]? = some u) (hp : posL CUpl.id ltI us u.id = i) : us.eraseIdx i = withoutR us u.id := by
 have ht : thereL CUpl.id ltI us u.id = true := (there_iff linI hs).2 ⟨u, List.mem_of_getElem? h, rfl⟩; rw [without_eq hs]; unfold delL; rw [if_pos ht, hp]
theorem startR_eq {us : List CUpl} (hs : SortB CUpl.id ltI us) (u : CUpl) : startR us u = putL CUpl.id ltI us u.id u := by
 obtain ⟨n, hn⟩ : ∃ n, posL CUpl.id ltI us u.id = n := ⟨_, rfl⟩; have hA := take_pos (key := CUpl.id) (l := ltI) us u.id; have hB := drop_pos linI hs u.id; have hE := sort_app.1 (by rw [List.take_append_drop n us]; exact hs : SortB CUpl.id ltI (us.take n ++ us.drop n)); rw [hn] at hA hB
 have hw : withoutR us u.id = us.take n ++ (us.drop n).filter (fun x => decide (x.id ≠ u.id)) := by
  unfold withoutR
  conv => lhs; rw [← List.take_append_drop n us]
  rw [List.filter_append]
  congr 1
  refine List.filter_eq_self.2 fun x hx => decide_eq_true (p := x.id ≠ u.id) fun e => linI.irr u.id ?_; have := hA x hx
  rwa [e] at this
 unfold startR putL thereL; rw [hw, List.foldl_append, startRs_lo u _ _ hA, List.nil_append, hn]
 match hd : us.drop n with
 | [] =>
  have : us[n]? = none := by
   rw [List.getElem?_eq_none_iff]; have := congrArg List.length hd
   simp at this; omega
  simp [this]
 | y :: ys =>
  have hy : us[n]? = some y := by
   have h1 : (us.drop n)[0]? = some y := by rw [hd]; rfl
   rwa [List.getElem?_drop, Nat.add_zero] at h1
  rw [hd] at hB hE; have hlt : n < us.length := (List.getElem?_eq_some_iff.1 hy).1
  have hys : ys = us.drop (n + 1) := by
   have h1 := List.drop_eq_getElem_cons hlt; rw [hd] at h1; exact (List.cons.inj h1).2
  have hz : ∀ z ∈ ys, ltI u.id z.id := fun z hz => by
   have h1 := (List.pairwise_cons.1 hE.2.1).1 z hz
   rcases hB y (List.mem_cons_self ..) with e | e
   ·rw [← e]; exact h1
   ·exact linI.trans e h1
  have hfz : ys.filter (fun x => decide (x.id ≠ u.id)) = ys := List.filter_eq_self.2 fun x hx => decide_eq_true (p := x.id ≠ u.id) fun e => linI.irr u.id (by have := hz x hx; rwa [e] at this)
  by_cases e : y.id = u.id
  ·rw [List.filter_cons_of_neg (by simp [e]), hfz, hy]; simp only [e, decide_true, if_true]; rw [List.set_eq_take_append_cons_drop, if_pos hlt, ← hys]
   cases ys with
   | nil => simp
   | cons z zs =>
    rw [List.foldl_cons]; have h1 : startRs u (us.take n, false) z = (us.take n ++ [u] ++ [z], true) := (by simp [startRs, hz z (List.mem_cons_self ..)]); rw [h1, startRs_hi]
    simp
  ·have hyu : ltI u.id y.id := (hB y (List.mem_cons_self ..)).resolve_left e; rw [List.filter_cons_of_pos (by simp [e]), hfz, hy, List.foldl_cons]; have h1 : startRs u (us.take n, false) y = (us.take n ++ [u] ++ [y], true) := (by simp [startRs, hyu]); rw [h1, startRs_hi]
   simp [e]
theorem filter_one {α κ : Type} {key : α → κ} {l : κ → κ → Prop} [DecidableEq κ] (L : LinO l) {xs : List α} (hs : SortB key l xs) (k : κ) : (xs.filter fun x => decide (key x = k)).length ≤ 1 := by
 have h1 : SortB key l (xs.filter fun x => decide (key x = k)) := hs.filter _; have h2 : ∀ x ∈ xs.filter fun x => decide (key x = k), key x = k := fun x hx => of_decide_eq_true (List.mem_filter.1 hx).2; generalize xs.filter (fun x => decide (key x = k)) = ys at h1 h2 ⊢
 match ys, h1, h2 with
 | [], _, _ => simp
 | [a], _, _ => simp
 | a :: b :: t, h1, h2 =>
  have h3 := (List.pairwise_cons.1 h1).1 b (by simp); rw [h2 a (by simp), h2 b (by simp)] at h3; exact absurd h3 (L.irr k)
theorem partR_eq {ps : List CPart} (hs : SortB CPart.num ltZ ps) (hb : ∀ p ∈ ps, 1 ≤ p.num ∧ p.num ≤ 16) {p : CPart} (h1 : 1 ≤ p.num) (h2 : p.num ≤ 16) : partR ps p 16 = putL CPart.num ltZ ps p.num p := by
 refine sort_ext linZ' (segs_sort (fun n => ((n + 1 : Nat) : Int)) (fun i j h => by omega) (fun n => ?_) (fun n a ha => ?_) 16) (sort_put linZ' hs rfl) fun a => ?_
 ·unfold partRs
  split
  ·simp
  ·exact filter_one linZ' hs _
 ·unfold partRs at ha
  split at ha
  ·rename_i h
   rw [List.mem_singleton.1 ha, h]
  ·exact of_decide_eq_true (List.mem_filter.1 ha).2
 ·unfold partR; rw [segs_mem, mem_put linZ' hs rfl]
  constructor
  ·rintro ⟨j, hj, ha⟩; unfold partRs at ha
   split at ha
   ·exact .inl (List.mem_singleton.1 ha)
   ·rename_i h
    obtain ⟨h3, h4⟩ := List.mem_filter.1 ha; exact .inr ⟨h3, fun e => h (by have := of_decide_eq_true h4; omega)⟩
  ·rintro (rfl | ⟨ha, hne⟩)
   ·refine ⟨(a.num - 1).toNat, by omega, ?_⟩; unfold partRs; rw [if_pos (by omega)]
    simp
   ·have := hb a ha; refine ⟨(a.num - 1).toNat, by omega, ?_⟩; unfold partRs; rw [if_neg (by omega)]; exact List.mem_filter.2 ⟨ha, decide_eq_true (by omega)⟩
theorem gatherR_eq {ps : List CPart} (hs : SortB CPart.num ltZ ps) : ∀ ns : List Int, gatherR ps ns = gather ps ns
 | [] => rfl
 | n :: ns => by
  unfold gatherR gather; rw [gatherR_eq hs ns]; have h1 := filter_one linZ' hs n
  cases hf : ps.find? (fun p => decide (p.num = n)) with
  | none =>
   have := List.find?_eq_none.1 hf; rw [if_neg]; intro h; obtain ⟨p, hp, h2⟩ := List.any_eq_true.1 h; exact this p hp h2
  | some p =>
   have hm := List.mem_of_find?_eq_some hf; have hp := List.find?_some hf; rw [if_pos (List.any_eq_true.2 ⟨p, hm, hp⟩)]; have h2 : p ∈ ps.filter fun p => decide (p.num = n) := List.mem_filter.2 ⟨hm, hp⟩; generalize ps.filter (fun p => decide (p.num = n)) = qs at h1 h2 ⊢
   match qs, h1, h2 with
   | [], _, h2 => cases h2
   | [a], _, h2 => rw [List.mem_singleton.1 h2]; rfl
   | a :: b :: t, h1, _ => simp at h1
theorem best_none {n : Nat} : ∀ (fs : List Cid) (b : Cid), (∀ f ∈ fs, f.node ≠ n) → fs.foldl (bestR n) b = b
 | [], b, _ => rfl
 | f :: fs, b, h => by
  rw [List.foldl_cons]; have : bestR n b f = b := (by unfold bestR; rw [if_neg (fun e => h f (List.mem_cons_self ..) e.1)]); rw [this]; exact best_none fs b (fun g hg => h g (List.mem_cons_of_mem _ hg))
theorem best_some {n : Nat} : ∀ (fs : List Cid) (b f : Cid), SortB Cid.node ltZ fs → f ∈ fs → f.node = n → b.node < 0 → fs.foldl (bestR n) b = f
 | [], _, _, _, h, _, _ => by cases h
 | g :: fs, b, f, hs, h, hn, hb => by
  rw [List.foldl_cons]; obtain ⟨h1, h2⟩ := List.pairwise_cons.1 hs
  rcases List.mem_cons.1 h with rfl | h
  ·have : bestR n b f = f := (by unfold bestR; rw [if_pos ⟨hn, .inl hb⟩]); rw [this]; refine best_none fs f (fun g hg e => ?_); have h3 : f.node < g.node := h1 g hg; omega
  ·have h3 : g.node < f.node := h1 f h; have : bestR n b g = b := (by unfold bestR; rw [if_neg (fun e => by have := e.1; omega)]); rw [this]; exact best_some fs b f h2 h hn hb
theorem floorRs_at {fs : List Cid} (hs : SortB Cid.node ltZ fs) (id : Cid) (n : Nat) :
  (∀ f ∈ fs, f.node = n → floorRs fs id n = [if id.node = n ∧ ltI f id then id else f]) ∧ ((∀ f ∈ fs, f.node ≠ n) → floorRs fs id n = if id.node = n then [id] else []) := by
 have hn0 : (0 : Int) ≤ (n : Int) := (by omega); refine ⟨fun f hf hn => ?_, fun hf => ?_⟩
 ·have h1 : (fs ++ [id]).foldl (bestR n) ⟨-1, 0, 0⟩ = if id.node = n ∧ ltI f id then id else f := by
   rw [List.foldl_append, best_some fs _ f hs hf hn (by show (-1 : Int) < 0; omega)]; simp only [List.foldl_cons, List.foldl_nil]; unfold bestR
   by_cases h : id.node = n ∧ ltI f id
   ·rw [if_pos ⟨h.1, .inr h.2⟩, if_pos h]
   ·rw [if_neg (fun e => h ⟨e.1, e.2.resolve_left (by omega)⟩), if_neg h]
  unfold floorRs; rw [h1, if_pos]
  split
  ·rename_i h; rw [h.1]; exact hn0
  ·rw [hn]; exact hn0
 ·have h1 : (fs ++ [id]).foldl (bestR n) ⟨-1, 0, 0⟩ = if id.node = n then id else ⟨-1, 0, 0⟩ := by
   rw [List.foldl_append, best_none fs _ hf]; simp only [List.foldl_cons, List.foldl_nil]; unfold bestR
   by_cases h : id.node = n
   ·rw [if_pos ⟨h, .inl (by show (-1 : Int) < 0; omega)⟩, if_pos h]
   ·rw [if_neg (fun e => h e.1), if_neg h]
  unfold floorRs; rw [h1]
  by_cases h : id.node = n
  ·rw [if_pos h, if_pos h, if_pos (by omega)]
  ·rw [if_neg h, if_neg h, if_neg (by show ¬ (0 : Int) ≤ -1; omega)]
theorem floor_put {fs : List Cid} (hs : SortB Cid.node ltZ fs) (id : Cid) : floorL fs id = if ∃ f ∈ fs, f.node = id.node ∧ ¬ ltI f id then fs else putL Cid.node ltZ fs id.node id := by
 unfold floorL
 cases hp : fs[posL Cid.node ltZ fs id.node]? with
 | none =>
  have hnt : ¬ thereL Cid.node ltZ fs id.node = true := fun h => by
   obtain ⟨y, hy, _⟩ := there_at h; rw [hp] at hy; cases hy
  rw [if_neg]; rintro ⟨f, hf, hn, _⟩; exact hnt ((there_iff linZ' hs).2 ⟨f, hf, hn⟩)
 | some f =>
  dsimp only
  by_cases h : f.node = id.node ∧ ¬ ltI f id
  ·rw [if_pos h, if_pos ⟨f, List.mem_of_getElem? hp, h⟩]
  ·rw [if_neg h, if_neg]; rintro ⟨g, hg, hn, hl⟩; have ht := (there_iff linZ' hs).2 ⟨g, hg, hn⟩; obtain ⟨y, hy, hyn⟩ := there_at ht; rw [hp] at hy
   cases hy
   have := sort_mem linZ' hs hg (List.mem_of_getElem? hp) (hn.trans hyn.symm); subst this; exact h ⟨hn, hl⟩
theorem floorL_sort {fs : List Cid} (hs : SortB Cid.node ltZ fs) (id : Cid) : SortB Cid.node ltZ (floorL fs id) := by
 rw [floor_put hs]
 split
 ·exact hs
 ·exact sort_put linZ' hs rfl
theorem floorsR_eq {fs : List Cid} (hs : SortB Cid.node ltZ fs) (hb : ∀ f ∈ fs, 0 ≤ f.node ∧ f.node ≤ 15) {id : Cid} (h1 : 0 ≤ id.node) (h2 : id.node ≤ 15) : floorsR fs id 16 = floorL fs id := by
 refine sort_ext linZ' (segs_sort (fun n => (n : Int)) (fun i j h => by omega) (fun n => ?_) (fun n a ha => ?_) 16) (floorL_sort hs id) fun a => ?_
 ·unfold floorRs; split <;> simp
 ·by_cases h : ∃ f ∈ fs, f.node = (n : Int)
  ·obtain ⟨f, hf, hn⟩ := h; rw [(floorRs_at hs id n).1 f hf hn] at ha; rw [List.mem_singleton.1 ha]
   split
   ·rename_i h; exact h.1
   ·exact hn
  ·rw [(floorRs_at hs id n).2 (fun f hf hn => h ⟨f, hf, hn⟩)] at ha
   split at ha
   ·rename_i h; rw [List.mem_singleton.1 ha]; exact h
   ·cases ha
 ·rw [floor_put hs]; have hseg : a ∈ floorsR fs id 16 ↔ ∃ j, j < 16 ∧ a ∈ floorRs fs id j := segs_mem; rw [hseg]
  by_cases hE : ∃ f ∈ fs, f.node = id.node ∧ ¬ ltI f id
  ·rw [if_pos hE]; obtain ⟨f, hf, hn, hl⟩ := hE
   constructor
   ·rintro ⟨j, hj, ha⟩
    by_cases h : ∃ g ∈ fs, g.node = (j : Int)
    ·obtain ⟨g, hg, hgn⟩ := h; rw [(floorRs_at hs id j).1 g hg hgn] at ha
     split at ha
     ·rename_i h
      have := sort_mem linZ' hs hg hf (by rw [hgn, hn, h.1]); subst this; exact absurd h.2 hl
     ·rw [List.mem_singleton.1 ha]; exact hg
    ·rw [(floorRs_at hs id j).2 (fun g hg hgn => h ⟨g, hg, hgn⟩)] at ha
     split at ha
     ·rename_i h3
      exact absurd ⟨f, hf, hn.trans h3⟩ h
     ·cases ha
   ·intro ha; have hba := hb a ha; refine ⟨a.node.toNat, by omega, ?_⟩; rw [(floorRs_at hs id _).1 a ha (by omega), if_neg]
    ·simp
    ·rintro ⟨h3, h4⟩; have := sort_mem linZ' hs ha hf (by rw [hn, h3]; omega); subst this; exact hl h4
  ·rw [if_neg hE, mem_put linZ' hs rfl]
   constructor
   ·rintro ⟨j, hj, ha⟩
    by_cases h : ∃ g ∈ fs, g.node = (j : Int)
    ·obtain ⟨g, hg, hgn⟩ := h; rw [(floorRs_at hs id j).1 g hg hgn] at ha
     split at ha
     ·exact .inl (List.mem_singleton.1 ha)
     ·rename_i h
      rw [List.mem_singleton.1 ha]; refine .inr ⟨hg, fun e => hE ⟨g, hg, e, fun hl => h ⟨by rw [← e]; exact hgn, hl⟩⟩⟩
    ·rw [(floorRs_at hs id j).2 (fun g hg hgn => h ⟨g, hg, hgn⟩)] at ha
     split at ha
     ·exact .inl (List.mem_singleton.1 ha)
     ·cases ha
   ·rintro (rfl | ⟨ha, hne⟩)
    ·refine ⟨a.node.toNat, by omega, ?_⟩
     by_cases h : ∃ g ∈ fs, g.node = ((a.node.toNat : Nat) : Int)
     ·obtain ⟨g, hg, hgn⟩ := h; rw [(floorRs_at hs a _).1 g hg hgn, if_pos]
      ·simp
      ·refine ⟨by omega, ?_⟩; exact Decidable.byContradiction fun hl => hE ⟨g, hg, by omega, hl⟩
     ·rw [(floorRs_at hs a _).2 (fun g hg hgn => h ⟨g, hg, hgn⟩), if_pos (by omega)]
      simp
    ·have hba := hb a ha; refine ⟨a.node.toNat, by omega, ?_⟩; rw [(floorRs_at hs id _).1 a ha (by omega), if_neg]
     ·simp
     ·rintro ⟨h3, h4⟩; exact hne (by omega)
end Go.Proofs.Ytfeglnpmpgipiaa
end
section
set_option linter.unusedVariables false
set_option maxRecDepth 100000
namespace Go.Proofs.Ytfeglnpmpgipiaa
theorem sizes_cons (p : Pc) (l : List Pc) : sizes (p :: l) = p.size + sizes l := by simp [sizes]
theorem sizes_nil : sizes [] = 0 := rfl
theorem sizes_app (a b : List Pc) : sizes (a ++ b) = sizes a + sizes b := by simp [sizes]
theorem gather_some {ps : List CPart} : ∀ {ns : List Int} {l : List Pc}, gather ps ns = some l → l.length = ns.length ∧ ∀ p ∈ l, ∃ q ∈ ps, q.pc = p
 | [], l, h => by cases h; simp
 | n :: ns, l, h => by
  unfold gather at h
  cases hf : ps.find? (fun p => decide (p.num = n)) with
  | none => rw [hf] at h; cases h
  | some p =>
   rw [hf] at h; dsimp only at h
   cases hg : gather ps ns with
   | none => rw [hg] at h; cases h
   | some l' =>
    rw [hg] at h
    cases h
    obtain ⟨h1, h2⟩ := gather_some hg; refine ⟨by simp [h1], fun q hq => ?_⟩
    rcases List.mem_cons.1 hq with rfl | hq
    ·exact ⟨p, List.mem_of_find?_eq_some hf, rfl⟩
    ·exact h2 q hq
theorem parts_len {ns : List Int} (h1 : ns.Pairwise (· < ·)) (h2 : ∀ n ∈ ns, 1 ≤ n ∧ n ≤ 16) : ns.length ≤ 16 := by
 have : ∀ (ns : List Int) (a : Int), ns.Pairwise (· < ·) → (∀ n ∈ ns, a ≤ n ∧ n ≤ 16) → a ≤ 17 → (ns.length : Int) ≤ 17 - a := fun ns => by
  induction ns with
  | nil => intro a _ _ h; simp; omega
  | cons n ns ih =>
   intro a hp hb ha; obtain ⟨h3, h4⟩ := List.pairwise_cons.1 hp; have h5 := hb n (List.mem_cons_self ..); have h6 := ih (n + 1) h4 (fun m hm => ⟨by have := h3 m hm; omega, (hb m (List.mem_cons_of_mem _ hm)).2⟩) (by omega); rw [List.length_cons]; omega
 have := this ns 1 h1 h2 (by omega); omega
theorem sort_nums_len {α : Type} {key : α → Int} {xs : List α} {lo hi : Int} (hs : SortB key ltZ xs) (hb : ∀ x ∈ xs, lo ≤ key x ∧ key x ≤ hi) (hl : lo ≤ hi + 1) : (xs.length : Int) ≤ hi + 1 - lo := by
 induction xs generalizing lo with
 | nil => simp; omega
 | cons x xs ih =>
  obtain ⟨h1, h2⟩ := List.pairwise_cons.1 hs; have h3 := hb x (List.mem_cons_self ..); have := ih (lo := key x + 1) h2 (fun y hy => ⟨by have := h1 y hy; unfold ltZ at this; omega, (hb y (List.mem_cons_of_mem _ hy)).2⟩) (by omega); rw [List.length_cons]; omega
theorem UpOk.len {u : CUpl} (h : UpOk u) : u.parts.length ≤ 16 := by
 have := sort_nums_len (lo := 1) (hi := 16) h.sort (fun p hp => ⟨(h.parts p hp).1, (h.parts p hp).2.1⟩) (by omega); omega
theorem CatOk.flen {c : Cat} (h : CatOk c) : c.floors.length ≤ 16 := by
 have := sort_nums_len (lo := 0) (hi := 15) h.fs h.fl (by omega); omega
theorem find_at {us : List CUpl} (hs : SortB CUpl.id ltI us) (id : Cid) (k : Bs) :
  us.findIdx? (fun u => decide (u.id = id) && decide (u.key = k)) = match us[posL CUpl.id ltI us id]? with
   | none => none
   | some u => if u.id = id ∧ u.key = k then some (posL CUpl.id ltI us id) else none := by
 cases hp : us[posL CUpl.id ltI us id]? with
 | none =>
  rw [List.findIdx?_eq_none_iff]; intro u hu
  have : ¬ thereL CUpl.id ltI us id = true := fun h => by
   obtain ⟨y, hy, _⟩ := there_at h; rw [hp] at hy; cases hy
  have hne : u.id ≠ id := fun e => this ((there_iff linI hs).2 ⟨u, hu, e⟩)
  simp [hne]
 | some u =>
  dsimp only
  by_cases h : u.id = id ∧ u.key = k
  ·rw [if_pos h, List.findIdx?_eq_some_iff_getElem]; obtain ⟨hl, hu⟩ := List.getElem?_eq_some_iff.1 hp; refine ⟨hl, by rw [hu]; simp [h], fun j hj => ?_⟩; have hlt : ltI (us[j]'(by omega)).id id := posL_lt hj (List.getElem?_eq_getElem (by omega)); have hne : (us[j]'(by omega)).id ≠ id := fun e => linI.irr id (by rw [e] at hlt; exact hlt)
   simp [hne]
  ·rw [if_neg h, List.findIdx?_eq_none_iff]; intro v hv
   by_cases hid : v.id = id
   ·have ht := (there_iff linI hs).2 ⟨v, hv, hid⟩; obtain ⟨y, hy, hyk⟩ := there_at ht; rw [hp] at hy
    cases hy
    have := sort_mem linI hs hv (List.mem_of_getElem? hp) (hid.trans hyk.symm); subst this; have : ¬ v.key = k := fun e => h ⟨hid, e⟩
    simp [this]
   ·simp [hid]
section
variable (sm : List Pc → Bs)
theorem putO_eq {b : CBuck} (h : BkOk b) (o : CObj) : putO b o = (if hasR b.objs o.key = false ∧ 128 ≤ b.objs.length then (b, ⟨7, []⟩) else ({ b with objs := putR b.objs o }, ⟨0, o.etag⟩)) := by
 unfold putO; rw [has_eq h.os, putR_eq h.os]
theorem inBuck_doc {b : CBuck} (h : BkOk b) {x : Cmd} (hx : CmdOk x) : inBuck sm b x = buckR sm b x := by
 unfold inBuck buckR
 by_cases k3 : x.kind = 3
 ·rw [if_pos k3, if_pos k3, putO_eq h]
 rw [if_neg k3, if_neg k3]
 by_cases k4 : x.kind = 4
 ·rw [if_pos k4, if_pos k4, del_filter linB h.os]
 rw [if_neg k4, if_neg k4]
 by_cases k5 : x.kind = 5
 ·rw [if_pos k5, if_pos k5, startR_eq h.us]
 rw [if_neg k5, if_neg k5]
 by_cases k9 : x.kind = 9
 ·rw [if_pos k9, if_pos k9]
 rw [if_neg k9, if_neg k9, find_at h.us]
 cases hp : b.upls[posL CUpl.id ltI b.upls x.upload]? with
 | none => rfl
 | some u =>
  dsimp only
  by_cases hu : u.id = x.upload ∧ u.key = x.key
  ·rw [if_pos hu, if_pos hu]; dsimp only; rw [hp]; dsimp only; have hmu := h.up u (List.mem_of_getElem? hp); have her : b.upls.eraseIdx (posL CUpl.id ltI b.upls x.upload) = withoutR b.upls u.id := erase_eq h.us hp (by rw [hu.1]); unfold inUpl
   by_cases k6 : x.kind = 6
   ·rw [if_pos k6, if_pos k6, partR_eq hmu.sort (fun p hp => ⟨(hmu.parts p hp).1, (hmu.parts p hp).2.1⟩) (hx.part k6).1 (hx.part k6).2]
   rw [if_neg k6, if_neg k6]
   by_cases k8 : x.kind = 8
   ·rw [if_pos k8, if_pos k8, her]
   rw [if_neg k8, if_neg k8]; unfold completeR; rw [gatherR_eq hmu.sort]
   cases hg : gather u.parts x.parts with
   | none => rfl
   | some l =>
    dsimp only; rw [putO_eq h]; dsimp only
    split
    ·rfl
    ·rw [if_pos rfl, her]
  ·rw [if_neg hu, if_neg hu]
theorem expire_doc (now : Int) (b : CBuck) : expireB now b = keptR now b := by
 unfold expireB keptR
 by_cases h : b.days = 0
 ·rw [if_pos h]; have : (b.objs.filter fun o => decide (b.days = 0) || decide (now < o.time + b.days)) = b.objs := List.filter_eq_self.2 fun o _ => (by simp [h]); rw [this]
 ·rw [if_neg h]
  congr 1
  refine List.filter_congr fun o _ => ?_; unfold old; have : decide (b.days = 0) = false := decide_eq_false h; rw [this, Bool.false_or, Bool.eq_iff_iff]
  simp
theorem there_cases {bs : List CBuck} {k : Bs} : (thereL CBuck.name lt bs k = true ↔ ∃ b, bs[posL CBuck.name lt bs k]? = some b ∧ b.name = k) := by
 constructor
 ·exact there_at
 ·rintro ⟨b, hb, hk⟩; unfold thereL; rw [hb]; exact decide_eq_true hk
theorem apply_doc {c : Cat} (h : CatOk c) {x : Cmd} (hx : CmdOk x) : apply sm c x = applyR sm c x := by
 unfold apply applyR
 by_cases k1 : x.kind = 1
 ·have e11 : ¬ x.kind = 11 := (by omega); have e10 : ¬ x.kind = 10 := (by omega); simp only [if_neg e11, if_neg e10, if_pos k1]
  by_cases ht : thereL CBuck.name lt c.bucks x.bucket = true
  ·rw [if_pos ht, if_pos ht]
  ·rw [if_neg ht, if_neg ht]
   by_cases hl : 16 ≤ c.bucks.length
   ·rw [if_pos hl, if_pos hl]
   ·rw [if_neg hl, if_neg hl]; unfold putL; rw [if_neg ht]
 simp only [if_neg k1]
 by_cases k10 : x.kind = 10
 ·have e11 : ¬ x.kind = 11 := (by omega); simp only [if_pos k10, if_neg e11]
  congr 2
  exact List.map_congr_left fun b _ => expire_doc x.time b
 simp only [if_neg k10]
 by_cases k11 : x.kind = 11
 ·simp only [if_pos k11, floorsR_eq h.fs h.fl hx.nlo hx.nhi]
 simp only [if_neg k11]
 cases hp : c.bucks[posL CBuck.name lt c.bucks x.bucket]? with
 | none => rfl
 | some b =>
  dsimp only
  by_cases hn : b.name ≠ x.bucket
  ·rw [if_pos hn, if_pos hn]
  ·rw [if_neg hn, if_neg hn]
   by_cases k2 : x.kind = 2
   ·rw [if_pos k2, if_pos k2]
    by_cases hz : 0 < b.objs.length + b.upls.length
    ·rw [if_pos hz, if_pos (by omega)]
    ·rw [if_neg hz, if_neg (by omega), List.eraseIdx_eq_take_drop_succ]
   ·rw [if_neg k2, if_neg k2, inBuck_doc sm (h.bk b (List.mem_of_getElem? hp)) hx]
theorem putO_ok {b : CBuck} (h : BkOk b) {o : CObj} (ho : ObOk o) : BkOk (putO b o).1 := by
 unfold putO
 split
 ·exact h
 ·rename_i hn
  refine ⟨h.name, h.tlo, h.thi, h.dlo, h.dhi, sort_put linB h.os rfl, ?_, fun y hy => ?_, h.us, h.ul, h.up⟩
  ·show (putL CObj.key lt b.objs o.key o).length ≤ 128; rw [put_length]; have := h.ol
   split
   ·exact this
   ·rename_i ht
    have : ¬ 128 ≤ b.objs.length := fun e => hn ⟨by simpa using ht, e⟩; omega
  ·rcases (mem_put linB h.os rfl y).1 hy with rfl | ⟨hm, _⟩
   ·exact ho
   ·exact h.ob y hm
theorem withUpls {b : CBuck} (h : BkOk b) {us : List CUpl} (h1 : SortB CUpl.id ltI us) (h2 : us.length ≤ 16) (h3 : ∀ u ∈ us, UpOk u) : BkOk { b with upls := us } :=
 ⟨h.name, h.tlo, h.thi, h.dlo, h.dhi, h.os, h.ol, h.ob, h1, h2, h3⟩
theorem erase_ok {b : CBuck} (h : BkOk b) (i : Nat) : SortB CUpl.id ltI (b.upls.eraseIdx i) ∧ (b.upls.eraseIdx i).length ≤ 16 ∧ ∀ u ∈ b.upls.eraseIdx i, UpOk u :=
 ⟨List.Pairwise.sublist (List.eraseIdx_sublist ..) h.us, by have := (List.eraseIdx_sublist b.upls i).length_le; have := h.ul; omega, fun u hu => h.up u ((List.eraseIdx_sublist b.upls i).subset hu)⟩
theorem set_ok {us : List CUpl} {i : Nat} {u v : CUpl} (hs : SortB CUpl.id ltI us) (hi : us[i]? = some u) (hv : v.id = u.id) : SortB CUpl.id ltI (us.set i v) := by
 have hp : posL CUpl.id ltI us u.id = i := by
  have ht := (there_iff linI hs).2 ⟨u, List.mem_of_getElem? hi, rfl⟩; obtain ⟨y, hy, hyk⟩ := there_at ht; exact sort_uniq linI hs hy hi hyk
 have ht := (there_iff linI hs).2 ⟨u, List.mem_of_getElem? hi, rfl⟩; have : us.set i v = putL CUpl.id ltI us u.id v := (by unfold putL; rw [if_pos ht, hp]); rw [this]; exact sort_put linI hs hv
theorem putO_name (b : CBuck) (o : CObj) : (putO b o).1.name = b.name := by unfold putO; split <;> rfl
theorem inBuck_name (b : CBuck) (x : Cmd) : (inBuck sm b x).1.name = b.name := by
 unfold inBuck
 split
 ·exact putO_name _ _
 split
 ·rfl
 split
 ·split <;> rfl
 split
 ·rfl
 split
 ·rfl
 ·split
  ·unfold inUpl
   split
   ·rfl
   split
   ·rfl
   ·split
    ·rfl
    ·dsimp only
     split
     ·exact putO_name _ _
     ·exact putO_name _ _
  ·rfl
theorem inBuck_ok (hsm : ∀ l : List Pc, l.length ≤ 16 → (sm l).length ≤ 100) {b : CBuck} (h : BkOk b) {x : Cmd} (hx : CmdOk x) (hk : x.kind ≠ 1 ∧ x.kind ≠ 2 ∧ x.kind ≠ 10 ∧ x.kind ≠ 11) : BkOk (inBuck sm b x).1 := by
 unfold inBuck
 split
 ·rename_i k3
  have hp := hx.pc (.inl k3); exact putO_ok h ⟨hx.key, by show x.piece.etag.length ≤ 100; rw [hp.et]; omega, hx.tlo, hx.thi, by simp, by simp, fun p hp' => by rw [List.mem_singleton.1 hp']; exact hp, by simp [sizes]⟩
 split
 ·refine ⟨h.name, h.tlo, h.thi, h.dlo, h.dhi, sort_del linB h.os _, ?_, fun o ho => ?_, h.us, h.ul, h.up⟩
  ·show (delL CObj.key lt b.objs x.key).length ≤ 128; rw [del_filter linB h.os]; have := List.length_filter_le (fun o : CObj => decide (o.key ≠ x.key)) b.objs; have := h.ol; omega
  ·have : o ∈ delL CObj.key lt b.objs x.key := ho; rw [del_filter linB h.os] at this; exact h.ob o (List.mem_filter.1 this).1
 split
 ·split
  ·exact h
  ·rename_i hn
   refine withUpls h (sort_put linI h.us rfl) ?_ (fun u hu => ?_)
   ·rw [put_length]; split <;> omega
   ·rcases (mem_put linI h.us (k := x.id) (x := ⟨x.id, x.key, []⟩) rfl u).1 hu with rfl | ⟨hm, _⟩
    ·exact ⟨hx.key, List.Pairwise.nil, by simp⟩
    ·exact h.up u hm
 split
 ·exact ⟨h.name, h.tlo, h.thi, hx.dlo, hx.dhi, h.os, h.ol, h.ob, h.us, h.ul, h.up⟩
 split
 ·exact h
 ·rename_i k3 k4 k5 k9 _ u hu
  split
  ·rename_i hid
   have hmu := h.up u (List.mem_of_getElem? hu); unfold inUpl
   split
   ·rename_i k6
    refine withUpls h (set_ok h.us hu rfl) (by rw [List.length_set]; exact h.ul) (fun v hv => ?_); obtain ⟨j, hj⟩ := List.mem_iff_getElem?.1 hv; rw [List.getElem?_set] at hj
    split at hj
    ·split at hj
     ·cases hj
      refine ⟨hmu.key, sort_put linZ' hmu.sort rfl, fun p hp => ?_⟩
      rcases (mem_put linZ' hmu.sort (k := x.part) (x := ⟨x.part, x.piece⟩) rfl p).1 hp with rfl | ⟨hm, _⟩
      ·exact ⟨(hx.part k6).1, (hx.part k6).2, hx.pc (.inr k6)⟩
      ·exact hmu.parts p hm
     ·cases hj
    ·exact h.up v (List.mem_of_getElem? hj)
   split
   ·obtain ⟨e1, e2, e3⟩ := erase_ok h (posL CUpl.id ltI b.upls x.upload); exact withUpls h e1 e2 e3
   ·cases hg : gather u.parts x.parts with
    | none => exact h
    | some l =>
     rename_i k6 k8
     have hk7 : x.kind = 7 := (by have := hx.klo; have := hx.khi; omega); obtain ⟨g1, g2⟩ := gather_some hg
     have hpl : ∀ p ∈ l, PcOk p := fun p hp => by
      obtain ⟨q, hq, rfl⟩ := g2 p hp; exact (hmu.parts q hq).2.2
     dsimp only
     split
     ·rename_i hc
      ·have hlen : l.length ≤ 16 := (by rw [g1]; exact parts_len (hx.prt hk7).1 (hx.prt hk7).2); have hne : l ≠ [] := fun e => hx.pne hk7 (by rw [e] at g1; exact List.eq_nil_of_length_eq_zero g1.symm); have hb := putO_ok h (o := ⟨x.key, sizes l, sm l, x.time, l⟩) ⟨hx.key, hsm l hlen, hx.tlo, hx.thi, hne, hlen, hpl, rfl⟩; have hu : (putO b ⟨x.key, sizes l, sm l, x.time, l⟩).1.upls = b.upls := (by unfold putO; split <;> rfl); obtain ⟨e1, e2, e3⟩ := erase_ok h (posL CUpl.id ltI b.upls x.upload); exact withUpls hb e1 e2 e3
     ·rename_i hc
      have : (putO b ⟨x.key, sizes l, sm l, x.time, l⟩).1 = b := by
       unfold putO at hc ⊢
       split
       ·rfl
       ·rename_i hn; rw [if_neg hn] at hc; exact absurd rfl hc
      rw [this]; exact h
  ·exact h
theorem apply_ok (hsm : ∀ l : List Pc, l.length ≤ 16 → (sm l).length ≤ 100) {c : Cat} (h : CatOk c) {x : Cmd} (hx : CmdOk x) : CatOk (apply sm c x).1 := by
 unfold apply
 split
 ·rename_i k1
  split
  ·exact h
  split
  ·exact h
  ·refine ⟨sort_put linB h.bs rfl, ?_, fun b hb => ?_, h.fs, h.fl⟩
   ·show (putL CBuck.name lt c.bucks x.bucket _).length ≤ 16; rw [put_length]
    split <;> omega
   ·rcases (mem_put linB h.bs (k := x.bucket) (x := ⟨x.bucket, x.time, 0, [], []⟩) rfl b).1 hb with rfl | ⟨hm, _⟩
    ·exact ⟨hx.buck, hx.tlo, hx.thi, by show (0 : Int) ≤ 0; omega, by show (0 : Int) ≤ 1099511627776; omega, List.Pairwise.nil, by simp, by simp, List.Pairwise.nil, by simp, by simp⟩
    ·exact h.bk b hm
 split
 ·refine ⟨?_, by show (c.bucks.map _).length ≤ 16; rw [List.length_map]; exact h.bl, fun b hb => ?_, h.fs, h.fl⟩
  ·refine List.pairwise_map.2 (h.bs.imp fun {a b} hab => ?_); have e : ∀ b : CBuck, (expireB x.time b).name = b.name := fun b => (by unfold expireB; split <;> rfl); rw [e, e]; exact hab
  ·obtain ⟨b', hb', rfl⟩ := List.mem_map.1 hb; have h' := h.bk b' hb'; unfold expireB
   split
   ·exact h'
   ·refine ⟨h'.name, h'.tlo, h'.thi, h'.dlo, h'.dhi, h'.os.filter _, ?_, fun o ho => h'.ob o (List.mem_filter.1 ho).1, h'.us, h'.ul, h'.up⟩; have := List.length_filter_le (fun o => !old b' x.time o) b'.objs; have := h'.ol; show (b'.objs.filter _).length ≤ 128; omega
 split
 ·refine ⟨h.bs, h.bl, h.bk, floorL_sort h.fs x.id, fun f hf => ?_⟩; have hf' : f ∈ floorL c.floors x.id := hf; rw [floor_put h.fs] at hf'
  split at hf'
  ·exact h.fl f hf'
  ·rcases (mem_put linZ' h.fs rfl f).1 hf' with rfl | ⟨hm, _⟩
   ·exact ⟨hx.nlo, hx.nhi⟩
   ·exact h.fl f hm
 split
 ·exact h
 ·rename_i k1 k10 k11 _ b hb
  split
  ·exact h
  split
  ·split
   ·exact h
   ·exact ⟨List.Pairwise.sublist (List.eraseIdx_sublist ..) h.bs, by have := (List.eraseIdx_sublist c.bucks (posL CBuck.name lt c.bucks x.bucket)).length_le; have := h.bl; show (c.bucks.eraseIdx _).length ≤ 16; omega, fun b hb => h.bk b ((List.eraseIdx_sublist ..).subset hb), h.fs, h.fl⟩
  ·rename_i hn k2
   have hin := inBuck_ok sm hsm (h.bk b (List.mem_of_getElem? hb)) hx ⟨k1, k2, k10, k11⟩; have hnm : (inBuck sm b x).1.name = b.name := inBuck_name sm b x; refine ⟨?_, by show (c.bucks.set _ _).length ≤ 16; rw [List.length_set]; exact h.bl, fun v hv => ?_, h.fs, h.fl⟩
   ·have hbn : b.name = x.bucket := Decidable.byContradiction hn; have ht : thereL CBuck.name lt c.bucks x.bucket = true := there_cases.2 ⟨b, hb, hbn⟩; have : c.bucks.set (posL CBuck.name lt c.bucks x.bucket) (inBuck sm b x).1 = putL CBuck.name lt c.bucks x.bucket (inBuck sm b x).1 := (by unfold putL; rw [if_pos ht]); show SortB CBuck.name lt (c.bucks.set _ _); rw [this]; exact sort_put linB h.bs (hnm.trans hbn)
   ·obtain ⟨j, hj⟩ := List.mem_iff_getElem?.1 hv; have hj' : (c.bucks.set (posL CBuck.name lt c.bucks x.bucket) (inBuck sm b x).1)[j]? = some v := hj; rw [List.getElem?_set] at hj'
    split at hj'
    ·split at hj'
     ·cases hj'; exact hin
     ·cases hj'
    ·exact h.bk v (List.mem_of_getElem? hj')
end
end Go.Proofs.Ytfeglnpmpgipiaa
end
section
set_option linter.unusedVariables false
set_option maxRecDepth 100000
namespace Go.Proofs.Ytfeglnpmpgipiaa
def bkPcs (b : CBuck) : List Pc := b.objs.flatMap (·.pcs) ++ b.upls.flatMap (fun u => u.parts.map (·.pc))
def catPcs (c : Cat) : List Pc := c.bucks.flatMap bkPcs
def missS (un : List Cid) (out : List Pc) (p : Pc) : List Pc := if p.blob ∈ un ∨ p.blob ∈ out.map (·.blob) then out else out ++ [p]
def missL (un : List Cid) (ps : List Pc) : List Pc := ps.foldl (missS un) []
def floorAt (fs : List Cid) (node : Int) : Option Cid := match fs[posL Cid.node ltZ fs node]? with
 | some f => if f.node = node then some f else none
 | none => none
def mayGo (fs : List Cid) (ps : List Pc) (id : Cid) : Bool := (match floorAt fs id.node with | some f => decide (ltI id f) | none => false) && !decide (id ∈ ps.map (·.blob))
def spareL (fs : List Cid) (ps : List Pc) (files : List Cid) : List Cid := files.filter (mayGo fs ps)
theorem missL_snoc (un : List Cid) (ps : List Pc) (p : Pc) : missL un (ps ++ [p]) = missS un (missL un ps) p := by
 unfold missL; rw [List.foldl_append]; rfl
theorem missS_len (un : List Cid) (out : List Pc) (p : Pc) : (missS un out p).length ≤ out.length + 1 := by
 unfold missS; split
 ·omega
 ·simp
theorem missL_len (un : List Cid) (ps : List Pc) : (missL un ps).length ≤ ps.length := by
 have : ∀ (ps out : List Pc), (ps.foldl (missS un) out).length ≤ out.length + ps.length := fun ps => by
  induction ps with
  | nil => intro out; simp
  | cons p ps ih => intro out; rw [List.foldl_cons, List.length_cons]; have := ih (missS un out p); have := missS_len un out p; omega
 have h := this ps []; unfold missL
 simpa using h
theorem missL_inv (un : List Cid) (ps : List Pc) : (∀ p ∈ missL un ps, p ∈ ps ∧ p.blob ∉ un) ∧ ((missL un ps).map (·.blob)).Nodup ∧ ∀ p ∈ ps, p.blob ∈ un ∨ p.blob ∈ (missL un ps).map (·.blob) := by
 have : ∀ (ps pre out : List Pc), ((∀ p ∈ out, p ∈ pre ∧ p.blob ∉ un) ∧ (out.map (·.blob)).Nodup ∧ ∀ p ∈ pre, p.blob ∈ un ∨ p.blob ∈ out.map (·.blob)) →
   (∀ p ∈ ps.foldl (missS un) out, p ∈ pre ++ ps ∧ p.blob ∉ un) ∧ ((ps.foldl (missS un) out).map (·.blob)).Nodup ∧ ∀ p ∈ pre ++ ps, p.blob ∈ un ∨ p.blob ∈ (ps.foldl (missS un) out).map (·.blob) := fun ps => by
  induction ps with
  | nil => intro pre out h; simpa using h
  | cons p ps ih =>
   intro pre out ⟨h1, h2, h3⟩; rw [List.foldl_cons]; have e : pre ++ p :: ps = (pre ++ [p]) ++ ps := (by simp); rw [e]; refine ih (pre ++ [p]) (missS un out p) ?_; unfold missS
   split
   ·rename_i hc
    refine ⟨fun q hq => ⟨List.mem_append_left _ (h1 q hq).1, (h1 q hq).2⟩, h2, fun q hq => ?_⟩
    rcases List.mem_append.1 hq with hq | hq
    ·exact h3 q hq
    ·rw [List.mem_singleton.1 hq]; exact hc
   ·rename_i hc
    refine ⟨fun q hq => ?_, ?_, fun q hq => ?_⟩
    ·rcases List.mem_append.1 hq with hq | hq
     ·exact ⟨List.mem_append_left _ (h1 q hq).1, (h1 q hq).2⟩
     ·rw [List.mem_singleton.1 hq]; exact ⟨by simp, fun h => hc (.inl h)⟩
    ·rw [List.map_append, List.map_singleton]; refine List.nodup_append.2 ⟨h2, by simp, fun a ha b hb => ?_⟩; rw [List.mem_singleton.1 hb]; intro e; subst e; exact hc (.inr ha)
    ·rw [List.map_append, List.mem_append]
     rcases List.mem_append.1 hq with hq | hq
     ·exact (h3 q hq).imp id .inl
     ·rw [List.mem_singleton.1 hq]; exact .inr (.inr (by simp))
 have h := this ps [] [] ⟨by simp, by simp, by simp⟩
 simpa [missL] using h
theorem missL_done (un : List Cid) (ps : List Pc) : missL (un ++ (missL un ps).map (·.blob)) ps = [] := by
 have h := (missL_inv un ps).2.2
 have : ∀ (qs : List Pc), (∀ q ∈ qs, q.blob ∈ un ++ (missL un ps).map (·.blob)) → qs.foldl (missS (un ++ (missL un ps).map (·.blob))) [] = [] := fun qs => by
  induction qs with
  | nil => intro _; rfl
  | cons q qs ih =>
   intro hq; rw [List.foldl_cons]; have : missS (un ++ (missL un ps).map (·.blob)) [] q = [] := (by unfold missS; rw [if_pos (.inl (hq q (List.mem_cons_self ..)))]); rw [this]; exact ih (fun r hr => hq r (List.mem_cons_of_mem _ hr))
 exact this ps (fun q hq => List.mem_append.2 (h q hq))
theorem spare_named {fs : List Cid} {ps : List Pc} {files : List Cid} {id : Cid} (h : id ∈ spareL fs ps files) : id ∉ ps.map (·.blob) := by
 have := (List.mem_filter.1 h).2; unfold mayGo at this; rw [Bool.and_eq_true] at this
 simpa using this.2
end Go.Proofs.Ytfeglnpmpgipiaa
end
