/- The bucket that the laws of listing make, in plain Lean. -/
import Derived.Test.YtfoplbolbjcggaaDoorListBase
set_option linter.unusedVariables false
set_option maxRecDepth 100000
namespace Go.Proofs.YtfoplbolbjcggaaDoor

/-- where a key goes: down from a -/
def plc (os : List Ob) (k : Bs) : Nat → Nat
  | 0 => 0
  | a + 1 => match os[a]? with
    | some o => if lt k o.key then plc os k a else a + 1
    | none => 0
def buckStep (os : List Ob) (i : Nat) (k : Bs) : List Ob :=
  if goodK k = true ∧ i ≤ 300 then
    (if ((os[plc os k os.length - 1]?.map (·.key)) = some k ∧ 0 < plc os k os.length) ∨ os.length = 128 then os
     else os.take (plc os k os.length) ++ mkOb k i :: os.drop (plc os k os.length))
  else os
def bucks (ks : List Bs) : Nat → List Ob
  | 0 => []
  | j + 1 => match ks[j]? with
    | some k => buckStep (bucks ks j) j k
    | none => bucks ks j
def buck (ks : List Bs) : List Ob := bucks ks ks.length
theorem plc_le (os : List Ob) (k : Bs) : ∀ a, plc os k a ≤ a
  | 0 => Nat.le_refl _
  | a + 1 => by
    unfold plc
    split
    · split
      · have := plc_le os k a; omega
      · omega
    · omega
/-- what stands behind the place is greater, what stands ahead is not -/
theorem plc_inv (os : List Ob) (k : Bs) : ∀ a, a ≤ os.length → (∀ j o, plc os k a ≤ j → j < a → os[j]? = some o → lt k o.key) ∧ (∀ o, 0 < plc os k a → os[plc os k a - 1]? = some o → ¬ lt k o.key)
  | 0, _ => ⟨fun j o _ h => absurd h (Nat.not_lt_zero _), fun o h => absurd h (Nat.lt_irrefl _)⟩
  | a + 1, h => by
    obtain ⟨o, ho⟩ : ∃ o, os[a]? = some o := ⟨_, List.getElem?_eq_getElem (by omega)⟩
    have ih := plc_inv os k a (by omega)
    unfold plc
    rw [ho]
    simp only
    by_cases hl : lt k o.key
    · rw [if_pos hl]
      refine ⟨fun j o' h1 h2 h3 => ?_, ih.2⟩
      by_cases hj : j = a
      · subst hj; rw [ho] at h3; obtain rfl := Option.some.inj h3; exact hl
      · exact ih.1 j o' h1 (by omega) h3
    · rw [if_neg hl]
      refine ⟨fun j o' h1 h2 => absurd h2 (by omega), fun o' _ h3 => ?_⟩
      rw [Nat.add_sub_cancel, ho] at h3
      obtain rfl := Option.some.inj h3
      exact hl
structure BuckOk (os : List Ob) : Prop where
  sorted : SortedK os
  good : ∀ o ∈ os, goodK o.key = true
  len : os.length ≤ 128
  time : ∀ o ∈ os, o.time ≤ 300
theorem sorted_ins {os : List Ob} {k : Bs} {i n : Nat} (h : SortedK os) (h1 : ∀ j o, n ≤ j → os[j]? = some o → lt k o.key) (h2 : ∀ o, 0 < n → os[n - 1]? = some o → lt o.key k) (hn : n ≤ os.length) : SortedK (os.take n ++ mkOb k i :: os.drop n) := by
  have hs : os.take n ++ os.drop n = os := List.take_append_drop _ _
  have hp : SortedK (os.take n ++ os.drop n) := by rw [hs]; exact h
  obtain ⟨p1, p2, p3⟩ := List.pairwise_append.1 hp
  have hd : ∀ o ∈ os.drop n, lt k o.key := fun o ho => by
    obtain ⟨j, hj⟩ := List.getElem?_of_mem ho
    rw [List.getElem?_drop] at hj
    exact h1 _ o (by omega) hj
  have ht : ∀ o ∈ os.take n, lt o.key k := fun o ho => by
    obtain ⟨j, hj⟩ := List.getElem?_of_mem ho
    have hjn : j < n := by have := (List.getElem?_eq_some_iff.1 hj).1; rw [List.length_take] at this; omega
    rw [List.getElem?_take, if_pos hjn] at hj
    obtain ⟨l, hl⟩ : ∃ l, os[n - 1]? = some l := ⟨_, List.getElem?_eq_getElem (by omega)⟩
    have hlk := h2 l (by omega) hl
    by_cases e : j = n - 1
    · subst e; rw [hj] at hl; obtain rfl := Option.some.inj hl; exact hlk
    · have hjl : j < os.length := by omega
      have := List.pairwise_iff_getElem.1 h j (n - 1) hjl (by omega) (by omega)
      rw [List.getElem_eq_iff (by omega) |>.2 hj, List.getElem_eq_iff (by omega) |>.2 hl] at this
      exact lt_trans this hlk
  refine List.pairwise_append.2 ⟨p1, List.pairwise_cons.2 ⟨hd, p2⟩, fun a ha b hb => ?_⟩
  rcases List.mem_cons.1 hb with rfl | hb
  · exact ht a ha
  · exact p3 a ha b hb
theorem buckStep_ok {os : List Ob} (h : BuckOk os) (i : Nat) (k : Bs) : BuckOk (buckStep os i k) := by
  unfold buckStep
  split
  · rename_i hg
    split
    · exact h
    · rename_i hn
      have hpl := plc_le os k os.length
      obtain ⟨i1, i2⟩ := plc_inv os k os.length (Nat.le_refl _)
      refine ⟨sorted_ins h.sorted (fun j o h1 h2 => i1 j o h1 (List.getElem?_eq_some_iff.1 h2).1 h2) (fun o h1 h2 => ?_) hpl, ?_, ?_, ?_⟩
      · rcases lt_total o.key k with h3 | h3 | h3
        · exact h3
        · exact absurd (.inl ⟨by rw [h2]; simp [h3], h1⟩) hn
        · exact absurd h3 (i2 o h1 h2)
      · intro o ho
        rcases List.mem_append.1 ho with ho | ho
        · exact h.good o (List.mem_of_mem_take ho)
        · rcases List.mem_cons.1 ho with rfl | ho
          · exact hg.1
          · exact h.good o (List.mem_of_mem_drop ho)
      · have := h.len
        rw [List.length_append, List.length_cons, List.length_take, List.length_drop]
        have : os.length ≠ 128 := fun e => hn (.inr e)
        omega
      · intro o ho
        rcases List.mem_append.1 ho with ho | ho
        · exact h.time o (List.mem_of_mem_take ho)
        · rcases List.mem_cons.1 ho with rfl | ho
          · exact hg.2
          · exact h.time o (List.mem_of_mem_drop ho)
  · exact h
theorem bucks_ok (ks : List Bs) : ∀ j, BuckOk (bucks ks j)
  | 0 => ⟨List.Pairwise.nil, by simp [bucks], by simp [bucks], by simp [bucks]⟩
  | j + 1 => by
    unfold bucks
    split
    · exact buckStep_ok (bucks_ok ks j) _ _
    · exact bucks_ok ks j
theorem buck_ok (ks : List Bs) : BuckOk (buck ks) := bucks_ok ks _
theorem BuckOk.key {os : List Ob} (h : BuckOk os) {o : Ob} (ho : o ∈ os) : o.key ≠ [] ∧ o.key.length ≤ 200 := by
  have := h.good o ho
  simp only [goodK, Bool.and_eq_true, decide_eq_true_eq] at this
  refine ⟨fun e => by rw [e] at this; simp at this, this.1.2⟩
end Go.Proofs.YtfoplbolbjcggaaDoor
