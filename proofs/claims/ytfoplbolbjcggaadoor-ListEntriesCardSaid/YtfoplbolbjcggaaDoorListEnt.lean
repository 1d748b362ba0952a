/- The list of a bucket's entries, in plain Lean. -/
import Derived.Test.YtfoplbolbjcggaaDoorListMath
set_option linter.unusedVariables false
set_option maxRecDepth 100000
namespace Go.Proofs.YtfoplbolbjcggaaDoor

def stepE (es : List En) (e : En) : List En := if e.pre = true ∧ es.getLast? = some e then es else es ++ [e]
def entries (pf dl : Bs) (os : List Ob) : List En := (os.filterMap (entOf pf dl)).foldl stepE []
def Asc (es : List En) : Prop := es.Pairwise fun a b => lt a.name b.name
def SortedK (os : List Ob) : Prop := os.Pairwise fun a b => lt a.key b.key
def insAt (es : List En) (e : En) : Nat := (es.takeWhile fun x => decide (lt x.name e.name)).length
def insD (es : List En) (e : En) : List En := if es[insAt es e]? = some e then es else es.take (insAt es e) ++ e :: es.drop (insAt es e)

theorem takeWhile_app {α : Type} (f : α → Bool) (a b : List α) (h : ∀ x ∈ a, f x = true) : (a ++ b).takeWhile f = a ++ b.takeWhile f := by
  induction a with
  | nil => rfl
  | cons x a ih =>
    rw [List.cons_append, List.takeWhile_cons, h x (by simp)]
    simp only [if_true]
    rw [ih (fun y hy => h y (by simp [hy]))]
    rfl
theorem step_inv {es : List En} {e : En} (ha : Asc es) (h : ∀ x ∈ es, lt x.name e.name ∨ (x = e ∧ e.pre = true)) :
    stepE es e = insD es e ∧ Asc (stepE es e) ∧ ∀ x, x ∈ stepE es e ↔ x ∈ es ∨ x = e := by
  by_cases hm : e ∈ es
  · obtain ⟨a, b, rfl⟩ := List.append_of_mem hm
    have hpre : e.pre = true := by
      rcases h e hm with h1 | h1
      · exact absurd h1 (lt_irrefl _)
      · exact h1.2
    have hb : b = [] := by
      cases b with
      | nil => rfl
      | cons x b =>
        have h1 : lt e.name x.name := by
          have := (List.pairwise_append.1 ha).2.1
          exact (List.pairwise_cons.1 this).1 x (by simp)
        rcases h x (by simp) with h2 | ⟨rfl, _⟩
        · exact absurd h2 (lt_asymm h1)
        · exact absurd h1 (lt_irrefl _)
    subst hb
    have hlt : ∀ x ∈ a, decide (lt x.name e.name) = true := fun x hx => decide_eq_true ((List.pairwise_append.1 ha).2.2 x hx e (by simp))
    have hat : insAt (a ++ [e]) e = a.length := by
      unfold insAt
      rw [takeWhile_app _ _ _ hlt, List.takeWhile_cons, decide_eq_false (lt_irrefl _)]
      simp
    have hs : stepE (a ++ [e]) e = a ++ [e] := by
      unfold stepE
      rw [if_pos ⟨hpre, by simp⟩]
    refine ⟨?_, by rw [hs]; exact ha, fun x => by rw [hs]; exact ⟨.inl, fun hx => hx.elim id (fun hx => by subst hx; simp)⟩⟩
    rw [hs]
    unfold insD
    rw [hat, if_pos (by simp)]
  · have hall : ∀ x ∈ es, lt x.name e.name := fun x hx => by
      rcases h x hx with h1 | ⟨rfl, _⟩
      · exact h1
      · exact absurd hx hm
    have hat : insAt es e = es.length := by
      unfold insAt
      have := takeWhile_app (fun x : En => decide (lt x.name e.name)) es [] (fun x hx => decide_eq_true (hall x hx))
      simp at this
      rw [this]
    have hs : stepE es e = es ++ [e] := by
      unfold stepE
      rw [if_neg (fun hh => hm (List.mem_of_getLast? hh.2))]
    refine ⟨?_, ?_, fun x => by rw [hs]; simp⟩
    · rw [hs]
      unfold insD
      rw [hat, List.getElem?_eq_none (Nat.le_refl _), if_neg (by simp)]
      simp
    · rw [hs]
      exact List.pairwise_append.2 ⟨ha, by simp, fun x hx y hy => by simp at hy; subst hy; exact hall x hx⟩
theorem entries_fold {pf dl : Bs} : ∀ (os : List Ob) (es : List En), Asc es → SortedK os → (∀ x ∈ es, ∀ o ∈ os, ∀ e, entOf pf dl o = some e → lt x.name e.name ∨ (x = e ∧ e.pre = true)) →
    (os.filterMap (entOf pf dl)).foldl stepE es = (os.filterMap (entOf pf dl)).foldl insD es ∧ Asc ((os.filterMap (entOf pf dl)).foldl stepE es) ∧ ∀ x, x ∈ (os.filterMap (entOf pf dl)).foldl stepE es ↔ x ∈ es ∨ ∃ o ∈ os, entOf pf dl o = some x
  | [], es, ha, _, _ => ⟨rfl, ha, fun x => by simp⟩
  | o :: os, es, ha, hs, h => by
    have hs' : SortedK os := (List.pairwise_cons.1 hs).2
    cases he : entOf pf dl o with
    | none =>
      rw [List.filterMap_cons_none he]
      obtain ⟨h1, h2, h3⟩ := entries_fold os es ha hs' (fun x hx o' ho' => h x hx o' (by simp [ho']))
      refine ⟨h1, h2, fun x => ?_⟩
      rw [h3]
      simp [he]
    | some e =>
      rw [List.filterMap_cons_some he, List.foldl_cons, List.foldl_cons]
      obtain ⟨k1, k2, k3⟩ := step_inv ha (fun x hx => h x hx o (by simp) e he)
      have hnext : ∀ x ∈ stepE es e, ∀ o' ∈ os, ∀ e', entOf pf dl o' = some e' → lt x.name e'.name ∨ (x = e' ∧ e'.pre = true) := by
        intro x hx o' ho' e' he'
        rcases (k3 x).1 hx with hx | rfl
        · exact h x hx o' (by simp [ho']) e' he'
        · rcases ent_lt ((List.pairwise_cons.1 hs).1 o' ho') he he' with h1 | ⟨h1, h2⟩
          · exact .inl h1
          · exact .inr ⟨h1, h1 ▸ h2⟩
      obtain ⟨h1, h2, h3⟩ := entries_fold os (stepE es e) k2 hs' hnext
      rw [← k1]
      refine ⟨h1, h2, fun x => ?_⟩
      rw [h3, k3]
      simp [he]
      constructor
      · rintro ((h | h) | h)
        · exact .inl h
        · exact .inr (.inl h.symm)
        · exact .inr (.inr h)
      · rintro (h | h | h)
        · exact .inl (.inl h)
        · exact .inl (.inr h.symm)
        · exact .inr h
/-- the document's list of entries -/
def entriesD (pf dl : Bs) (os : List Ob) : List En := (os.filterMap (entOf pf dl)).foldl insD []
theorem entries_doc {pf dl : Bs} {os : List Ob} (h : SortedK os) : entries pf dl os = entriesD pf dl os := (entries_fold os [] List.Pairwise.nil h (by simp)).1
theorem entries_asc {pf dl : Bs} {os : List Ob} (h : SortedK os) : Asc (entries pf dl os) := (entries_fold os [] List.Pairwise.nil h (by simp)).2.1
theorem entries_mem {pf dl : Bs} {os : List Ob} (h : SortedK os) (x : En) : x ∈ entries pf dl os ↔ ∃ o ∈ os, entOf pf dl o = some x := by
  have := (entries_fold (pf := pf) (dl := dl) os [] List.Pairwise.nil h (by simp)).2.2 x
  unfold entries
  simpa using this
def stepO (o : Option En) (f : List En → En → List En) (es : List En) : List En := match o with | some e => f es e | none => es
theorem take_filterMap_succ {pf dl : Bs} {os : List Ob} {j : Nat} {o : Ob} (h : os[j]? = some o) : (os.take (j + 1)).filterMap (entOf pf dl) = (os.take j).filterMap (entOf pf dl) ++ (entOf pf dl o).toList := by
  rw [List.take_add_one, h, List.filterMap_append]
  simp [List.filterMap_cons]
  cases entOf pf dl o <;> rfl
theorem entries_succ {pf dl : Bs} {os : List Ob} {j : Nat} {o : Ob} (h : os[j]? = some o) : entries pf dl (os.take (j + 1)) = stepO (entOf pf dl o) stepE (entries pf dl (os.take j)) := by
  unfold entries
  rw [take_filterMap_succ h, List.foldl_append]
  cases entOf pf dl o <;> rfl
theorem entriesD_succ {pf dl : Bs} {os : List Ob} {j : Nat} {o : Ob} (h : os[j]? = some o) : entriesD pf dl (os.take (j + 1)) = stepO (entOf pf dl o) insD (entriesD pf dl (os.take j)) := by
  unfold entriesD
  rw [take_filterMap_succ h, List.foldl_append]
  cases entOf pf dl o <;> rfl
theorem stepE_len (es : List En) (e : En) : (stepE es e).length ≤ es.length + 1 := by
  unfold stepE
  split
  · omega
  · simp
theorem insD_len (es : List En) (e : En) : (insD es e).length ≤ es.length + 1 := by
  unfold insD
  split
  · omega
  · rw [List.length_append, List.length_cons, List.length_take, List.length_drop]; omega
theorem fold_len {f : List En → En → List En} (hf : ∀ es e, (f es e).length ≤ es.length + 1) : ∀ (l : List En) (es : List En), (l.foldl f es).length ≤ es.length + l.length
  | [], es => by simp
  | e :: l, es => by
    rw [List.foldl_cons, List.length_cons]
    have := fold_len hf l (f es e)
    have := hf es e
    omega
theorem entries_len (pf dl : Bs) (os : List Ob) : (entries pf dl os).length ≤ os.length := by
  have h1 := fold_len stepE_len (os.filterMap (entOf pf dl)) []
  have h2 := List.length_filterMap_le (entOf pf dl) os
  unfold entries
  simp at h1
  omega
theorem entriesD_len (pf dl : Bs) (os : List Ob) : (entriesD pf dl os).length ≤ os.length := by
  have h1 := fold_len insD_len (os.filterMap (entOf pf dl)) []
  have h2 := List.length_filterMap_le (entOf pf dl) os
  unfold entriesD
  simp at h1
  omega
theorem ent_name {pf dl : Bs} {o : Ob} {e : En} (h : entOf pf dl o = some e) : e.name <+: o.key ∧ (o.key ≠ [] → e.name ≠ []) := by
  unfold entOf at h
  by_cases p : pf <+: o.key
  · rw [if_pos p] at h
    cases hc : comm pf dl o.key with
    | some c => rw [hc] at h; obtain rfl := Option.some.inj h; exact ⟨(comm_pre p hc).1, fun _ => (comm_pre p hc).2.2⟩
    | none => rw [hc] at h; obtain rfl := Option.some.inj h; exact ⟨List.prefix_refl _, fun k => k⟩
  · rw [if_neg p] at h; cases h
end Go.Proofs.YtfoplbolbjcggaaDoor
