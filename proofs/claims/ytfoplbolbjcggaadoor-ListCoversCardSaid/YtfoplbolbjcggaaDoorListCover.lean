/- Each key is an entry, or begins with one: in plain Lean. -/
import Derived.Test.YtfoplbolbjcggaaDoorListEnt
set_option linter.unusedVariables false
set_option maxRecDepth 100000
namespace Go.Proofs.YtfoplbolbjcggaaDoor

/-- does an entry stand for an object -/
def standsFor (e : En) (o : Ob) : Bool := (e.pre && decide (e.name <+: o.key)) || (!e.pre && (decide (e.name = o.key) && (decide (e.size = o.size) && decide (e.time = (o.time : Int)))))
theorem cover_pre {pf dl : Bs} {o : Ob} (h : pf <+: o.key) : ∃ e, entOf pf dl o = some e ∧ ((e.pre = true ∧ comm pf dl o.key = some e.name ∧ e = enC e.name) ∨ (e = enK o ∧ comm pf dl o.key = none)) := by
  unfold entOf
  rw [if_pos h]
  cases hc : comm pf dl o.key with
  | some c => exact ⟨_, rfl, .inl ⟨rfl, rfl, rfl⟩⟩
  | none => exact ⟨_, rfl, .inr ⟨rfl, rfl⟩⟩
theorem cover_has {pf dl : Bs} {o : Ob} {e : En} (h : entOf pf dl o = some e) : pf <+: o.key := by
  unfold entOf at h
  by_cases p : pf <+: o.key
  · exact p
  · rw [if_neg p] at h; cases h
theorem key_uniq {os : List Ob} (hs : SortedK os) {o o' : Ob} (h : o ∈ os) (h' : o' ∈ os) (hk : o.key = o'.key) : o = o' := by
  obtain ⟨i, hi⟩ := List.mem_iff_getElem?.1 h
  obtain ⟨j, hj⟩ := List.mem_iff_getElem?.1 h'
  obtain ⟨h1, h2⟩ := List.getElem?_eq_some_iff.1 hi
  obtain ⟨h3, h4⟩ := List.getElem?_eq_some_iff.1 hj
  rcases Nat.lt_trichotomy i j with hl | hl | hl
  · have h5 := List.pairwise_iff_getElem.1 hs _ _ h1 h3 hl
    rw [h2, h4, hk] at h5
    exact absurd h5 (lt_irrefl _)
  · subst hl; rw [hi] at hj; exact Option.some.inj hj
  · have h5 := List.pairwise_iff_getElem.1 hs _ _ h3 h1 hl
    rw [h2, h4, hk] at h5
    exact absurd h5 (lt_irrefl _)
/-- of the entries just one stands for an object -/
theorem stands_one {pf dl : Bs} {os : List Ob} (hs : SortedK os) {o : Ob} (ho : o ∈ os) (hp : pf <+: o.key) {e0 : En} (he0 : entOf pf dl o = some e0) {e : En} (he : e ∈ entries pf dl os) : standsFor e o = true ↔ e = e0 := by
  obtain ⟨e1, h1, hc⟩ := cover_pre (dl := dl) hp
  rw [he0] at h1
  cases h1
  obtain ⟨o', ho', heo⟩ := (entries_mem hs _).1 he
  have hp' := cover_has heo
  obtain ⟨e2, h2, hc'⟩ := cover_pre (dl := dl) hp'
  rw [heo] at h2
  cases h2
  unfold standsFor
  constructor
  · intro h
    rw [Bool.or_eq_true, Bool.and_eq_true, Bool.and_eq_true] at h
    rcases h with ⟨ha, hb⟩ | ⟨ha, hb⟩
    · rcases hc' with ⟨_, hcm, hee⟩ | ⟨hee, _⟩
      · have := comm_stable hp' hcm (of_decide_eq_true hb)
        rcases hc with ⟨_, h3, h4⟩ | ⟨h4, h3⟩
        · rw [this] at h3
          rw [h4, hee]
          exact congrArg enC (Option.some.inj h3)
        · rw [this] at h3; cases h3
      · rw [hee] at ha; cases ha
    · rcases hc' with ⟨hpre, _, _⟩ | ⟨hee, hno⟩
      · rw [hpre] at ha; cases ha
      · have hb := of_decide_eq_true ((Bool.and_eq_true _ _).mp hb).1
        have hk : o'.key = o.key := by rw [hee] at hb; exact hb
        have := key_uniq hs ho' ho hk
        subst this
        rw [he0] at heo
        exact (Option.some.inj heo).symm
  · rintro rfl
    rcases hc with ⟨h3, h4, h5⟩ | ⟨h4, _⟩
    · rw [h3]
      have := (comm_pre hp h4).1
      simp [this]
    · rw [h4]
      simp [enK]
theorem asc_nodup {es : List En} (h : Asc es) : es.Nodup := by
  unfold Asc at h
  refine List.Pairwise.imp (R := fun a b => lt a.name b.name) (S := fun a b => a ≠ b) ?_ h
  intro a b hab e
  subst e
  exact lt_irrefl _ hab
theorem cover_one {pf dl : Bs} {os : List Ob} (hs : SortedK os) {o : Ob} (ho : o ∈ os) (hp : pf <+: o.key) : (entries pf dl os).countP (fun e => standsFor e o) = 1 := by
  obtain ⟨e0, h0, _⟩ := cover_pre (dl := dl) hp
  have hm : e0 ∈ entries pf dl os := (entries_mem hs _).2 ⟨o, ho, h0⟩
  have hnd := asc_nodup (entries_asc (pf := pf) (dl := dl) hs)
  have hu := fun e he => stands_one (dl := dl) hs ho hp h0 (e := e) he
  have : (entries pf dl os).countP (fun e => standsFor e o) = (entries pf dl os).countP (fun e => e == e0) := List.countP_congr fun e he => by
    rw [hu e he]; simp
  rw [this]
  show (entries pf dl os).count e0 = 1
  rw [List.Nodup.count hnd, if_pos hm]
theorem comm_nil (pf k : Bs) : comm pf [] k = none := by unfold comm; rw [if_neg (by simp)]
/-- without a delimiter the entries are these keys -/
theorem cover_len {pf : Bs} {os : List Ob} : (entries pf [] os).length = os.countP (fun o => decide (pf <+: o.key)) := by
  have hf : ∀ (l : List En) (es : List En), (∀ e ∈ l, e.pre = false) → (l.foldl stepE es).length = es.length + l.length := fun l => by
    induction l with
    | nil => intro es _; simp
    | cons e l ih =>
      intro es h
      rw [List.foldl_cons, ih _ (fun x hx => h x (List.mem_cons_of_mem _ hx))]
      have : stepE es e = es ++ [e] := by unfold stepE; rw [if_neg (by rw [h e (List.mem_cons_self ..)]; simp)]
      rw [this]
      simp
      omega
  unfold entries
  rw [hf _ _ (fun e he => by
    obtain ⟨o, ho, h⟩ := List.mem_filterMap.1 he
    unfold entOf at h
    by_cases p : pf <+: o.key
    · rw [if_pos p, comm_nil] at h; obtain rfl := Option.some.inj h; rfl
    · rw [if_neg p] at h; cases h)]
  simp only [List.length_nil, Nat.zero_add]
  induction os with
  | nil => rfl
  | cons o os ih =>
    rw [List.filterMap_cons, List.countP_cons]
    by_cases p : pf <+: o.key
    · have : entOf pf [] o = some (enK o) := by unfold entOf; rw [if_pos p, comm_nil]
      rw [this]
      simp [p, ih]
    · have : entOf pf [] o = none := by unfold entOf; rw [if_neg p]
      rw [this]
      simp [p, ih]
/-- an entry of a key that is not one of a prefix is the key's own -/
theorem stands_key {pf dl : Bs} {os : List Ob} (hs : SortedK os) {o : Ob} (ho : o ∈ os) {e : En} (he : e ∈ entries pf dl os) (hpre : e.pre = false) (hn : e.name = o.key) : e.size = o.size ∧ e.time = (o.time : Int) := by
  obtain ⟨o', ho', heo⟩ := (entries_mem hs _).1 he
  obtain ⟨e2, h2, hc'⟩ := cover_pre (dl := dl) (cover_has heo)
  rw [heo] at h2
  cases h2
  rcases hc' with ⟨hp, _, _⟩ | ⟨hee, _⟩
  · rw [hp] at hpre; cases hpre
  · have hk : o'.key = o.key := by rw [hee] at hn; exact hn
    have := key_uniq hs ho' ho hk
    subst this
    rw [hee]
    exact ⟨rfl, rfl⟩
theorem countP_take {α : Type} (f : α → Bool) {l : List α} {i : Nat} {a : α} (h : l[i]? = some a) : (l.take (i + 1)).countP f = (l.take i).countP f + (if f a = true then 1 else 0) := by
  rw [List.take_add_one, h, List.countP_append]
  simp [List.countP_cons]
end Go.Proofs.YtfoplbolbjcggaaDoor
