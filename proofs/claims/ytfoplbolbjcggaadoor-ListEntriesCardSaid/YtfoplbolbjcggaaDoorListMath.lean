/- A bucket's entries, in plain Lean: the code's order and the document's are one. -/
import Derived.Lib.IndexLaws
import GoSem.Op.String
set_option linter.unusedVariables false
set_option maxRecDepth 100000
namespace Go.Proofs.YtfoplbolbjcggaaDoor

abbrev Bs := List UInt8
def lt (a b : Bs) : Prop := Op.bytesLess a b = true
instance (a b : Bs) : Decidable (lt a b) := inferInstanceAs (Decidable (_ = true))

theorem lt_iff : ∀ (a b : Bs), lt a b ↔ ∃ p, (a = p ∧ ∃ c t, b = p ++ c :: t) ∨ (∃ x y s t, a = p ++ x :: s ∧ b = p ++ y :: t ∧ x < y)
  | a, [] => by
    simp [lt, Op.bytesLess]
  | [], c :: t => by
    simp only [lt, Op.bytesLess, true_iff]
    exact ⟨[], .inl ⟨rfl, c, t, rfl⟩⟩
  | a :: x, b :: y => by
    have ih := lt_iff x y
    simp only [lt, Op.bytesLess, Bool.or_eq_true, Bool.and_eq_true, decide_eq_true_eq, beq_iff_eq] at ih ⊢
    constructor
    · rintro (h | ⟨rfl, h⟩)
      · exact ⟨[], .inr ⟨a, b, x, y, rfl, rfl, h⟩⟩
      · obtain ⟨p, hp⟩ := ih.1 h
        clear h
        refine ⟨a :: p, ?_⟩
        rcases hp with ⟨rfl, c, t, rfl⟩ | ⟨u, v, s, t, rfl, rfl, hq⟩
        · exact .inl ⟨rfl, c, t, rfl⟩
        · exact .inr ⟨u, v, s, t, rfl, rfl, hq⟩
    · rintro ⟨p, h⟩
      cases p with
      | nil =>
        rcases h with ⟨h, _⟩ | ⟨u, v, s, t, h1, h2, h⟩
        · cases h
        · simp at h1 h2
          obtain ⟨rfl, rfl⟩ := h1
          obtain ⟨rfl, rfl⟩ := h2
          exact .inl h
      | cons q p =>
        rcases h with ⟨h1, c, t, h2⟩ | ⟨u, v, s, t, h1, h2, h⟩
        · simp at h1 h2
          exact .inr ⟨h1.1.trans h2.1.symm, ih.2 ⟨p, .inl ⟨h1.2, c, t, h2.2⟩⟩⟩
        · simp at h1 h2
          exact .inr ⟨h1.1.trans h2.1.symm, ih.2 ⟨p, .inr ⟨u, v, s, t, h1.2, h2.2, h⟩⟩⟩
theorem lt_irrefl : ∀ (a : Bs), ¬ lt a a
  | [] => by simp [lt, Op.bytesLess]
  | a :: x => by
    have := lt_irrefl x
    simp only [lt, Op.bytesLess, Bool.or_eq_true, Bool.and_eq_true, decide_eq_true_eq, beq_iff_eq] at this ⊢
    rintro (h | ⟨_, h⟩)
    · exact absurd h (by simp)
    · exact this h
theorem lt_trans : ∀ {a b c : Bs}, lt a b → lt b c → lt a c
  | a, b, [], _, h => by simp [lt, Op.bytesLess] at h
  | a, [], c :: t, h, _ => by cases a <;> simp [lt, Op.bytesLess] at h
  | [], b :: y, c :: z, _, _ => by simp [lt, Op.bytesLess]
  | a :: x, b :: y, c :: z, h, k => by
    have ih := @lt_trans x y z
    simp only [lt, Op.bytesLess, Bool.or_eq_true, Bool.and_eq_true, decide_eq_true_eq, beq_iff_eq] at ih h k ⊢
    rcases h with h | ⟨rfl, h⟩
    · rcases k with k | ⟨rfl, k⟩
      · exact .inl (UInt8.lt_trans h k)
      · exact .inl h
    · rcases k with k | ⟨rfl, k⟩
      · exact .inl k
      · exact .inr ⟨rfl, ih h k⟩
theorem lt_total : ∀ (a b : Bs), lt a b ∨ a = b ∨ lt b a
  | [], [] => .inr (.inl rfl)
  | [], b :: y => .inl (by simp [lt, Op.bytesLess])
  | a :: x, [] => .inr (.inr (by simp [lt, Op.bytesLess]))
  | a :: x, b :: y => by
    have ih := lt_total x y
    simp only [lt, Op.bytesLess, Bool.or_eq_true, Bool.and_eq_true, decide_eq_true_eq, beq_iff_eq, List.cons.injEq] at ih ⊢
    by_cases h1 : a < b
    · exact .inl (.inl h1)
    · by_cases h2 : b < a
      · exact .inr (.inr (.inl h2))
      · have e : a = b := UInt8.le_antisymm (UInt8.not_lt.1 h2) (UInt8.not_lt.1 h1)
        subst e
        rcases ih with h | h | h
        · exact .inl (.inr ⟨rfl, h⟩)
        · exact .inr (.inl ⟨rfl, h⟩)
        · exact .inr (.inr (.inr ⟨rfl, h⟩))
theorem lt_asymm {a b : Bs} (h : lt a b) : ¬ lt b a := fun k => lt_irrefl a (lt_trans h k)
theorem lt_app (p : Bs) (c : UInt8) (t : Bs) : lt p (p ++ c :: t) := (lt_iff _ _).2 ⟨p, .inl ⟨rfl, c, t, rfl⟩⟩
theorem lt_at (p : Bs) {x y : UInt8} (s t : Bs) (h : x < y) : lt (p ++ x :: s) (p ++ y :: t) := (lt_iff _ _).2 ⟨p, .inr ⟨x, y, s, t, rfl, rfl, h⟩⟩

structure Ob where
  key : Bs
  size : Int
  etag : Bs
  time : Nat
structure En where
  name : Bs
  pre : Bool
  size : Int
  etag : Bs
  time : Int
  deriving DecidableEq
/-- a key's common prefix -/
def comm (pf dl k : Bs) : Option Bs :=
  if dl ≠ [] ∧ 0 ≤ Lib.index (k.drop pf.length) dl then some (pf ++ (k.drop pf.length).take ((Lib.index (k.drop pf.length) dl).toNat + dl.length)) else none
/-- the laws' object -/
def mkOb (k : Bs) (i : Nat) : Ob := ⟨k, (k.length : Int), [101], i⟩
def enK (o : Ob) : En := ⟨o.key, false, o.size, o.etag, o.time⟩
def enC (c : Bs) : En := ⟨c, true, 0, [], 0⟩
def entOf (pf dl : Bs) (o : Ob) : Option En :=
  if pf <+: o.key then some (match comm pf dl o.key with | some c => enC c | none => enK o) else none

/-- the first place of a delimiter -/
theorem comm_some {pf dl k c : Bs} (hp : pf <+: k) : comm pf dl k = some c ↔ dl ≠ [] ∧ ∃ i : Nat, i + dl.length ≤ (k.drop pf.length).length ∧ Lib.occAt (k.drop pf.length) dl i = true ∧ (∀ j, j < i → Lib.occAt (k.drop pf.length) dl j = false) ∧ c = pf ++ (k.drop pf.length).take (i + dl.length) := by
  unfold comm
  generalize k.drop pf.length = r
  constructor
  · intro h
    split at h
    · rename_i hc
      refine ⟨hc.1, ?_⟩
      by_cases hx : ∃ i, i ≤ r.length ∧ Lib.occAt r dl i = true
      · obtain ⟨i, hi, ho⟩ := hx
        have : ∃ i, (i ≤ r.length ∧ Lib.occAt r dl i = true) ∧ ∀ j, j < i → Lib.occAt r dl j = false := by
          induction i using Nat.strongRecOn with
          | _ i ih =>
            by_cases hj : ∃ j, j < i ∧ Lib.occAt r dl j = true
            · obtain ⟨j, hj1, hj2⟩ := hj
              exact ih j hj1 (by omega) hj2
            · exact ⟨i, ⟨hi, ho⟩, fun j hj1 => by
                cases e : Lib.occAt r dl j with
                | false => rfl
                | true => exact absurd ⟨j, hj1, e⟩ hj⟩
        obtain ⟨i, ⟨hi, ho⟩, hf⟩ := this
        have hix := Lib.index_first hi ho hf
        rw [hix] at h
        refine ⟨i, ?_, ho, hf, ?_⟩
        · rcases Lib.occAt_room ho with h1 | h1
          · exact h1
          · exact absurd h1 hc.1
        · simpa using (Option.some.inj h).symm
      · have hno := Lib.index_none (s := r) (sub := dl) (fun j hj => by
          cases e : Lib.occAt r dl j with
          | false => rfl
          | true => exact absurd ⟨j, hj, e⟩ hx)
        rw [hno] at hc
        exact absurd hc.2 (by omega)
    · cases h
  · rintro ⟨hd, i, hi, ho, hf, rfl⟩
    have hix := Lib.index_first (by omega) ho hf
    rw [hix, if_pos ⟨hd, by omega⟩]
    simp
theorem comm_pre {pf dl k c : Bs} (hp : pf <+: k) (h : comm pf dl k = some c) : c <+: k ∧ pf <+: c ∧ c ≠ [] := by
  obtain ⟨hd, i, hi, _, _, rfl⟩ := (comm_some hp).1 h
  obtain ⟨r, rfl⟩ := hp
  rw [List.drop_left] at hi ⊢
  refine ⟨(List.prefix_append_right_inj _).2 (List.take_prefix _ _), List.prefix_append _ _, fun e => ?_⟩
  have h1 := congrArg List.length e
  rw [List.length_append, List.length_take, List.length_nil] at h1
  have h2 : dl.length ≠ 0 := fun e => hd (List.eq_nil_of_length_eq_zero e)
  omega
theorem occ_pre (r t dl : Bs) (j : Nat) (h : j + dl.length ≤ r.length) : Lib.occAt (r ++ t) dl j = Lib.occAt r dl j := by
  rw [Lib.occAt_iff_take _ _ _ (by rw [List.length_append]; omega), Lib.occAt_iff_take _ _ _ h, List.drop_append_of_le_length (by omega), List.take_append_of_le_length (by rw [List.length_drop]; omega)]
/-- a key that begins with another's common prefix has it too -/
theorem comm_stable {pf dl k c k' : Bs} (hp : pf <+: k) (h : comm pf dl k = some c) (hc : c <+: k') : comm pf dl k' = some c := by
  obtain ⟨hd, i, hi, ho, hf, rfl⟩ := (comm_some hp).1 h
  obtain ⟨r, rfl⟩ := hp
  rw [List.drop_left] at hi ho hf hc ⊢
  obtain ⟨t, rfl⟩ := hc
  have hpk : pf <+: pf ++ r.take (i + dl.length) ++ t := by rw [List.append_assoc]; exact List.prefix_append _ _
  refine (comm_some hpk).2 ⟨hd, i, ?_⟩
  rw [List.append_assoc, List.drop_left]
  have hl : (r.take (i + dl.length)).length = i + dl.length := by rw [List.length_take]; omega
  have hr : r = r.take (i + dl.length) ++ r.drop (i + dl.length) := (List.take_append_drop _ _).symm
  refine ⟨by rw [List.length_append]; omega, ?_, fun j hj => ?_, ?_⟩
  · rw [occ_pre _ _ _ _ (by omega), ← occ_pre _ (r.drop (i + dl.length)) _ _ (by omega), ← hr]; exact ho
  · rw [occ_pre _ _ _ _ (by omega), ← occ_pre _ (r.drop (i + dl.length)) _ _ (by omega), ← hr]; exact hf j hj
  · rw [List.take_left' hl]
theorem pre_cmp {a b k : Bs} (ha : a <+: k) (hb : b <+: k) : a <+: b ∨ b <+: a := by
  by_cases h : a.length ≤ b.length
  · exact .inl (List.prefix_of_prefix_length_le ha hb h)
  · exact .inr (List.prefix_of_prefix_length_le hb ha (by omega))
/-- entries of two keys, the lesser first -/
theorem ent_lt {pf dl : Bs} {o1 o2 : Ob} {e1 e2 : En} (h : lt o1.key o2.key) (h1 : entOf pf dl o1 = some e1) (h2 : entOf pf dl o2 = some e2) : lt e1.name e2.name ∨ (e1 = e2 ∧ e1.pre = true) := by
  unfold entOf at h1 h2
  have p1 : pf <+: o1.key := by
    by_cases p : pf <+: o1.key
    · exact p
    · rw [if_neg p] at h1; cases h1
  have p2 : pf <+: o2.key := by
    by_cases p : pf <+: o2.key
    · exact p
    · rw [if_neg p] at h2; cases h2
  rw [if_pos p1] at h1
  rw [if_pos p2] at h2
  have hn2 : e2.name <+: o2.key ∧ (e2.name ≠ o2.key → comm pf dl o2.key = some e2.name) := by
    cases hc : comm pf dl o2.key with
    | some c => rw [hc] at h2; obtain rfl := Option.some.inj h2; exact ⟨(comm_pre p2 hc).1, fun _ => rfl⟩
    | none => rw [hc] at h2; obtain rfl := Option.some.inj h2; exact ⟨List.prefix_refl _, fun k => absurd rfl k⟩
  cases hc1 : comm pf dl o1.key with
  | some c1 =>
    rw [hc1] at h1
    obtain rfl := Option.some.inj h1
    by_cases hp : c1 <+: o2.key
    · have := comm_stable p1 hc1 hp
      rw [this] at h2
      obtain rfl := Option.some.inj h2
      exact .inr ⟨rfl, rfl⟩
    · left
      show lt c1 e2.name
      have hk1 := (comm_pre p1 hc1).1
      obtain ⟨p, ⟨hk, c, t, hk2⟩ | ⟨x, y, s, t, ha, hb, hxy⟩⟩ := (lt_iff _ _).1 h
      · exact absurd (hk1.trans ⟨c :: t, by rw [hk2, hk]⟩) hp
      · have hpp1 : p <+: o1.key := ⟨_, ha.symm⟩
        have hpp2 : p <+: o2.key := ⟨_, hb.symm⟩
        obtain ⟨s', hs'⟩ : ∃ s', c1 = p ++ x :: s' := by
          rcases pre_cmp hk1 hpp1 with h3 | ⟨u, rfl⟩
          · exact absurd (h3.trans hpp2) hp
          · rw [ha] at hk1
            have := (List.prefix_append_right_inj p).1 hk1
            cases u with
            | nil => simp at hp; exact absurd hpp2 hp
            | cons v u => obtain ⟨rfl, _⟩ := List.cons_prefix_cons.1 this; exact ⟨u, rfl⟩
        rcases pre_cmp hn2.1 hpp2 with h3 | ⟨u, hu⟩
        · have hne : e2.name ≠ o2.key := fun e => by
            rw [e, hb] at h3
            have := h3.length_le
            rw [List.length_append, List.length_cons] at this
            omega
          have hst := comm_stable p2 (hn2.2 hne) (h3.trans hpp1)
          rw [hc1] at hst
          have := Option.some.inj hst
          rw [← this, hs'] at h3
          have := h3.length_le
          rw [List.length_append, List.length_cons] at this
          omega
        · have hle : p ++ u <+: p ++ y :: t := by rw [hu, ← hb]; exact hn2.1
          have := (List.prefix_append_right_inj p).1 hle
          cases u with
          | nil =>
            rw [List.append_nil] at hu
            have hne : e2.name ≠ o2.key := fun e => by
              rw [e, hb] at hu
              have := congrArg List.length hu
              simp at this
            have hst := comm_stable p2 (hn2.2 hne) (hu ▸ hpp1)
            rw [hc1] at hst
            have := Option.some.inj hst
            rw [← hu, hs'] at this
            have := congrArg List.length this
            simp at this
          | cons v u =>
            obtain ⟨rfl, _⟩ := List.cons_prefix_cons.1 this
            rw [hs', ← hu]
            exact lt_at p _ _ hxy
  | none =>
    rw [hc1] at h1
    obtain rfl := Option.some.inj h1
    left
    show lt o1.key e2.name
    by_cases hne : e2.name = o2.key
    · rw [hne]; exact h
    · have hc2 := hn2.2 hne
      have hno : ¬ e2.name <+: o1.key := fun hp => by
        have := comm_stable p2 hc2 hp
        rw [hc1] at this; cases this
      obtain ⟨p, ⟨hk, c, t, hk2⟩ | ⟨x, y, s, t, ha, hb, hxy⟩⟩ := (lt_iff _ _).1 h
      · have hpk : o1.key <+: o2.key := ⟨c :: t, by rw [hk2, hk]⟩
        rcases pre_cmp hn2.1 hpk with h3 | ⟨u, hu⟩
        · exact absurd h3 hno
        · cases u with
          | nil => rw [List.append_nil] at hu; exact absurd (hu ▸ List.prefix_refl _) hno
          | cons v u => rw [← hu]; exact lt_app _ _ _
      · have hpp1 : p <+: o1.key := ⟨_, ha.symm⟩
        have hpp2 : p <+: o2.key := ⟨_, hb.symm⟩
        rcases pre_cmp hn2.1 hpp2 with h3 | ⟨u, hu⟩
        · exact absurd (h3.trans hpp1) hno
        · have hle : p ++ u <+: p ++ y :: t := by rw [hu, ← hb]; exact hn2.1
          have := (List.prefix_append_right_inj p).1 hle
          cases u with
          | nil => rw [List.append_nil] at hu; exact absurd (hu ▸ hpp1) hno
          | cons v u =>
            obtain ⟨rfl, _⟩ := List.cons_prefix_cons.1 this
            rw [ha, ← hu]
            exact lt_at p _ _ hxy
end Go.Proofs.YtfoplbolbjcggaaDoor
