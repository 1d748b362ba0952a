/- Slices that a call owns, of elements of K cells: appended to. Over any program. -/
import Derived.Test.YtfoplbolbjcggaaDoorRegions
set_option linter.unusedVariables false
set_option maxRecDepth 100000
namespace Go.Proofs.YtfoplbolbjcggaaDoor
open Go.RowKit

/-- the slice v of n elements of K cells holds the cells vs, in a block of its own from 'base' on (or it is nil) -/
def OwnK (w : World) (base : Nat) (e : TypeId) (K : Nat) (v : Value) (n : Nat) (vs : List Value) : Prop := w.ownsRow base e K v n vs
theorem OwnK.only {S : List Nat} {w w' : World} {base K n : Nat} {e : TypeId} {v : Value} {vs : List Value} (h : OwnK w base e K v n vs) (ho : Only S w w') (hn : ∀ k, v.ownBlock = some k → k ∉ S) : OwnK w' base e K v n vs := by
  refine ⟨h.1, ?_⟩
  rcases h.2 with h2 | ⟨g, cap, cur, rfl, hg, hh, r⟩
  · exact .inl h2
  · refine .inr ⟨g, cap, cur, rfl, hg, ?_, r⟩
    rw [ho.block g (Array.getElem?_eq_some_iff.1 hh).1 (hn g rfl)]
    exact hh
theorem OwnK.only0 {w w' : World} {base K n : Nat} {e : TypeId} {v : Value} {vs : List Value} (h : OwnK w base e K v n vs) (ho : Only [] w w') : OwnK w' base e K v n vs := h.only ho (by simp)
theorem OwnK.weaken {w : World} {base base' K n : Nat} {e : TypeId} {v : Value} {vs : List Value} (h : OwnK w base e K v n vs) (hb : base' ≤ base) : OwnK w base' e K v n vs := by
  refine ⟨h.1, ?_⟩
  rcases h.2 with h2 | ⟨g, cap, cur, hv, hg, r⟩
  · exact .inl h2
  · exact .inr ⟨g, cap, cur, hv, by omega, r⟩
/-- a new block that holds just its elements -/
theorem OwnK.new {w : World} {base K n : Nat} {e : TypeId} (vs : List Value) (hb : base ≤ w.heap.size) (hl : vs.length = n * K) (hm : n ≤ 9223372036854775807) :
    OwnK (w.alloc (.cells vs.toArray e)) base e K (.slice (some ⟨w.heap.size, 0, none⟩) n n) n vs :=
  World.ownsRow_lit w vs.toArray n hb (by simpa [maxLen] using hm) (by simpa using hl)
theorem OwnK.view {w : World} {base K n m c : Nat} {e : TypeId} {p : Option Addr} {vs : List Value} (h : OwnK w base e K (.slice p m c) n vs) : m = n ∧ vs.length = n * K ∧ Rd w p vs ∧ (p = none → n = 0 ∧ c = 0) ∧ n ≤ c ∧ c ≤ 9223372036854775807 ∧ (∀ k ∈ blk p, base ≤ k ∧ k < w.heap.size) := by
  rcases h.2 with ⟨e1, rfl⟩ | ⟨g, cap, cur, e1, hg, hh, h1, h2, h3, h4⟩
  · cases e1
    have h0 := h.1
    simp at h0
    subst h0
    exact ⟨rfl, by simp, Rd.nil _ _, fun _ => ⟨rfl, rfl⟩, Nat.le_refl _, by omega, by simp [blk]⟩
  · cases e1
    refine ⟨rfl, h.1, ?_, by simp, h1, by simpa [maxLen] using h2, ?_⟩
    · have r : Row w g e cur.toList := by unfold Row; simpa using hh
      have := r.rd0.take (n * K)
      rw [h4] at this
      exact this
    · intro k hk
      simp [blk] at hk; subst hk
      exact ⟨hg, (Array.getElem?_eq_some_iff.1 hh).1⟩

theorem info_partsK {P : Program} {e : TypeId} {z : Value} {K bytes : Nat} (h : (P.info? e).map (fun i => (i.zero, i.size, i.bytes)) = some (some z, K, bytes)) : ∃ i, P.info? e = some i ∧ i.zero = some z ∧ i.size = K ∧ i.bytes = bytes := by
  cases hi : P.info? e with
  | none => rw [hi] at h; cases h
  | some i =>
    rw [hi] at h
    simp only [Option.map_some, Option.some.injEq, Prod.mk.injEq] at h
    exact ⟨i, rfl, h.1, h.2.1, h.2.2⟩
/-- append to an owned slice, its value written out -/
theorem appendK {P : Program} (w : World) {t ty e : TypeId} {z : Value} {bytes base K n cap m c : Nat} {p q : Option Addr} {vs news : List Value} (ht : P.underlying t = some (.slice e)) (hi : (P.info? e).map (fun i => (i.zero, i.size, i.bytes)) = some (some z, K, bytes)) (hz : z.cells.size = K) (hK : 0 < K)
    (hown : OwnK w base e K (.slice p n cap) n vs) (hr : Rd w q news) (hm : news.length = m * K) (hq : q = none → m = 0 ∧ c = 0) (h1 : ∀ u ∈ news, u.oneCell' = true) (hb : (n + m) * bytes ≤ 140737488355328) (h63 : n + m ≤ 9223372036854775807) (hbase : base ≤ w.heap.size) :
    ∃ p' cap' w', (Builtin.append_ #[t, t] ty #[.slice p n cap, .slice q m c]).run P w = .ok (.slice p' (n + m) cap') w' ∧ OwnK w' base e K (.slice p' (n + m) cap') (n + m) (vs ++ news) ∧ Only (blk p) w w' := by
  obtain ⟨i, hi, hz0, hz1, hz2⟩ := info_partsK hi
  have hob : (Value.slice p n cap).ownBlock.toList = blk p := by
    cases p <;> simp [Value.ownBlock, blk]
  cases q with
  | none =>
    obtain ⟨rfl, rfl⟩ := hq rfl
    have hn : news = [] := List.eq_nil_of_length_eq_zero (by simpa using hm)
    subst hn
    exact ⟨p, cap, w, run_append_owned_none (P := P) w base t ty e i K ht hi _ n vs hown, by simpa using hown, Only.refl _ _⟩
  | some a =>
    obtain ⟨v', w', hr', h2, h3, _⟩ := run_append_own (P := P) w base t ty e i z K bytes ht hi hz0 hz1 hz2 hz hK _ n vs hown a m c news hm hr.cells h1 (by simp [maxLen]; omega) hb hbase
    rcases h2.2 with ⟨rfl, h0⟩ | ⟨g, cap', cur, rfl, r⟩
    · obtain ⟨rfl, rfl⟩ : n = 0 ∧ m = 0 := by omega
      exact ⟨none, 0, w', hr', h2, hob ▸ Only.grown h3⟩
    · exact ⟨_, cap', w', hr', ⟨h2.1, .inr ⟨g, cap', cur, rfl, r⟩⟩, hob ▸ Only.grown h3⟩

theorem flat_length {α : Type} (f : α → List Value) (K : Nat) (hf : ∀ a, (f a).length = K) : ∀ l : List α, (l.flatMap f).length = l.length * K
  | [] => by simp
  | a :: l => by rw [List.flatMap_cons, List.length_append, hf, flat_length f K hf l, List.length_cons, Nat.succ_mul]; omega
theorem flat_get {α : Type} (f : α → List Value) (K : Nat) (hf : ∀ a, (f a).length = K) : ∀ (l : List α) (j : Nat) (a : α) (r : Nat), l[j]? = some a → r < K → (l.flatMap f)[j * K + r]? = (f a)[r]?
  | [], j, a, r, h, _ => by simp at h
  | x :: l, 0, a, r, h, hr => by
    obtain rfl : x = a := by simpa using h
    rw [List.flatMap_cons, Nat.zero_mul, Nat.zero_add, List.getElem?_append_left (by rw [hf]; exact hr)]
  | x :: l, j + 1, a, r, h, hr => by
    rw [List.flatMap_cons, List.getElem?_append_right (by rw [hf, Nat.succ_mul]; omega), hf]
    have e : (j + 1) * K + r - K = j * K + r := by rw [Nat.succ_mul]; omega
    rw [e]
    exact flat_get f K hf l j a r (by simpa using h) hr
/-- a slice of elements that lie cell by cell -/
theorem rd_flat {α : Type} (f : α → List Value) (K : Nat) (hK : 0 < K) (hf : ∀ a, (f a).length = K) {w : World} {p : Option Addr} {l : List α}
    (h : ∀ j a, l[j]? = some a → ∃ b off, p = some ⟨b, off, none⟩ ∧ ∀ r v, (f a)[r]? = some v → w.cell? ⟨b, off + j * K + r, none⟩ = some v) : Rd w p (l.flatMap f) := by
  cases l with
  | nil => exact Rd.nil _ _
  | cons x l =>
    obtain ⟨b, off, rfl, _⟩ := h 0 x rfl
    refine .inr ⟨b, off, rfl, fun i v hv => ?_⟩
    have hi := (List.getElem?_eq_some_iff.1 hv).1
    rw [flat_length f K hf] at hi
    have hj : i / K < (x :: l).length := Nat.div_lt_of_lt_mul (by rw [Nat.mul_comm]; exact hi)
    have hr : i % K < K := Nat.mod_lt _ hK
    have e : i / K * K + i % K = i := by rw [Nat.mul_comm]; exact Nat.div_add_mod i K
    have hget := flat_get f K hf (x :: l) (i / K) _ (i % K) (List.getElem?_eq_getElem hj) hr
    rw [e, hv] at hget
    obtain ⟨b', off', e', h'⟩ := h (i / K) _ (List.getElem?_eq_getElem hj)
    obtain ⟨rfl, rfl, -⟩ : b = b' ∧ off = off' ∧ True := by simpa using e'
    have := h' (i % K) v hget.symm
    rw [Nat.add_assoc, e] at this
    exact this
end Go.Proofs.YtfoplbolbjcggaaDoor
