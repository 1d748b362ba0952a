/- Rows whose elements are of K cells, element by element. -/
import Derived.Test.YtfoplbolbjcggaaDoorOwnKAt
import Derived.Test.YtfoplbolbjcggaaDoorRegions
import Derived.Test.YtfoplbolbjcggaaDoorBlocksW
import Derived.Test.YtfoplbolbjcggaaDoorRowLoad
set_option linter.unusedVariables false
set_option maxRecDepth 100000
namespace Go.Proofs.YtfoplbolbjcggaaDoor
open Go.RowKit

section
variable {α : Type} (f : α → List Value) (K : Nat)
theorem flat_take (hf : ∀ a, (f a).length = K) (l : List α) (k : Nat) : (l.flatMap f).take (k * K) = (l.take k).flatMap f := by
  induction l generalizing k with
  | nil => simp
  | cons x l ih =>
    cases k with
    | zero => simp
    | succ k =>
      rw [List.flatMap_cons, List.take_succ_cons, List.flatMap_cons, ← ih k, List.take_append, List.take_of_length_le (by rw [hf, Nat.succ_mul]; omega), hf, Nat.succ_mul, Nat.add_sub_cancel]
theorem flat_drop (hf : ∀ a, (f a).length = K) (l : List α) (k : Nat) : (l.flatMap f).drop (k * K) = (l.drop k).flatMap f := by
  induction l generalizing k with
  | nil => simp
  | cons x l ih =>
    cases k with
    | zero => simp
    | succ k =>
      rw [List.flatMap_cons, List.drop_succ_cons, ← ih k, List.drop_append, List.drop_eq_nil_of_le (by rw [hf, Nat.succ_mul]; omega), hf, Nat.succ_mul, Nat.add_sub_cancel, List.nil_append]
theorem flat_one (h1 : ∀ a, ∀ u ∈ f a, u.oneCell' = true) {l : List α} {v : Value} (h : v ∈ l.flatMap f) : v.oneCell' = true := by
  obtain ⟨o, _, h⟩ := List.mem_flatMap.1 h
  exact h1 o v h
end
/-- a slice of elements -/
def SlK {α : Type} (f : α → List Value) (e : TypeId) (K base n : Nat) (l : List α) : Value → World → Prop := fun v w => ∃ p c, v = .slice p n c ∧ l.length = n ∧ OwnK w base e K (.slice p n c) n (l.flatMap f)
/-- a slice of our own with no room -/
def Sl0K (e : TypeId) (K base : Nat) : Value → World → Prop := fun v w => ∃ p, v = .slice p 0 0 ∧ OwnK w base e K (.slice p 0 0) 0 []
theorem Sl0K.stable {e : TypeId} {K base : Nat} : Stable (Only []) (Sl0K e K base) := fun _ _ _ ⟨p, h1, h2⟩ ho => ⟨p, h1, h2.only0 ho⟩
theorem SlK.stable {α : Type} {f : α → List Value} {e : TypeId} {K base n : Nat} {l : List α} : Stable (Only []) (SlK f e K base n l) := fun _ _ _ ⟨p, c, h1, h2, h3⟩ ho => ⟨p, c, h1, h2, h3.only0 ho⟩
/-- a slice that reads so -/
def RdK {α : Type} (f : α → List Value) (l : List α) (n : Nat) : Value → World → Prop := fun v w => ∃ p c, v = .slice p n c ∧ l.length = n ∧ Rd w p (l.flatMap f) ∧ (p = none → n = 0 ∧ c = 0)
theorem RdK.stable {α : Type} {f : α → List Value} {l : List α} {n : Nat} : Stable (Only []) (RdK f l n) := fun _ _ _ ⟨p, c, h1, h2, h3, h4⟩ ho => ⟨p, c, h1, h2, h3.only0 ho, h4⟩
theorem OwnK.nil (w : World) (base K : Nat) (e : TypeId) : OwnK w base e K (.slice none 0 0) 0 [] := ⟨by simp, .inl ⟨rfl, rfl⟩⟩
/-- a cut of a slice of elements -/
theorem rd_cut {α : Type} {f : α → List Value} {K : Nat} (hf : ∀ a, (f a).length = K) {w : World} {r : Option Addr} {l : List α} (h : Rd w r (l.flatMap f)) (m c : Nat) (hc : c = m → l.length ≤ m) : Rd w (if c = m then r else r.map fun x => x.add (m * K)) ((l.drop m).flatMap f) := by
  by_cases e : c = m
  · rw [if_pos e, List.drop_eq_nil_of_le (hc e)]
    exact Rd.nil _ _
  · rw [if_neg e, ← flat_drop f K hf]
    exact h.sub _
theorem rd_take {α : Type} {f : α → List Value} {K : Nat} (hf : ∀ a, (f a).length = K) {w : World} {r : Option Addr} {l : List α} (h : Rd w r (l.flatMap f)) (m : Nat) : Rd w r ((l.take m).flatMap f) := by
  rw [← flat_take f K hf]
  exact h.take _
theorem OwnK.at {w : World} {base K n c : Nat} {e : TypeId} {p : Option Addr} {vs : List Value} (h : OwnK w base e K (.slice p n c) n vs) (hn : 0 < n) : ∃ g, p = some ⟨g, 0, none⟩ ∧ base ≤ g ∧ g < w.heap.size := by
  rcases h.2 with ⟨e1, rfl⟩ | ⟨g, cap, cur, e1, hg, hh, h1, h2, h3, h4⟩
  · cases e1; omega
  · cases e1
    have := (h.view).2.2.2.2.2.2 g (by simp [blk])
    exact ⟨g, rfl, this.1, this.2⟩
/-- the cells of an element -/
theorem rd_elem {α : Type} {f : α → List Value} {K : Nat} (hf : ∀ a, (f a).length = K) {w : World} {a : Addr} {l : List α} (h : Rd w (some a) (l.flatMap f)) {j : Nat} {o : α} (hj : l[j]? = some o) {r : Nat} {v : Value} (hv : (f o)[r]? = some v) : w.cell? (a.add (j * K + r)) = some v := by
  have hr : r < K := by rw [← hf o]; exact (List.getElem?_eq_some_iff.1 hv).1
  exact h.cells _ _ (by rw [flat_get f K hf l j o r hj hr]; exact hv)
/-- what may have turned: the blocks of D, and those behind k -/
def Trb (D : List Nat) (k : Nat) : World → World → Prop := fun a b => ∃ S, Only S a b ∧ ∀ x ∈ S, x ∈ D ∨ k ≤ x
theorem Trb.refl (D : List Nat) (k : Nat) (w : World) : Trb D k w w := ⟨[], Only.refl _ _, by simp⟩
theorem Trb.trans {D : List Nat} {k : Nat} {a b c : World} (h : Trb D k a b) (g : Trb D k b c) : Trb D k a c := by
  obtain ⟨S, h1, h2⟩ := h
  obtain ⟨T, g1, g2⟩ := g
  exact ⟨S ++ T, (h1.mono (fun x hx => List.mem_append_left _ hx)).trans (g1.mono (fun x hx => List.mem_append_right _ hx)) (fun i hi _ => hi), fun x hx => (List.mem_append.1 hx).elim (h2 x) (g2 x)⟩
theorem Trb.size {D : List Nat} {k : Nat} {a b : World} (h : Trb D k a b) : a.heap.size ≤ b.heap.size := by obtain ⟨S, h1, -⟩ := h; exact h1.size
theorem Trb.of0 {D : List Nat} {k : Nat} {a b : World} (h : Only [] a b) : Trb D k a b := ⟨[], h, by simp⟩
theorem Trb.ofD {D : List Nat} {k : Nat} {a b : World} (h : Only D a b) : Trb D k a b := ⟨D, h, fun _ hx => .inl hx⟩
theorem Trb.ofB {D : List Nat} {k : Nat} {S : List Nat} {a b : World} (h : Only S a b) (hS : ∀ x ∈ S, k ≤ x) : Trb D k a b := ⟨S, h, fun x hx => .inr (hS x hx)⟩
theorem Trb.only {D : List Nat} {w w' : World} (h : Trb D w.heap.size w w') : Only D w w' := by
  obtain ⟨S, h1, h2⟩ := h
  refine ⟨h1.os, h1.tape, h1.output, h1.size, fun i hi hn => h1.block i hi (fun hm => ?_)⟩
  rcases h2 i hm with h3 | h3
  · exact hn h3
  · omega
theorem Trb.mono {D E : List Nat} {k l : Nat} {a b : World} (h : Trb D k a b) (hD : ∀ x ∈ D, x ∈ E ∨ l ≤ x) (hk : l ≤ k) : Trb E l a b := by
  obtain ⟨S, h1, h2⟩ := h
  exact ⟨S, h1, fun x hx => (h2 x hx).elim (hD x) (fun h => .inr (Nat.le_trans hk h))⟩
/-- a new slice of elements of its own -/
theorem SlK.ofApp {α : Type} {f : α → List Value} {e : TypeId} {K base n : Nat} {l : List α} {w : World} {p : Option Addr} {c : Nat} {vs : List Value} (h : OwnK w base e K (.slice p n c) n vs) (hv : vs = l.flatMap f) (hl : l.length = n) : SlK f e K base n l (.slice p n c) w := by
  subst hv
  exact ⟨p, c, rfl, hl, h⟩
theorem ownBlkF {p : Option Addr} {n c x : Nat} (h : (Value.slice p n c).ownBlock = some x) : x ∈ blk p := by
  cases p with
  | none => simp [Value.ownBlock] at h
  | some a => simp [Value.ownBlock] at h; simp [blk, h]
theorem Rd.trb {D : List Nat} {w w' : World} {p : Option Addr} {vs : List Value} (h : Rd w p vs) (ho : Trb D w.heap.size w w') (hp : ∀ a, p = some a → a.block ∉ D) : Rd w' p vs := h.only ho.only hp
theorem Row.trb {D : List Nat} {w w' : World} {g : Nat} {e : TypeId} {vs : List Value} (h : Row w g e vs) (ho : Trb D w.heap.size w w') (hg : g ∉ D) : Row w' g e vs := h.only ho.only hg
theorem Row.below {w w' : World} {g k : Nat} {e : TypeId} {vs : List Value} (h : Row w g e vs) (hb : Below k w w') (hg : g < k) : Row w' g e vs := by
  unfold Row at h ⊢
  rw [hb.block g hg]; exact h
/-- a struct that lies in a block of its own, loaded whole -/
theorem Row.loadS {P : Program} {w : World} {g : Nat} {t ty : TypeId} {fs : Array Field} {vs : List Value} (r : Row w g t vs) (hu : P.underlying ty = some (.struct fs)) (hi : (P.info? ty).map (·.size) = some vs.length) : (loadVar ty ⟨g, 0, none⟩).run P w = .ok (.agg vs.toArray) w :=
  run_loadVar_row w g t ty vs.toArray (0, 0) _ r hu rfl (by simpa using hi)
theorem results_c1 {P : Program} {fn : Func} {a : Tmp} {ty t : TypeId} {fs : Array Field} {vs : List Value} (h : fn.results = #[.cell a ty]) (tmps : Array Value) (w : World) (g : Nat) (ht : tmps.getD a undef = .pointer (some ⟨g, 0, none⟩)) (r : Row w g t vs) (hu : P.underlying ty = some (.struct fs)) (hi : (P.info? ty).map (·.size) = some vs.length) :
    (results fn tmps).run P w = .ok (.agg vs.toArray) w := by
  rw [Array.getD_eq_getD_getElem?] at ht
  have hl := r.loadS hu hi
  simp [results, h, ht, hl, asAddr]
theorem results_c2 {P : Program} {fn : Func} {a b : Tmp} {ty t : TypeId} {fs : Array Field} {vs : List Value} (h : fn.results = #[.cell a ty, .tmp b]) (tmps : Array Value) (w : World) (g : Nat) (ht : tmps.getD a undef = .pointer (some ⟨g, 0, none⟩)) (r : Row w g t vs) (hu : P.underlying ty = some (.struct fs)) (hi : (P.info? ty).map (·.size) = some vs.length) :
    (results fn tmps).run P w = .ok (.tuple #[.agg vs.toArray, tmps.getD b undef]) w := by
  rw [Array.getD_eq_getD_getElem?] at ht
  have hl := r.loadS hu hi
  simp [results, h, ht, hl, asAddr]
end Go.Proofs.YtfoplbolbjcggaaDoor
