/- Slices that a call owns (elements of one cell): appended to, with room or without. Over any program. -/
import Derived.Test.YtfoplbolbjcggaaDoorMem
import Derived.Lib.AppendStr
import Derived.Lib.SlBytesConst
import Derived.Lib.ConvBytes
set_option linter.unusedVariables false
set_option maxRecDepth 100000
namespace Go.Proofs.YtfoplbolbjcggaaDoor
open Go.RowKit

/-- the slice v holds the cells vs, in a block of its own from 'base' on (or it is nil) -/
def Own (w : World) (base : Nat) (e : TypeId) (v : Value) (vs : List Value) : Prop := w.ownsRow base e 1 v vs.length vs
theorem Own.nil (w : World) (base : Nat) (e : TypeId) : Own w base e (.slice none 0 0) [] := World.ownsRow_nil w base e 1
theorem Own.weaken {w : World} {base base' : Nat} {e : TypeId} {v : Value} {vs : List Value} (h : Own w base e v vs) (hb : base' ≤ base) : Own w base' e v vs := by
  refine ⟨h.1, ?_⟩
  rcases h.2 with h2 | ⟨g, cap, cur, hv, hg, r⟩
  · exact .inl h2
  · exact .inr ⟨g, cap, cur, hv, by omega, r⟩
/-- what it is: nil, or the head of a block -/
theorem Own.cases {w : World} {base : Nat} {e : TypeId} {v : Value} {vs : List Value} (h : Own w base e v vs) :
    (v = .slice none 0 0 ∧ vs = []) ∨ ∃ g cap rest, v = .slice (some ⟨g, 0, none⟩) vs.length cap ∧ base ≤ g ∧ Row w g e (vs ++ rest) ∧ (vs ++ rest).length = cap ∧ cap ≤ 9223372036854775807 := by
  rcases h.2 with ⟨h1, h2⟩ | ⟨g, cap, cur, rfl, hg, hh, h1, h2, h3, h4⟩
  · exact .inl ⟨h1, List.eq_nil_of_length_eq_zero h2⟩
  · right
    rw [Nat.mul_one] at h4 h3
    refine ⟨g, cap, cur.toList.drop vs.length, rfl, hg, ?_, ?_, by simpa [maxLen] using h2⟩
    · unfold Row
      rw [hh]
      congr 2
      have e := List.take_append_drop vs.length cur.toList
      rw [h4] at e
      rw [e]
    · have e := List.take_append_drop vs.length cur.toList
      rw [h4] at e
      rw [e]; simpa using h3
theorem Own.ofRow {w : World} {base g cap : Nat} {e : TypeId} {vs rest : List Value} (hg : base ≤ g) (r : Row w g e (vs ++ rest)) (hc : (vs ++ rest).length = cap) (hm : cap ≤ 9223372036854775807) :
    Own w base e (.slice (some ⟨g, 0, none⟩) vs.length cap) vs :=
  ⟨by simp, .inr ⟨g, cap, (vs ++ rest).toArray, rfl, hg, r, by simp at hc; omega, by simp [maxLen]; omega, by simpa using hc, by simp⟩⟩
theorem Own.only {S : List Nat} {w w' : World} {base : Nat} {e : TypeId} {v : Value} {vs : List Value} (h : Own w base e v vs) (ho : Only S w w') (hn : ∀ k, v.ownBlock = some k → k ∉ S) : Own w' base e v vs := by
  refine ⟨h.1, ?_⟩
  rcases h.2 with h2 | ⟨g, cap, cur, rfl, hg, hh, r⟩
  · exact .inl h2
  · refine .inr ⟨g, cap, cur, rfl, hg, ?_, r⟩
    rw [ho.block g (Array.getElem?_eq_some_iff.1 hh).1 (hn g rfl)]
    exact hh
theorem Own.only0 {w w' : World} {base : Nat} {e : TypeId} {v : Value} {vs : List Value} (h : Own w base e v vs) (ho : Only [] w w') : Own w' base e v vs := h.only ho (by simp)
theorem Own.rd {w : World} {base : Nat} {e : TypeId} {v : Value} {vs : List Value} (h : Own w base e v vs) : ∃ p cap, v = .slice p vs.length cap ∧ Rd w p vs ∧ vs.length ≤ cap ∧ cap ≤ 9223372036854775807 ∧ (p = none → vs.length = 0 ∧ cap = 0) ∧ (∀ a, p = some a → base ≤ a.block) := by
  rcases h.cases with ⟨rfl, rfl⟩ | ⟨g, cap, rest, rfl, hg, r, hc, hm⟩
  · exact ⟨none, 0, rfl, Rd.nil _ _, Nat.le_refl _, by omega, fun _ => ⟨rfl, rfl⟩, by simp⟩
  · refine ⟨_, cap, rfl, ?_, by simp at hc; omega, hm, by simp, by rintro a ⟨⟩; exact hg⟩
    have := r.rd0.take vs.length
    simpa using this
theorem Own.lt {w : World} {base : Nat} {e : TypeId} {v : Value} {vs : List Value} (h : Own w base e v vs) : ∀ k, v.ownBlock = some k → base ≤ k ∧ k < w.heap.size := World.ownsRow.lt h
/-- an owned slice whose value is written out -/
theorem Own.view {w : World} {base n c : Nat} {e : TypeId} {p : Option Addr} {vs : List Value} (h : Own w base e (.slice p n c) vs) : Rd w p vs ∧ vs.length = n ∧ (p = none → n = 0 ∧ c = 0) ∧ n ≤ c ∧ c ≤ 9223372036854775807 ∧ (∀ a, p = some a → base ≤ a.block ∧ a.block < w.heap.size) := by
  obtain ⟨p1, c1, e1, rd, h1, h2, h3, h4⟩ := h.rd
  obtain ⟨rfl, rfl, rfl⟩ : p = p1 ∧ n = vs.length ∧ c = c1 := by simpa using e1
  refine ⟨rd, rfl, h3, h1, h2, fun a ha => ?_⟩
  subst ha
  exact h.lt _ rfl

theorem Own.at {w : World} {base n c : Nat} {e : TypeId} {p : Option Addr} {vs : List Value} (h : Own w base e (.slice p n c) vs) (hn : 0 < n) : ∃ g, p = some ⟨g, 0, none⟩ ∧ base ≤ g ∧ g < w.heap.size := by
  rcases h.cases with ⟨h1, _⟩ | ⟨g, cap, rest, h1, h2, h3, _⟩
  · simp at h1; omega
  · exact ⟨g, by simp at h1; exact h1.1, h2, h3.lt⟩

section
variable {P : Program} (w : World)

/-- append to an owned slice, whatever room it has -/
theorem append_own {t ty e : TypeId} {z : Value} {bytes base m c : Nat} {v : Value} {p : Option Addr} {vs news : List Value} (ht : P.underlying t = some (.slice e)) (hi : (P.info? e).map (fun i => (i.zero, i.size, i.bytes)) = some (some z, 1, bytes)) (hz : z.cells.size = 1)
    (hown : Own w base e v vs) (hr : Rd w p news) (hm : news.length = m) (hp : p = none → m = 0 ∧ c = 0) (h1 : ∀ u ∈ news, u.oneCell' = true) (hb : (vs.length + m) * bytes ≤ 140737488355328) (h63 : vs.length + m ≤ 9223372036854775807) (hbase : base ≤ w.heap.size) :
    ∃ v' w', (Builtin.append_ #[t, t] ty #[v, .slice p m c]).run P w = .ok v' w' ∧ Own w' base e v' (vs ++ news) ∧ Only v.ownBlock.toList w w' := by
  obtain ⟨i, hi, hz0, hz1, hz2⟩ := info_parts hi
  cases p with
  | none =>
    obtain ⟨rfl, rfl⟩ := hp rfl
    have hn : news = [] := List.eq_nil_of_length_eq_zero hm
    subst hn
    refine ⟨v, w, run_append_owned_none (P := P) w base t ty e i 1 ht hi v _ vs hown, by simpa [Own] using hown, Only.refl _ _⟩
  | some a =>
    have hcells : ∀ j u, news[j]? = some u → w.cell? (a.add j) = some u := by
      rcases hr with rfl | ⟨b, off, e', h⟩
      · intro j u hj; simp at hj
      · cases e'
        intro j u hj
        rw [Addr.add_lit]; exact h j u hj
    obtain ⟨v', w', hr, h2, h3, _⟩ := run_append_own (P := P) w base t ty e i z 1 bytes ht hi hz0 hz1 hz2 hz (by omega) v vs.length vs hown a m c news (by omega) hcells h1 (by simp [maxLen]; omega) hb hbase
    exact ⟨v', w', hr, by unfold Own; rw [List.length_append, hm]; exact h2, Only.grown h3⟩
end

/-- behind an append the function's own view of the old blocks stands -/
theorem Only.own {w0 w w' : World} {base : Nat} {e : TypeId} {v : Value} {vs : List Value} (h : Only [] w0 w) (hown : Own w base e v vs) (hb : w0.heap.size ≤ base) (k : Only v.ownBlock.toList w w') : Only [] w0 w' :=
  (h.transN k (fun i hi => by
    cases hv : v.ownBlock with
    | none => rw [hv] at hi; simp at hi
    | some g =>
      rw [hv] at hi
      simp at hi; subst hi
      have := (hown.lt i hv).1
      omega))

/-- append within the room of a block that is known whole -/
theorem append_room {P : Program} (w : World) {t ty e : TypeId} {z : Value} {bytes g n cap m c : Nat} {p : Option Addr} {vs news : List Value} (ht : P.underlying t = some (.slice e)) (hi : (P.info? e).map (fun i => (i.zero, i.size, i.bytes)) = some (some z, 1, bytes))
    (hrow : Row w g e vs) (hcap : vs.length = cap) (hr : Rd w p news) (hm : news.length = m) (hp : p = none → m = 0 ∧ c = 0) (h1 : ∀ u ∈ news, u.oneCell' = true) (hfit : n + m ≤ cap) (h63 : cap ≤ 9223372036854775807) :
    ∃ w', (Builtin.append_ #[t, t] ty #[.slice (some ⟨g, 0, none⟩) n cap, .slice p m c]).run P w = .ok (.slice (some ⟨g, 0, none⟩) (n + m) cap) w' ∧ Row w' g e (vs.take n ++ news ++ vs.drop (n + m)) ∧ Only [g] w w' := by
  obtain ⟨i, hi, hz0, hz1, hz2⟩ := info_parts hi
  cases p with
  | none =>
    obtain ⟨rfl, rfl⟩ := hp rfl
    have hn : news = [] := List.eq_nil_of_length_eq_zero hm
    subst hn
    have hown : w.ownsRow 0 e 1 (.slice (some ⟨g, 0, none⟩) n cap) n (vs.take n) := ⟨by simp; omega, .inr ⟨g, cap, vs.toArray, rfl, Nat.zero_le _, hrow, by omega, by simp [maxLen]; omega, by simpa using hcap, by simp⟩⟩
    exact ⟨w, run_append_owned_none (P := P) w 0 t ty e i 1 ht hi _ _ _ hown, by simpa using hrow, Only.refl _ _⟩
  | some a =>
    have hcells : ∀ j u, news[j]? = some u → w.cell? (a.add j) = some u := by
      rcases hr with rfl | ⟨b, off, e', h⟩
      · intro j u hj; simp at hj
      · cases e'
        intro j u hj
        rw [Addr.add_lit]; exact h j u hj
    have h := run_append_room (P := P) w t ty e i ht hi g n cap vs.toArray hrow a m c news (by rw [hz1]; omega) hcells h1 hfit (by rw [hz1]; simp; omega)
    refine ⟨_, h, ?_, Only.setRow _ _ _⟩
    rw [hz1, Nat.mul_one, hm]
    exact hrow.setRow _

theorem Rd.cells {w : World} {a : Addr} {vs : List Value} (h : Rd w (some a) vs) : ∀ j u, vs[j]? = some u → w.cell? (a.add j) = some u := by
  rcases h with rfl | ⟨b, off, e', h⟩
  · intro j u hj; simp at hj
  · cases e'
    intro j u hj
    rw [Addr.add_lit]; exact h j u hj

theorem Row.newOf (w : World) (e : TypeId) (c : Array Value) (vs : List Value) (h : c.toList = vs) : Row (w.alloc (.cells c e)) w.heap.size e vs := by
  subst h
  exact Row.new w e c.toList

/-- append where there is no room: from whatever slice, into a new block -/
theorem append_new {P : Program} (w : World) {t ty e : TypeId} {z : Value} {bytes n cap m c : Nat} {p q : Option Addr} {vs news : List Value} (ht : P.underlying t = some (.slice e)) (hi : (P.info? e).map (fun i => (i.zero, i.size, i.bytes)) = some (some z, 1, bytes)) (hz : z.cells = #[z])
    (hs : Rd w p vs) (hn : vs.length = n) (hp : p = none → n = 0 ∧ cap = 0) (hr : Rd w q news) (hm : news.length = m) (hq : q = none → m = 0 ∧ c = 0) (hgrow : cap < n + m) (hn2 : n ≤ cap) (hb : (n + m) * bytes ≤ 140737488355328) (h63 : n + m ≤ 9223372036854775807) :
    ∃ g cap' k w', (Builtin.append_ #[t, t] ty #[.slice p n cap, .slice q m c]).run P w = .ok (.slice (some ⟨g, 0, none⟩) (n + m) cap') w' ∧ w.heap.size ≤ g ∧ Row w' g e (vs ++ news ++ List.replicate k z) ∧ n + m + k = cap' ∧ cap' ≤ 9223372036854775807 ∧ Only [] w w' := by
  obtain ⟨i, hi, hz0, hz1, hz2⟩ := info_parts hi
  cases q with
  | none => have := hq rfl; omega
  | some a =>
    have hc := hr.cells
    have hzc : ∀ k, (Builtin.zeroCells z.cells k).toList = List.replicate k z := by
      intro k
      apply List.ext_getElem
      · simp [Builtin.zeroCells, hz]
      · intro j h1 h2
        simp [Builtin.zeroCells, hz, Nat.mod_one]
    have hge : ∀ old, n + m ≤ grownCap w (n + m) old e := fun old => grownCap_ge w (n + m) old e
    have hle : ∀ old, grownCap w (n + m) old e ≤ 9223372036854775807 := fun old => by
      have := grownCap_le_maxLen w (n + m) old e (by simp [maxLen]; omega)
      simpa [maxLen] using this
    cases p with
    | none =>
      obtain ⟨rfl, rfl⟩ := hp rfl
      have hv : vs = [] := List.eq_nil_of_length_eq_zero hn
      subst hv
      have h := run_append_nil (P := P) w t ty e i z ht hi hz0 a m c news (by rw [hz1]; omega) hc (by omega) (by omega) (by rw [hz2]; rw [Nat.zero_add] at hb; omega)
      rw [Nat.zero_add] at *
      refine ⟨_, _, grownCap w m 0 e - m, _, h, Nat.le_refl _, ?_, ?_, hle 0, (Only.drew w).trans0 (Only.alloc _ _)⟩
      · exact Row.newOf w.drew e _ _ (by simp [hzc])
      · have := hge 0; omega
    | some b =>
      have h := run_append_grow (P := P) w t ty e i z ht hi hz0 b n cap vs (by rw [hz1]; omega) hs.cells a m c news (by rw [hz1]; omega) hc hgrow (by omega) (by rw [hz2]; exact growslice_fits hgrow hb)
      refine ⟨_, _, grownCap w (n + m) cap e - (n + m), _, h, Nat.le_refl _, ?_, ?_, hle cap, (Only.drew w).trans0 (Only.alloc _ _)⟩
      · exact Row.newOf w.drew e _ _ (by simp [hzc])
      · have := hge cap; omega

/-- the block of an address, if there is one -/
def blk : Option Addr → List Nat
  | some a => [a.block]
  | none => []
theorem blk_none : blk none = [] := rfl
theorem blk_some (a : Addr) : blk (some a) = [a.block] := rfl

/-- append to an owned slice, its value written out; where its block lies now, how large it is -/
theorem append_owned2 {P : Program} (w : World) {t ty e : TypeId} {z : Value} {bytes base n cap m c : Nat} {p q : Option Addr} {vs news : List Value} (ht : P.underlying t = some (.slice e)) (hi : (P.info? e).map (fun i => (i.zero, i.size, i.bytes)) = some (some z, 1, bytes)) (hz : z.cells = #[z])
    (hown : Own w base e (.slice p n cap) vs) (hr : Rd w q news) (hm : news.length = m) (hq : q = none → m = 0 ∧ c = 0) (h1 : ∀ u ∈ news, u.oneCell' = true) (hb : (n + m) * bytes ≤ 140737488355328) (h63 : n + m ≤ 9223372036854775807) (hbase : base ≤ w.heap.size) :
    ∃ p' cap' w', (Builtin.append_ #[t, t] ty #[.slice p n cap, .slice q m c]).run P w = .ok (.slice p' (n + m) cap') w' ∧ Own w' base e (.slice p' (n + m) cap') (vs ++ news) ∧ Only (blk p) w w' ∧ (p' = p ∧ cap' = cap ∨ (∃ g, p' = some ⟨g, 0, none⟩ ∧ w.heap.size ≤ g) ∧ Only [] w w') := by
  have hnew : cap < n + m → n ≤ cap → (p = none → n = 0 ∧ cap = 0) → vs.length = n → Rd w p vs → ∃ p' cap' w', (Builtin.append_ #[t, t] ty #[.slice p n cap, .slice q m c]).run P w = .ok (.slice p' (n + m) cap') w' ∧ Own w' base e (.slice p' (n + m) cap') (vs ++ news) ∧ Only (blk p) w w' ∧ (p' = p ∧ cap' = cap ∨ (∃ g, p' = some ⟨g, 0, none⟩ ∧ w.heap.size ≤ g) ∧ Only [] w w') := by
    intro hg hn2 hp hl hrd
    obtain ⟨g, cap', k, w', h2, h3, h4, h5, h6, h7⟩ := append_new (P := P) w (t := t) (ty := ty) ht hi hz hrd hl hp hr hm hq hg hn2 hb h63
    have hlen : (vs ++ news).length = n + m := by rw [List.length_append, hl, hm]
    refine ⟨_, cap', w', h2, ?_, h7.mono (by simp), .inr ⟨⟨g, rfl, h3⟩, h7⟩⟩
    have := Own.ofRow (base := base) (vs := vs ++ news) (rest := List.replicate k z) (cap := cap') (by omega) h4 (by rw [List.length_append, hlen]; simp; omega) h6
    rw [hlen] at this
    exact this
  rcases hown.cases with ⟨e1, rfl⟩ | ⟨g, cap', rest, e1, hg, r, hc, hmx⟩
  · cases e1
    by_cases h0 : m = 0
    · subst h0
      have hn : news = [] := List.eq_nil_of_length_eq_zero hm
      subst hn
      obtain ⟨i, hi, _, _, _⟩ := info_parts hi
      cases q with
      | none =>
        obtain ⟨_, rfl⟩ := hq rfl
        exact ⟨none, 0, w, run_append_owned_none (P := P) w base t ty e i 1 ht hi _ 0 [] hown, hown, Only.refl _ _, .inl ⟨rfl, rfl⟩⟩
      | some a =>
        refine ⟨none, 0, w, ?_, hown, Only.refl _ _, .inl ⟨rfl, rfl⟩⟩
        simp [Builtin.append_, run_underlying ht, sizeOf, typeInfo, hi, Builtin.lenOf, Builtin.firstCells, loadCells, loadCellsFrom]
    · exact hnew (by omega) (Nat.le_refl _) (by simp) rfl (Rd.nil _ _)
  · obtain ⟨rfl, rfl, rfl⟩ : p = some ⟨g, 0, none⟩ ∧ n = vs.length ∧ cap = cap' := by simpa using e1
    by_cases hfit : vs.length + m ≤ cap
    · obtain ⟨w', h2, h3, h4⟩ := append_room (P := P) w (n := vs.length) (cap := cap) (t := t) (ty := ty) ht hi r hc hr hm hq h1 hfit hmx
      refine ⟨_, cap, w', h2, ?_, h4, .inl ⟨rfl, rfl⟩⟩
      have hlen : (vs ++ news).length = vs.length + m := by rw [List.length_append, hm]
      have e2 : (vs ++ rest).take vs.length ++ news ++ (vs ++ rest).drop (vs.length + m) = (vs ++ news) ++ rest.drop m := by
        rw [List.take_left, List.drop_append]; simp
      rw [e2] at h3
      have := Own.ofRow (base := base) (vs := vs ++ news) (rest := rest.drop m) (cap := cap) hg h3 (by simp at hc ⊢; omega) hmx
      rw [hlen] at this
      exact this
    · have hrd : Rd w (some ⟨g, 0, none⟩) vs := by
        have := r.rd0.take vs.length
        simpa using this
      exact hnew (by omega) (by simp at hc; omega) (by simp) rfl hrd

theorem append_owned {P : Program} (w : World) {t ty e : TypeId} {z : Value} {bytes base n cap m c : Nat} {p q : Option Addr} {vs news : List Value} (ht : P.underlying t = some (.slice e)) (hi : (P.info? e).map (fun i => (i.zero, i.size, i.bytes)) = some (some z, 1, bytes)) (hz : z.cells = #[z])
    (hown : Own w base e (.slice p n cap) vs) (hr : Rd w q news) (hm : news.length = m) (hq : q = none → m = 0 ∧ c = 0) (h1 : ∀ u ∈ news, u.oneCell' = true) (hb : (n + m) * bytes ≤ 140737488355328) (h63 : n + m ≤ 9223372036854775807) (hbase : base ≤ w.heap.size) :
    ∃ p' cap' w', (Builtin.append_ #[t, t] ty #[.slice p n cap, .slice q m c]).run P w = .ok (.slice p' (n + m) cap') w' ∧ Own w' base e (.slice p' (n + m) cap') (vs ++ news) ∧ Only (blk p) w w' ∧ (p' = p ∨ ∃ g, p' = some ⟨g, 0, none⟩ ∧ w.heap.size ≤ g) := by
  obtain ⟨p', cap', w', h1, h2, h3, h4⟩ := append_owned2 (P := P) w (t := t) (ty := ty) ht hi hz hown hr hm hq h1 hb h63 hbase
  exact ⟨p', cap', w', h1, h2, h3, h4.imp (fun h => h.1) (fun h => h.1)⟩

/-- a cell of an owned slice written -/
theorem Own.set {w : World} {base n c g : Nat} {e : TypeId} {vs : List Value} (h : Own w base e (.slice (some ⟨g, 0, none⟩) n c) vs) {i : Nat} (hi : i < n) (u : Value) :
    w.frozen? ⟨g, i, none⟩ = false ∧ Own (w.setCell ⟨g, i, none⟩ u) base e (.slice (some ⟨g, 0, none⟩) n c) (vs.set i u) := by
  rcases h.cases with ⟨e1, _⟩ | ⟨g', cap, rest, e1, hg, r, hc, hm⟩
  · simp at e1
  · obtain ⟨rfl, rfl, rfl⟩ : g = g' ∧ n = vs.length ∧ c = cap := by simpa using e1
    refine ⟨r.free i, ?_⟩
    have r2 := r.setCell i u
    rw [List.set_append_left _ _ hi] at r2
    have := Own.ofRow (base := base) (vs := vs.set i u) (rest := rest) (cap := c) hg r2 (by simpa using hc) hm
    rwa [List.length_set] at this
theorem Own.cellAt {w : World} {base n c g : Nat} {e : TypeId} {vs : List Value} (h : Own w base e (.slice (some ⟨g, 0, none⟩) n c) vs) {i : Nat} {v : Value} (hv : vs[i]? = some v) : w.cell? ⟨g, i, none⟩ = some v := by
  rcases h.cases with ⟨e1, _⟩ | ⟨g', cap, rest, e1, hg, r, hc, hm⟩
  · simp at e1
  · obtain ⟨rfl, rfl, rfl⟩ : g = g' ∧ n = vs.length ∧ c = cap := by simpa using e1
    exact r.cell (by rw [List.getElem?_append_left (List.getElem?_eq_some_iff.1 hv).1]; exact hv)
/-- a shorter view of the same block -/
theorem Own.short {w : World} {base n m c g : Nat} {e : TypeId} {vs : List Value} (h : Own w base e (.slice (some ⟨g, 0, none⟩) n c) vs) (hm : m ≤ n) : Own w base e (.slice (some ⟨g, 0, none⟩) m c) (vs.take m) := by
  rcases h.cases with ⟨e1, _⟩ | ⟨g', cap, rest, e1, hg, r, hc, hmx⟩
  · simp at e1
  · obtain ⟨rfl, rfl, rfl⟩ : g = g' ∧ n = vs.length ∧ c = cap := by simpa using e1
    have e2 : vs ++ rest = vs.take m ++ (vs.drop m ++ rest) := by rw [← List.append_assoc, List.take_append_drop]
    rw [e2] at r hc
    have := Own.ofRow (base := base) hg r hc hmx
    rwa [List.length_take, Nat.min_eq_left hm] at this

/-- a string's bytes -/
theorem strCells_u8s (xs : List UInt8) : Go.Lib.strCells ⟨xs.toArray⟩ = u8s xs := rfl

/-- append of a string to an owned slice of bytes, its value written out; where its block lies now -/
theorem append_owned_str {P : Program} (w : World) {t u ty e : TypeId} {base n cap m : Nat} {p : Option Addr} {vs : List Value} {xs : List UInt8} (ht : P.underlying t = some (.slice e)) (hu : P.underlying u = some .string) (hi : (P.info? e).map (fun i => (i.zero, i.size, i.bytes)) = some (some (.int .u8 0), 1, 1))
    (hown : Own w base e (.slice p n cap) vs) (hm : xs.length = m) (hb : n + m ≤ 140737488355328) (hbase : base ≤ w.heap.size) :
    ∃ p' cap' w', (Builtin.append_ #[t, u] ty #[.slice p n cap, .string ⟨xs.toArray⟩]).run P w = .ok (.slice p' (n + m) cap') w' ∧ Own w' base e (.slice p' (n + m) cap') (vs ++ u8s xs) ∧ Only (blk p) w w' ∧ (p' = p ∨ ∃ g, p' = some ⟨g, 0, none⟩ ∧ w.heap.size ≤ g) := by
  obtain ⟨i, hi, hz0, hz1, hz2⟩ := info_parts hi
  have hsz : (⟨xs.toArray⟩ : ByteArray).size = m := by rw [← hm]; simp [ByteArray.size]
  generalize hs : (⟨xs.toArray⟩ : ByteArray) = s at hsz ⊢
  have hcl : Go.Lib.strCells s = u8s xs := by rw [← hs]; rfl
  have hul : (u8s xs).length = m := by rw [u8s_length, hm]
  have hz : (Value.int IntKind.u8 0).cells = #[Value.int IntKind.u8 0] := rfl
  have hzc : ∀ k, (Builtin.zeroCells (Value.int IntKind.u8 0).cells k).toList = List.replicate k (.int .u8 0) := by
    intro k
    apply List.ext_getElem
    · simp [Builtin.zeroCells, hz]
    · intro j h1 h2
      simp [Builtin.zeroCells, hz, Nat.mod_one]
  have hge : ∀ old, n + m ≤ grownCap w (n + m) old e := fun old => grownCap_ge w (n + m) old e
  have hle : ∀ old, grownCap w (n + m) old e ≤ 9223372036854775807 := fun old => by
    have := grownCap_le_maxLen w (n + m) old e (by simp [maxLen]; omega)
    simpa [maxLen] using this
  have hnew : ∀ old, ∀ c : Array Value, c.toList = vs ++ u8s xs ++ List.replicate (grownCap w (n + m) old e - (n + m)) (.int .u8 0) → vs.length = n → Own (w.drew.alloc (.cells c e)) base e (.slice (some ⟨w.heap.size, 0, none⟩) (n + m) (grownCap w (n + m) old e)) (vs ++ u8s xs) := by
    intro old c hc hl
    have hlen : (vs ++ u8s xs).length = n + m := by rw [List.length_append, hl, hul]
    have := Own.ofRow (base := base) (g := w.heap.size) (vs := vs ++ u8s xs) (rest := List.replicate (grownCap w (n + m) old e - (n + m)) (.int .u8 0)) (cap := grownCap w (n + m) old e) (by omega) (Row.newOf w.drew e c _ hc) (by rw [List.length_append, hlen]; have := hge old; simp; omega) (hle old)
    rw [hlen] at this
    exact this
  rcases hown.cases with ⟨e1, rfl⟩ | ⟨g, cap', rest, e1, hg, r, hc, hmx⟩
  · cases e1
    by_cases h0 : m = 0
    · subst h0
      have hn : u8s xs = [] := List.eq_nil_of_length_eq_zero hul
      refine ⟨none, 0, w, ?_, by rw [hn]; exact hown, Only.refl _ _, .inl rfl⟩
      have hf := Go.Lib.run_firstCells_string (P := P) w 1 s
      rw [hsz, hcl, hn] at hf
      simp [Builtin.append_, run_underlying ht, run_underlying hu, sizeOf, typeInfo, hi, hz1, Builtin.lenOf, hsz, hf]
    · have h := run_append_nil_string (P := P) w t u ty e i (.int .u8 0) ht hu hi hz0 s (by omega) (by omega) (by rw [hz2]; omega)
      rw [hsz] at h
      rw [Nat.zero_add] at hle hge hnew ⊢
      refine ⟨_, _, _, h, hnew 0 _ ?_ rfl, (Only.drew w).trans0 (Only.alloc _ _) |>.mono (by simp), .inr ⟨_, rfl, Nat.le_refl _⟩⟩
      rw [Array.toList_append, hzc, Array.toList_map]
      rw [← hcl]; rfl
  · obtain ⟨rfl, rfl, rfl⟩ : p = some ⟨g, 0, none⟩ ∧ n = vs.length ∧ cap = cap' := by simpa using e1
    by_cases hfit : vs.length + m ≤ cap
    · have h := Go.Lib.run_append_room_string (P := P) w t u ty e i ht hu hi hz1 g vs.length cap (vs ++ rest).toArray r s (by omega) (by simp at hc ⊢; omega)
      rw [hsz, hcl] at h
      refine ⟨_, cap, _, h, ?_, Only.setRow _ _ _, .inl rfl⟩
      have hlen : (vs ++ u8s xs).length = vs.length + m := by rw [List.length_append, hul]
      have e2 : (vs ++ rest).take vs.length ++ u8s xs ++ (vs ++ rest).drop (vs.length + m) = (vs ++ u8s xs) ++ rest.drop m := by
        rw [List.take_left, List.drop_append]; simp
      have h3 := r.setRow ((vs ++ u8s xs) ++ rest.drop m)
      rw [← e2] at h3
      have h4 := Own.ofRow (base := base) (vs := vs ++ u8s xs) (rest := rest.drop m) (cap := cap) hg (by rw [← e2]; exact h3) (by simp at hc ⊢; omega) hmx
      rw [hlen] at h4
      exact h4
    · have hrd : Rd w (some ⟨g, 0, none⟩) vs := by
        have := r.rd0.take vs.length
        simpa using this
      have h := Go.Lib.run_append_grow_string (P := P) w t u ty e i (.int .u8 0) ht hu hi hz0 ⟨g, 0, none⟩ vs.length cap vs (by rw [hz1]; omega) hrd.cells s (by omega) (by omega) (by rw [hz2]; exact growslice_fits (by omega) (by omega))
      rw [hsz] at h
      refine ⟨_, _, _, h, hnew cap _ ?_ rfl, (Only.drew w).trans0 (Only.alloc _ _) |>.mono (by simp), .inr ⟨_, rfl, Nat.le_refl _⟩⟩
      rw [Array.toList_append, hzc, Array.toList_append, hcl]

/-- a new block, some of it marked as fast -/
theorem Rd.newMark (w : World) (e : TypeId) (vs : List Value) (fr : Nat × Nat) : Rd (w.alloc (.cells vs.toArray e fr)) (some ⟨w.heap.size, 0, none⟩) vs :=
  .inr ⟨w.heap.size, 0, rfl, fun j v hv => by
    rw [show (0 + j) = j from Nat.zero_add j]
    rw [World.cell?_alloc_mark w vs.toArray e fr j]; simpa using hv⟩

/-- the walk's step at an append whose run is known -/
theorem wpl_append {P : Program} {ops : Array Oper} {rest : List Oper} {o : Oper} {a : Act} {Q : Exit → Act → World → Prop} {w w' : World} {s x : Operand} {t t' : TypeId} {sv xv v : Value} (hg : o.guard = none)
    (ho : o.op = .call { callee := .builtin .append, args := #[s, x], argTypes := #[t, t'] }) (hs : a.eval s = sv) (hx : a.eval x = xv)
    (hr : (Builtin.append_ #[t, t'] o.type #[sv, xv]).run P w = .ok v w') (h : wpList P ops Q rest (a.put o.dst v) w') : wpList P ops Q (o :: rest) a w :=
  wpList_plain hg fun K hK => by
    unfold Oper.wp execOp
    simp only [ho, resolve, invoke, builtin, Sem.run_bind, Sem.run_pure, Result.andThen_ok, List.map_toArray, List.map_cons, List.map_nil, hs, hx, hr]
    exact hK _ _ h
end Go.Proofs.YtfoplbolbjcggaaDoor
