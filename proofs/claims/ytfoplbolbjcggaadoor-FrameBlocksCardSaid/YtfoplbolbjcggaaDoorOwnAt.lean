/- Slices that a call owns and that begin anywhere in their block (behind 'x = x[k:]'): appended to, cut. Over any program. -/
import Derived.Test.YtfoplbolbjcggaaDoorOwn
import Derived.Laws.IdiomCopy
import Derived.Deep.AppendSrc
set_option linter.unusedVariables false
set_option maxRecDepth 100000
namespace Go.Proofs.YtfoplbolbjcggaaDoor
open Go.RowKit

theorem Row.setCells {g : Nat} {e : TypeId} : ∀ (vs : List Value) (o : Nat) {w : World} {us : List Value}, Row w g e us → o + vs.length ≤ us.length → Row (w.setCells g o vs) g e (us.take o ++ vs ++ us.drop (o + vs.length))
  | [], o, w, us, h, _ => by
    simp only [World.setCells, List.length_nil, Nat.add_zero, List.append_nil, List.take_append_drop]
    exact h
  | v :: r, o, w, us, h, hl => by
    simp only [List.length_cons] at hl
    have h2 := Row.setCells r (o + 1) (h.setCell o v) (by rw [List.length_set]; omega)
    simp only [World.setCells]
    have e2 : (us.set o v).take (o + 1) ++ r ++ (us.set o v).drop (o + 1 + r.length) = us.take o ++ (v :: r) ++ us.drop (o + (v :: r).length) := by
      rw [List.take_add_one, List.take_set_of_le (by omega), List.getElem?_set_self (by omega), List.drop_set_of_lt (by omega)]
      simp only [Option.toList_some, List.append_assoc, List.cons_append, List.nil_append, List.length_cons]
      congr 4
      omega
    rw [e2] at h2
    exact h2
theorem Only.setCells (g : Nat) : ∀ (vs : List Value) (o : Nat) (w : World), Only [g] w (w.setCells g o vs)
  | [], _, w => Only.refl _ _
  | v :: r, o, w => (Only.setCell w ⟨g, o, none⟩ v).trans (Only.setCells g r (o + 1) _) (fun i hi _ => hi)

/-- the slice at p (n long, room c) holds the cells vs, within a block from 'base' on (or it is nil) -/
def OwnA (w : World) (base : Nat) (e : TypeId) (p : Option Addr) (n c : Nat) (vs : List Value) : Prop :=
  vs.length = n ∧ n ≤ c ∧ c ≤ 9223372036854775807 ∧ ((p = none ∧ c = 0) ∨ ∃ g off us, p = some ⟨g, off, none⟩ ∧ base ≤ g ∧ Row w g e us ∧ off + c ≤ us.length ∧ (us.drop off).take n = vs)
theorem OwnA.nil (w : World) (base : Nat) (e : TypeId) : OwnA w base e none 0 0 [] := ⟨rfl, by omega, by omega, .inl ⟨rfl, rfl⟩⟩
theorem OwnA.ofOwn {w : World} {base : Nat} {e : TypeId} {p : Option Addr} {n c : Nat} {vs : List Value} (h : Own w base e (.slice p n c) vs) : OwnA w base e p n c vs := by
  obtain ⟨_, hl, hp, hnc, hc, _⟩ := h.view
  refine ⟨hl, hnc, hc, ?_⟩
  rcases h.cases with ⟨e1, _⟩ | ⟨g, cap, rest, e1, hg, r, hcap, hm⟩
  · obtain ⟨rfl, -, rfl⟩ : p = none ∧ n = 0 ∧ c = 0 := by simpa using e1
    exact .inl ⟨rfl, rfl⟩
  · obtain ⟨rfl, rfl, rfl⟩ : p = some ⟨g, 0, none⟩ ∧ n = vs.length ∧ c = cap := by simpa using e1
    exact .inr ⟨g, 0, vs ++ rest, rfl, hg, r, by omega, by simp⟩
theorem OwnA.only {S : List Nat} {w w' : World} {base : Nat} {e : TypeId} {p : Option Addr} {n c : Nat} {vs : List Value} (h : OwnA w base e p n c vs) (ho : Only S w w') (hn : ∀ k ∈ blk p, k ∉ S) : OwnA w' base e p n c vs := by
  obtain ⟨h1, h2, h3, h4⟩ := h
  refine ⟨h1, h2, h3, ?_⟩
  rcases h4 with h4 | ⟨g, off, us, rfl, hg, r, hu, ht⟩
  · exact .inl h4
  · exact .inr ⟨g, off, us, rfl, hg, r.only ho (hn g (by simp [blk])), hu, ht⟩
theorem OwnA.only0 {w w' : World} {base : Nat} {e : TypeId} {p : Option Addr} {n c : Nat} {vs : List Value} (h : OwnA w base e p n c vs) (ho : Only [] w w') : OwnA w' base e p n c vs := h.only ho (by simp)
theorem OwnA.lt {w : World} {base : Nat} {e : TypeId} {p : Option Addr} {n c : Nat} {vs : List Value} (h : OwnA w base e p n c vs) : ∀ k ∈ blk p, base ≤ k ∧ k < w.heap.size := by
  rcases h.2.2.2 with ⟨rfl, _⟩ | ⟨g, off, us, rfl, hg, r, hu, ht⟩
  · simp [blk]
  · intro k hk; obtain rfl : k = g := by simpa [blk] using hk
    exact ⟨hg, r.lt⟩
theorem OwnA.rd {w : World} {base : Nat} {e : TypeId} {p : Option Addr} {n c : Nat} {vs : List Value} (h : OwnA w base e p n c vs) : Rd w p vs := by
  obtain ⟨h1, h2, h3, h4⟩ := h
  rcases h4 with ⟨rfl, rfl⟩ | ⟨g, off, us, rfl, hg, r, hu, rfl⟩
  · obtain rfl : n = 0 := by omega
    rw [List.eq_nil_of_length_eq_zero h1]
    exact Rd.nil _ _
  · exact (r.rd off).take n
theorem OwnA.nilp {w : World} {base : Nat} {e : TypeId} {p : Option Addr} {n c : Nat} {vs : List Value} (h : OwnA w base e p n c vs) : p = none → n = 0 ∧ c = 0 := by
  obtain ⟨h1, h2, h3, h4⟩ := h
  rcases h4 with ⟨rfl, rfl⟩ | ⟨g, off, us, rfl, _⟩
  · intro _; omega
  · simp
/-- cut off at the front -/
theorem OwnA.cut {w : World} {base : Nat} {e : TypeId} {p : Option Addr} {n c : Nat} {vs : List Value} (h : OwnA w base e p n c vs) (k : Nat) (hk : k ≤ n) (hk0 : 0 < k) : OwnA w base e (if c = k then p else p.map (·.add k)) (n - k) (c - k) (vs.drop k) ∧ blk (if c = k then p else p.map (·.add k)) = blk p := by
  obtain ⟨h1, h2, h3, h4⟩ := h
  rcases h4 with ⟨rfl, rfl⟩ | ⟨g, off, us, rfl, hg, r, hu, rfl⟩
  · omega
  · by_cases hck : c = k
    · rw [if_pos hck]
      refine ⟨⟨by rw [List.length_drop]; omega, by omega, by omega, .inr ⟨g, off, us, rfl, hg, r, by omega, ?_⟩⟩, rfl⟩
      obtain rfl : n = k := by omega
      rw [Nat.sub_self, List.take_zero, List.drop_eq_nil_of_le (by omega)]
    · rw [if_neg hck]
      refine ⟨⟨by rw [List.length_drop]; omega, by omega, by omega, .inr ⟨g, off + k, us, by simp [Addr.add_lit], hg, r, by omega, ?_⟩⟩, by simp [blk, Addr.add_lit]⟩
      rw [List.drop_take, List.drop_drop]

/-- append to such a slice -/
theorem append_at {P : Program} (w : World) {t ty e : TypeId} {z : Value} {bytes base n cap m c : Nat} {p q : Option Addr} {vs news : List Value} (ht : P.underlying t = some (.slice e)) (hi : (P.info? e).map (fun i => (i.zero, i.size, i.bytes)) = some (some z, 1, bytes)) (hz : z.cells = #[z])
    (hown : OwnA w base e p n cap vs) (hr : Rd w q news) (hm : news.length = m) (hq : q = none → m = 0 ∧ c = 0) (h1 : ∀ u ∈ news, u.oneCell' = true) (hb : (n + m) * bytes ≤ 140737488355328) (h63 : n + m ≤ 9223372036854775807) (hbase : base ≤ w.heap.size) :
    ∃ p' cap' w', (Builtin.append_ #[t, t] ty #[.slice p n cap, .slice q m c]).run P w = .ok (.slice p' (n + m) cap') w' ∧ OwnA w' base e p' (n + m) cap' (vs ++ news) ∧ Only (blk p) w w' ∧ (∀ k ∈ blk p', k ∈ blk p ∨ w.heap.size ≤ k) := by
  by_cases hg : cap < n + m
  · obtain ⟨g, cap', k, w', h2, h3, h4, h5, h6, h7⟩ := append_new (P := P) w (t := t) (ty := ty) ht hi hz hown.rd hown.1 hown.nilp hr hm hq hg hown.2.1 hb h63
    refine ⟨_, cap', w', h2, ⟨by rw [List.length_append, hown.1, hm], by omega, h6, .inr ⟨g, 0, _, rfl, by omega, h4, ?_, ?_⟩⟩, h7.mono (by simp), ?_⟩
    · simp only [List.length_append, List.length_replicate, hown.1, hm]; omega
    · rw [List.drop_zero, List.take_left' (by rw [List.length_append, hown.1, hm])]
    · intro i hi; right; obtain rfl : i = g := by simpa [blk] using hi
      exact h3
  · obtain ⟨i, hii, hz0, hz1, hz2⟩ := info_parts hi
    have hnil : ∀ q' c', m = 0 → Rd w q' [] → (Builtin.append_ #[t, t] ty #[.slice p n cap, .slice q' 0 c']).run P w = .ok (.slice p n cap) w → ∃ p' cap' w', (Builtin.append_ #[t, t] ty #[.slice p n cap, .slice q' 0 c']).run P w = .ok (.slice p' n cap') w' ∧ OwnA w' base e p' n cap' vs ∧ Only (blk p) w w' ∧ (∀ k ∈ blk p', k ∈ blk p ∨ w.heap.size ≤ k) :=
      fun q' c' _ _ hrun => ⟨p, cap, w, hrun, hown, Only.refl _ _, fun k hk => .inl hk⟩
    have hsrc : Src P i.size t (.slice q m c) m news w := by
      cases q with
      | none =>
        obtain ⟨rfl, rfl⟩ := hq rfl
        obtain rfl : news = [] := List.eq_nil_of_length_eq_zero hm
        exact Src.ofNil w ht 0
      | some a => exact Src.ofSlice w ht a m c news (by rw [hz1]; omega) hr.cells h1
    obtain ⟨k1, k2, k3, k4⟩ := hown
    rcases k4 with ⟨rfl, rfl⟩ | ⟨g, off, us, rfl, hgb, r, hu, hvs⟩
    · obtain rfl : m = 0 := by omega
      obtain rfl : n = 0 := by omega
      obtain rfl : news = [] := List.eq_nil_of_length_eq_zero hm
      obtain rfl : vs = [] := List.eq_nil_of_length_eq_zero k1
      refine ⟨none, 0, w, ?_, OwnA.nil _ _ _, Only.refl _ _, by simp [blk]⟩
      have hc := hsrc.cells
      simp [Builtin.append_, run_underlying ht, sizeOf, typeInfo, hii, Builtin.lenOf, hc]
    · have hrun := run_append_room_src (P := P) w t t ty e i ht hii g off n cap (.slice q m c) m news hsrc (by omega) (fun j hj => by
        rw [hz1, Nat.mul_one]
        have hlt : off + n + j < us.length := by omega
        rw [r.cell (List.getElem?_eq_getElem hlt)]; rfl) (fun j hj => r.free _)
      rw [hz1, Nat.mul_one] at hrun
      have hset := Row.setCells news (off + n) r (by omega)
      refine ⟨_, cap, _, hrun, ⟨by rw [List.length_append, k1, hm], by omega, k3, .inr ⟨g, off, _, rfl, hgb, hset, ?_, ?_⟩⟩, (Only.setCells g news (off + n) w).mono (by simp [blk]), fun k hk => .inl hk⟩
      · simp only [List.length_append, List.length_take, List.length_drop]; omega
      · subst hvs
        have hl : (us.take (off + n)).length = off + n := by rw [List.length_take]; omega
        rw [List.append_assoc, List.drop_append_of_le_length (by omega), List.take_append]
        have hl2 : ((us.take (off + n)).drop off).length = n := by rw [List.length_drop, hl]; omega
        rw [List.take_of_length_le (by omega), hl2, show n + m - n = m by omega, List.take_left' hm, List.drop_take, show off + n - off = n by omega]
end Go.Proofs.YtfoplbolbjcggaaDoor
