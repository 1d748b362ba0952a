/- EndsPk, part 3: Own, Regions, OwnK, OwnKAt, RegionO, Region8. -/
import Derived.Test.YtfeglnpmpgipiaaEndsPk01
import Derived.Lib.AppendStr
import Derived.Lib.SlBytesConst
import Derived.Lib.ConvBytes
import Derived.Orders
set_option linter.unusedVariables false
set_option maxRecDepth 100000
section
set_option linter.unusedVariables false
set_option maxRecDepth 100000
namespace Go.Proofs.Ytfeglnpmpgipiaa
open Go.RowKit
def Own (w : World) (base : Nat) (e : TypeId) (v : Value) (vs : List Value) : Prop := w.ownsRow base e 1 v vs.length vs
theorem Own.nil (w : World) (base : Nat) (e : TypeId) : Own w base e (.slice none 0 0) [] := World.ownsRow_nil w base e 1
theorem Own.weaken {w : World} {base base' : Nat} {e : TypeId} {v : Value} {vs : List Value} (h : Own w base e v vs) (hb : base' ≤ base) : Own w base' e v vs := by
 refine ⟨h.1, ?_⟩
 rcases h.2 with h2 | ⟨g, cap, cur, hv, hg, r⟩
 ·exact .inl h2
 ·exact .inr ⟨g, cap, cur, hv, by omega, r⟩
theorem Own.cases {w : World} {base : Nat} {e : TypeId} {v : Value} {vs : List Value} (h : Own w base e v vs) :
  (v = .slice none 0 0 ∧ vs = []) ∨ ∃ g cap rest, v = .slice (some ⟨g, 0, none⟩) vs.length cap ∧ base ≤ g ∧ Row w g e (vs ++ rest) ∧ (vs ++ rest).length = cap ∧ cap ≤ 9223372036854775807 := by
 rcases h.2 with ⟨h1, h2⟩ | ⟨g, cap, cur, rfl, hg, hh, h1, h2, h3, h4⟩
 ·exact .inl ⟨h1, List.eq_nil_of_length_eq_zero h2⟩
 ·right
  rw [Nat.mul_one] at h4 h3; refine ⟨g, cap, cur.toList.drop vs.length, rfl, hg, ?_, ?_, by simpa [maxLen] using h2⟩
  ·unfold Row; rw [hh]
   congr 2
   have e := List.take_append_drop vs.length cur.toList; rw [h4] at e; rw [e]
  ·have e := List.take_append_drop vs.length cur.toList; rw [h4] at e; rw [e]; simpa using h3
theorem Own.ofRow {w : World} {base g cap : Nat} {e : TypeId} {vs rest : List Value} (hg : base ≤ g) (r : Row w g e (vs ++ rest)) (hc : (vs ++ rest).length = cap) (hm : cap ≤ 9223372036854775807) :
  Own w base e (.slice (some ⟨g, 0, none⟩) vs.length cap) vs :=
 ⟨by simp, .inr ⟨g, cap, (vs ++ rest).toArray, rfl, hg, r, by simp at hc; omega, by simp [maxLen]; omega, by simpa using hc, by simp⟩⟩
theorem Own.only {S : List Nat} {w w' : World} {base : Nat} {e : TypeId} {v : Value} {vs : List Value} (h : Own w base e v vs) (ho : Only S w w') (hn : ∀ k, v.ownBlock = some k → k ∉ S) : Own w' base e v vs := by
 refine ⟨h.1, ?_⟩
 rcases h.2 with h2 | ⟨g, cap, cur, rfl, hg, hh, r⟩
 ·exact .inl h2
 ·refine .inr ⟨g, cap, cur, rfl, hg, ?_, r⟩; rw [ho.block g (Array.getElem?_eq_some_iff.1 hh).1 (hn g rfl)]; exact hh
theorem Own.only0 {w w' : World} {base : Nat} {e : TypeId} {v : Value} {vs : List Value} (h : Own w base e v vs) (ho : Only [] w w') : Own w' base e v vs := h.only ho (by simp)
theorem Own.rd {w : World} {base : Nat} {e : TypeId} {v : Value} {vs : List Value} (h : Own w base e v vs) : ∃ p cap, v = .slice p vs.length cap ∧ Rd w p vs ∧ vs.length ≤ cap ∧ cap ≤ 9223372036854775807 ∧ (p = none → vs.length = 0 ∧ cap = 0) ∧ (∀ a, p = some a → base ≤ a.block) := by
 rcases h.cases with ⟨rfl, rfl⟩ | ⟨g, cap, rest, rfl, hg, r, hc, hm⟩
 ·exact ⟨none, 0, rfl, Rd.nil _ _, Nat.le_refl _, by omega, fun _ => ⟨rfl, rfl⟩, by simp⟩
 ·refine ⟨_, cap, rfl, ?_, by simp at hc; omega, hm, by simp, by rintro a ⟨⟩; exact hg⟩; have := r.rd0.take vs.length
  simpa using this
theorem Own.lt {w : World} {base : Nat} {e : TypeId} {v : Value} {vs : List Value} (h : Own w base e v vs) : ∀ k, v.ownBlock = some k → base ≤ k ∧ k < w.heap.size := World.ownsRow.lt h
theorem Own.view {w : World} {base n c : Nat} {e : TypeId} {p : Option Addr} {vs : List Value} (h : Own w base e (.slice p n c) vs) : Rd w p vs ∧ vs.length = n ∧ (p = none → n = 0 ∧ c = 0) ∧ n ≤ c ∧ c ≤ 9223372036854775807 ∧ (∀ a, p = some a → base ≤ a.block ∧ a.block < w.heap.size) := by
 obtain ⟨p1, c1, e1, rd, h1, h2, h3, h4⟩ := h.rd; obtain ⟨rfl, rfl, rfl⟩ : p = p1 ∧ n = vs.length ∧ c = c1 := (by simpa using e1); refine ⟨rd, rfl, h3, h1, h2, fun a ha => ?_⟩; subst ha; exact h.lt _ rfl
theorem Own.at {w : World} {base n c : Nat} {e : TypeId} {p : Option Addr} {vs : List Value} (h : Own w base e (.slice p n c) vs) (hn : 0 < n) : ∃ g, p = some ⟨g, 0, none⟩ ∧ base ≤ g ∧ g < w.heap.size := by
 rcases h.cases with ⟨h1, _⟩ | ⟨g, cap, rest, h1, h2, h3, _⟩
 ·simp at h1; omega
 ·exact ⟨g, by simp at h1; exact h1.1, h2, h3.lt⟩
section
variable {P : Program} (w : World)
end
theorem Only.own {w0 w w' : World} {base : Nat} {e : TypeId} {v : Value} {vs : List Value} (h : Only [] w0 w) (hown : Own w base e v vs) (hb : w0.heap.size ≤ base) (k : Only v.ownBlock.toList w w') : Only [] w0 w' :=
 (h.transN k (fun i hi => by
  cases hv : v.ownBlock with
  | none => rw [hv] at hi; simp at hi
  | some g =>
   rw [hv] at hi
   simp at hi; subst hi
   have := (hown.lt i hv).1
   omega))
theorem append_room {P : Program} (w : World) {t ty e : TypeId} {z : Value} {bytes g n cap m c : Nat} {p : Option Addr} {vs news : List Value} (ht : P.underlying t = some (.slice e)) (hi : (P.info? e).map (fun i => (i.zero, i.size, i.bytes)) = some (some z, 1, bytes))
  (hrow : Row w g e vs) (hcap : vs.length = cap) (hr : Rd w p news) (hm : news.length = m) (hp : p = none → m = 0 ∧ c = 0) (h1 : ∀ u ∈ news, u.oneCell' = true) (hfit : n + m ≤ cap) (h63 : cap ≤ 9223372036854775807) :
  ∃ w', (Builtin.append_ #[t, t] ty #[.slice (some ⟨g, 0, none⟩) n cap, .slice p m c]).run P w = .ok (.slice (some ⟨g, 0, none⟩) (n + m) cap) w' ∧ Row w' g e (vs.take n ++ news ++ vs.drop (n + m)) ∧ Only [g] w w' := by
 obtain ⟨i, hi, hz0, hz1, hz2⟩ := info_parts hi
 cases p with
 | none =>
  obtain ⟨rfl, rfl⟩ := hp rfl; have hn : news = [] := List.eq_nil_of_length_eq_zero hm; subst hn; have hown : w.ownsRow 0 e 1 (.slice (some ⟨g, 0, none⟩) n cap) n (vs.take n) := ⟨by simp; omega, .inr ⟨g, cap, vs.toArray, rfl, Nat.zero_le _, hrow, by omega, by simp [maxLen]; omega, by simpa using hcap, by simp⟩⟩; exact ⟨w, run_append_owned_none (P := P) w 0 t ty e i 1 ht hi _ _ _ hown, by simpa using hrow, Only.refl _ _⟩
 | some a =>
  have hcells : ∀ j u, news[j]? = some u → w.cell? (a.add j) = some u := by
   rcases hr with rfl | ⟨b, off, e', h⟩
   ·intro j u hj; simp at hj
   ·cases e'
    intro j u hj; rw [Addr.add_lit]; exact h j u hj
  have h := run_append_room (P := P) w t ty e i ht hi g n cap vs.toArray hrow a m c news (by rw [hz1]; omega) hcells h1 hfit (by rw [hz1]; simp; omega); refine ⟨_, h, ?_, Only.setRow _ _ _⟩; rw [hz1, Nat.mul_one, hm]; exact hrow.setRow _
theorem Rd.cells {w : World} {a : Addr} {vs : List Value} (h : Rd w (some a) vs) : ∀ j u, vs[j]? = some u → w.cell? (a.add j) = some u := by
 rcases h with rfl | ⟨b, off, e', h⟩
 ·intro j u hj; simp at hj
 ·cases e'
  intro j u hj; rw [Addr.add_lit]; exact h j u hj
theorem Row.newOf (w : World) (e : TypeId) (c : Array Value) (vs : List Value) (h : c.toList = vs) : Row (w.alloc (.cells c e)) w.heap.size e vs := by
 subst h; exact Row.new w e c.toList
theorem append_new {P : Program} (w : World) {t ty e : TypeId} {z : Value} {bytes n cap m c : Nat} {p q : Option Addr} {vs news : List Value} (ht : P.underlying t = some (.slice e)) (hi : (P.info? e).map (fun i => (i.zero, i.size, i.bytes)) = some (some z, 1, bytes)) (hz : z.cells = #[z])
  (hs : Rd w p vs) (hn : vs.length = n) (hp : p = none → n = 0 ∧ cap = 0) (hr : Rd w q news) (hm : news.length = m) (hq : q = none → m = 0 ∧ c = 0) (hgrow : cap < n + m) (hn2 : n ≤ cap) (hb : (n + m) * bytes ≤ 140737488355328) (h63 : n + m ≤ 9223372036854775807) :
  ∃ g cap' k w', (Builtin.append_ #[t, t] ty #[.slice p n cap, .slice q m c]).run P w = .ok (.slice (some ⟨g, 0, none⟩) (n + m) cap') w' ∧ w.heap.size ≤ g ∧ Row w' g e (vs ++ news ++ List.replicate k z) ∧ n + m + k = cap' ∧ cap' ≤ 9223372036854775807 ∧ Only [] w w' := by
 obtain ⟨i, hi, hz0, hz1, hz2⟩ := info_parts hi
 cases q with
 | none => have := hq rfl; omega
 | some a =>
  have hc := hr.cells
  have hzc : ∀ k, (Builtin.zeroCells z.cells k).toList = List.replicate k z := by
   intro k; apply List.ext_getElem
   ·simp [Builtin.zeroCells, hz]
   ·intro j h1 h2
    simp [Builtin.zeroCells, hz, Nat.mod_one]
  have hge : ∀ old, n + m ≤ grownCap w (n + m) old e := fun old => grownCap_ge w (n + m) old e
  have hle : ∀ old, grownCap w (n + m) old e ≤ 9223372036854775807 := fun old => by
   have := grownCap_le_maxLen w (n + m) old e (by simp [maxLen]; omega)
   simpa [maxLen] using this
  cases p with
  | none =>
   obtain ⟨rfl, rfl⟩ := hp rfl; have hv : vs = [] := List.eq_nil_of_length_eq_zero hn; subst hv; have h := run_append_nil (P := P) w t ty e i z ht hi hz0 a m c news (by rw [hz1]; omega) hc (by omega) (by omega) (by rw [hz2]; rw [Nat.zero_add] at hb; omega); rw [Nat.zero_add] at *; refine ⟨_, _, grownCap w m 0 e - m, _, h, Nat.le_refl _, ?_, ?_, hle 0, (Only.drew w).trans0 (Only.alloc _ _)⟩
   ·exact Row.newOf w.drew e _ _ (by simp [hzc])
   ·have := hge 0; omega
  | some b =>
   have h := run_append_grow (P := P) w t ty e i z ht hi hz0 b n cap vs (by rw [hz1]; omega) hs.cells a m c news (by rw [hz1]; omega) hc hgrow (by omega) (by rw [hz2]; exact growslice_fits hgrow hb); refine ⟨_, _, grownCap w (n + m) cap e - (n + m), _, h, Nat.le_refl _, ?_, ?_, hle cap, (Only.drew w).trans0 (Only.alloc _ _)⟩
   ·exact Row.newOf w.drew e _ _ (by simp [hzc])
   ·have := hge cap; omega
def blk : Option Addr → List Nat
 | some a => [a.block]
 | none => []
theorem append_owned2 {P : Program} (w : World) {t ty e : TypeId} {z : Value} {bytes base n cap m c : Nat} {p q : Option Addr} {vs news : List Value} (ht : P.underlying t = some (.slice e)) (hi : (P.info? e).map (fun i => (i.zero, i.size, i.bytes)) = some (some z, 1, bytes)) (hz : z.cells = #[z])
  (hown : Own w base e (.slice p n cap) vs) (hr : Rd w q news) (hm : news.length = m) (hq : q = none → m = 0 ∧ c = 0) (h1 : ∀ u ∈ news, u.oneCell' = true) (hb : (n + m) * bytes ≤ 140737488355328) (h63 : n + m ≤ 9223372036854775807) (hbase : base ≤ w.heap.size) :
  ∃ p' cap' w', (Builtin.append_ #[t, t] ty #[.slice p n cap, .slice q m c]).run P w = .ok (.slice p' (n + m) cap') w' ∧ Own w' base e (.slice p' (n + m) cap') (vs ++ news) ∧ Only (blk p) w w' ∧ (p' = p ∧ cap' = cap ∨ (∃ g, p' = some ⟨g, 0, none⟩ ∧ w.heap.size ≤ g) ∧ Only [] w w') := by
 have hnew : cap < n + m → n ≤ cap → (p = none → n = 0 ∧ cap = 0) → vs.length = n → Rd w p vs → ∃ p' cap' w', (Builtin.append_ #[t, t] ty #[.slice p n cap, .slice q m c]).run P w = .ok (.slice p' (n + m) cap') w' ∧ Own w' base e (.slice p' (n + m) cap') (vs ++ news) ∧ Only (blk p) w w' ∧ (p' = p ∧ cap' = cap ∨ (∃ g, p' = some ⟨g, 0, none⟩ ∧ w.heap.size ≤ g) ∧ Only [] w w') := by
  intro hg hn2 hp hl hrd; obtain ⟨g, cap', k, w', h2, h3, h4, h5, h6, h7⟩ := append_new (P := P) w (t := t) (ty := ty) ht hi hz hrd hl hp hr hm hq hg hn2 hb h63; have hlen : (vs ++ news).length = n + m := (by rw [List.length_append, hl, hm]); refine ⟨_, cap', w', h2, ?_, h7.mono (by simp), .inr ⟨⟨g, rfl, h3⟩, h7⟩⟩; have := Own.ofRow (base := base) (vs := vs ++ news) (rest := List.replicate k z) (cap := cap') (by omega) h4 (by rw [List.length_append, hlen]; simp; omega) h6; rw [hlen] at this; exact this
 rcases hown.cases with ⟨e1, rfl⟩ | ⟨g, cap', rest, e1, hg, r, hc, hmx⟩
 ·cases e1
  by_cases h0 : m = 0
  ·subst h0; have hn : news = [] := List.eq_nil_of_length_eq_zero hm; subst hn; obtain ⟨i, hi, _, _, _⟩ := info_parts hi
   cases q with
   | none =>
    obtain ⟨_, rfl⟩ := hq rfl; exact ⟨none, 0, w, run_append_owned_none (P := P) w base t ty e i 1 ht hi _ 0 [] hown, hown, Only.refl _ _, .inl ⟨rfl, rfl⟩⟩
   | some a =>
    refine ⟨none, 0, w, ?_, hown, Only.refl _ _, .inl ⟨rfl, rfl⟩⟩
    simp [Builtin.append_, run_underlying ht, sizeOf, typeInfo, hi, Builtin.lenOf, Builtin.firstCells, loadCells, loadCellsFrom]
  ·exact hnew (by omega) (Nat.le_refl _) (by simp) rfl (Rd.nil _ _)
 ·obtain ⟨rfl, rfl, rfl⟩ : p = some ⟨g, 0, none⟩ ∧ n = vs.length ∧ cap = cap' := by simpa using e1
  by_cases hfit : vs.length + m ≤ cap
  ·obtain ⟨w', h2, h3, h4⟩ := append_room (P := P) w (n := vs.length) (cap := cap) (t := t) (ty := ty) ht hi r hc hr hm hq h1 hfit hmx; refine ⟨_, cap, w', h2, ?_, h4, .inl ⟨rfl, rfl⟩⟩; have hlen : (vs ++ news).length = vs.length + m := by rw [List.length_append, hm]
   have e2 : (vs ++ rest).take vs.length ++ news ++ (vs ++ rest).drop (vs.length + m) = (vs ++ news) ++ rest.drop m := by
    rw [List.take_left, List.drop_append]; simp
   rw [e2] at h3; have := Own.ofRow (base := base) (vs := vs ++ news) (rest := rest.drop m) (cap := cap) hg h3 (by simp at hc ⊢; omega) hmx; rw [hlen] at this; exact this
  ·have hrd : Rd w (some ⟨g, 0, none⟩) vs := by
    have := r.rd0.take vs.length
    simpa using this
   exact hnew (by omega) (by simp at hc; omega) (by simp) rfl hrd
theorem append_owned {P : Program} (w : World) {t ty e : TypeId} {z : Value} {bytes base n cap m c : Nat} {p q : Option Addr} {vs news : List Value} (ht : P.underlying t = some (.slice e)) (hi : (P.info? e).map (fun i => (i.zero, i.size, i.bytes)) = some (some z, 1, bytes)) (hz : z.cells = #[z])
  (hown : Own w base e (.slice p n cap) vs) (hr : Rd w q news) (hm : news.length = m) (hq : q = none → m = 0 ∧ c = 0) (h1 : ∀ u ∈ news, u.oneCell' = true) (hb : (n + m) * bytes ≤ 140737488355328) (h63 : n + m ≤ 9223372036854775807) (hbase : base ≤ w.heap.size) :
  ∃ p' cap' w', (Builtin.append_ #[t, t] ty #[.slice p n cap, .slice q m c]).run P w = .ok (.slice p' (n + m) cap') w' ∧ Own w' base e (.slice p' (n + m) cap') (vs ++ news) ∧ Only (blk p) w w' ∧ (p' = p ∨ ∃ g, p' = some ⟨g, 0, none⟩ ∧ w.heap.size ≤ g) := by
 obtain ⟨p', cap', w', h1, h2, h3, h4⟩ := append_owned2 (P := P) w (t := t) (ty := ty) ht hi hz hown hr hm hq h1 hb h63 hbase; exact ⟨p', cap', w', h1, h2, h3, h4.imp (fun h => h.1) (fun h => h.1)⟩
theorem Own.set {w : World} {base n c g : Nat} {e : TypeId} {vs : List Value} (h : Own w base e (.slice (some ⟨g, 0, none⟩) n c) vs) {i : Nat} (hi : i < n) (u : Value) :
  w.frozen? ⟨g, i, none⟩ = false ∧ Own (w.setCell ⟨g, i, none⟩ u) base e (.slice (some ⟨g, 0, none⟩) n c) (vs.set i u) := by
 rcases h.cases with ⟨e1, _⟩ | ⟨g', cap, rest, e1, hg, r, hc, hm⟩
 ·simp at e1
 ·obtain ⟨rfl, rfl, rfl⟩ : g = g' ∧ n = vs.length ∧ c = cap := (by simpa using e1); refine ⟨r.free i, ?_⟩; have r2 := r.setCell i u; rw [List.set_append_left _ _ hi] at r2; have := Own.ofRow (base := base) (vs := vs.set i u) (rest := rest) (cap := c) hg r2 (by simpa using hc) hm
  rwa [List.length_set] at this
theorem Own.cellAt {w : World} {base n c g : Nat} {e : TypeId} {vs : List Value} (h : Own w base e (.slice (some ⟨g, 0, none⟩) n c) vs) {i : Nat} {v : Value} (hv : vs[i]? = some v) : w.cell? ⟨g, i, none⟩ = some v := by
 rcases h.cases with ⟨e1, _⟩ | ⟨g', cap, rest, e1, hg, r, hc, hm⟩
 ·simp at e1
 ·obtain ⟨rfl, rfl, rfl⟩ : g = g' ∧ n = vs.length ∧ c = cap := (by simpa using e1); exact r.cell (by rw [List.getElem?_append_left (List.getElem?_eq_some_iff.1 hv).1]; exact hv)
theorem wpl_append {P : Program} {ops : Array Oper} {rest : List Oper} {o : Oper} {a : Act} {Q : Exit → Act → World → Prop} {w w' : World} {s x : Operand} {t t' : TypeId} {sv xv v : Value} (hg : o.guard = none)
  (ho : o.op = .call { callee := .builtin .append, args := #[s, x], argTypes := #[t, t'] }) (hs : a.eval s = sv) (hx : a.eval x = xv)
  (hr : (Builtin.append_ #[t, t'] o.type #[sv, xv]).run P w = .ok v w') (h : wpList P ops Q rest (a.put o.dst v) w') : wpList P ops Q (o :: rest) a w :=
 wpList_plain hg fun K hK => by
  unfold Oper.wp execOp; simp only [ho, resolve, invoke, builtin, Sem.run_bind, Sem.run_pure, Result.andThen_ok, List.map_toArray, List.map_cons, List.map_nil, hs, hx, hr]; exact hK _ _ h
end Go.Proofs.Ytfeglnpmpgipiaa
end
section
set_option linter.unusedVariables false
set_option maxRecDepth 100000
section
namespace Go.Proofs.Ytfeglnpmpgipiaa
open Go.RowKit
section
variable {P : Program} {ops : Array Oper} {R : World → World → Prop} {w0 : World} {a0 : Act}
def Stable (R : World → World → Prop) (S : Value → World → Prop) : Prop := ∀ v w w', S v w → R w w' → S v w'
def factsOf (T : List (Value → World → Prop)) (a0 a : Act) (w : World) : List (Tmp × Option Nat) → Prop
 | [] => True
 | (t, none) :: r => a.tmps.getD t undef = a0.tmps.getD t undef ∧ factsOf T a0 a w r
 | (t, some i) :: r => (T.getD i (fun _ _ => False)) (a.tmps.getD t undef) w ∧ factsOf T a0 a w r
def factsAll (a : Act) (w : World) : List Oper → List (Value → World → Prop) → Prop
 | o :: l, S :: T => (match o.dst with | some d => S (a.tmps.getD d undef) w | none => True) ∧ factsAll a w l T
 | _, _ => True
def RGStep (P : Program) (ops : Array Oper) (R : World → World → Prop) (o : Oper) (S : Value → World → Prop) (a : Act) (w : World) : Prop :=
 if Region.wanted o (yielded ops a.tmps) then o.wp P a w (fun a' w' => ∃ v, a' = a.put o.dst v ∧ S v w' ∧ R w w') (fun _ _ _ => False) else S undef w
def RG (P : Program) (ops : Array Oper) (R : World → World → Prop) (w0 : World) (a0 : Act) (Q : Exit → Act → World → Prop) : List Oper → List (List (Tmp × Option Nat)) → List (Value → World → Prop) → Prop
 | [], _, T => ∀ a w, R w0 w → a.defers = a0.defers → a.tmps.size = a0.tmps.size → (∀ t, (∀ (i : Nat) (o : Oper), ops[i]? = some o → o.dst ≠ some t) → a.tmps.getD t undef = a0.tmps.getD t undef) →
   factsAll a w ops.toList T → Q .normal a w
 | o :: l, fs :: plan, T => ∃ S, Stable R S ∧ (∀ a w, R w0 w → factsOf T a0 a w fs → RGStep P ops R o S a w) ∧ RG P ops R w0 a0 Q l plan (T ++ [S])
 | _ :: _, [], _ => False
def waitsFor (o : Oper) (i : Nat) : Bool := o.after.toList.any fun e => Region.binds .any e && e.on == i
def factOk (ops : Array Oper) (k : Nat) (o : Oper) : Tmp × Option Nat → Bool
 | (t, none) => (List.range ops.size).all fun i => i == k || match ops[i]? with | some x => x.dst != some t || waitsFor x k | none => true
 | (t, some i) => decide (i < k) && waitsFor o i && match ops[i]? with | some x => x.dst == some t | none => false
def planOk (ops : Array Oper) (plan : List (List (Tmp × Option Nat))) : Bool :=
 (plan.length == ops.size) &&
 (List.range ops.size).all fun k => match ops[k]? with
  | some o => (o.after.all fun e => !Region.binds .any e || decide (e.on < k)) &&
    ((plan.getD k []).all (factOk ops k o)) &&
    ((List.range ops.size).all fun i => i == k || match ops[i]? with | some x => x.dst == none || x.dst != o.dst | none => true)
  | none => true
theorem factsOf_prefix {T T' : List (Value → World → Prop)} {a : Act} {w : World} {n : Nat} (hT : T'.take n = T) (hn : T.length = n) : ∀ {fs : List (Tmp × Option Nat)}, (∀ t i, (t, some i) ∈ fs → i < n) →
  factsOf T' a0 a w fs → factsOf T a0 a w fs
 | [], _, h => h
 | (t, none) :: r, hi, h => ⟨h.1, factsOf_prefix hT hn (fun t i hm => hi t i (List.mem_cons_of_mem _ hm)) h.2⟩
 | (t, some i) :: r, hi, h => by
  refine ⟨?_, factsOf_prefix hT hn (fun t i hm => hi t i (List.mem_cons_of_mem _ hm)) h.2⟩; have hlt := hi t i (by simp); have h1 := h.1
  have e : T.getD i (fun _ _ => False) = T'.getD i (fun _ _ => False) := by
   rw [← hT, List.getD_eq_getElem?_getD, List.getD_eq_getElem?_getD, List.getElem?_take, if_pos hlt]
  rw [e]; exact h1
theorem RG_extract {Q : Exit → Act → World → Prop} : ∀ (l : List Oper) (plan : List (List (Tmp × Option Nat))) (T : List (Value → World → Prop)),
  (∀ (k : Nat) fs, plan[k]? = some fs → ∀ t i, (t, some i) ∈ fs → i < T.length + k) → RG P ops R w0 a0 Q l plan T →
  ∃ T', T'.take T.length = T ∧ T'.length = T.length + l.length ∧
   (∀ (k : Nat) o, l[k]? = some o → ∃ fs S, plan[k]? = some fs ∧ T'[T.length + k]? = some S ∧ Stable R S ∧ ∀ a w, R w0 w → factsOf T' a0 a w fs → RGStep P ops R o S a w) ∧
   (∀ a w, R w0 w → a.defers = a0.defers → a.tmps.size = a0.tmps.size → (∀ t, (∀ (i : Nat) (o : Oper), ops[i]? = some o → o.dst ≠ some t) → a.tmps.getD t undef = a0.tmps.getD t undef) →
    factsAll a w ops.toList T' → Q .normal a w)
 | [], _, T, _, h => ⟨T, List.take_length, rfl, fun k o hk => by simp at hk, h⟩
 | o :: l, [], _, _, h => h.elim
 | o :: l, fs :: plan, T, hi, h => by
  obtain ⟨S, hS, hstep, hrest⟩ := h
  obtain ⟨T', h1, h2, h3, h4⟩ := RG_extract l plan (T ++ [S]) (fun k f hf t i hm => by
   have := hi (k + 1) f (by simpa using hf) t i hm
   simp; omega) hrest
  have hlen : (T ++ [S]).length = T.length + 1 := by simp
  have hT : T'.take T.length = T := by
   have := congrArg (List.take T.length) h1; rw [List.take_take, hlen, Nat.min_eq_left (by omega), List.take_left] at this; exact this
  have hS' : T'[T.length]? = some S := by
   have e : (T'.take (T ++ [S]).length)[T.length]? = (T ++ [S])[T.length]? := (by rw [h1]); rw [List.getElem?_take, if_pos (by omega), List.getElem?_append_right (Nat.le_refl _)] at e
   simpa using e
  refine ⟨T', hT, by rw [h2, hlen]; simp; omega, fun k x hk => ?_, h4⟩
  cases k with
  | zero =>
   simp only [List.getElem?_cons_zero, Option.some.injEq] at hk; subst hk; exact ⟨fs, S, rfl, hS', hS, fun a w hR hf => hstep a w hR (factsOf_prefix hT rfl (fun t i hm => by have := hi 0 fs rfl t i hm; omega) hf)⟩
  | succ k =>
   obtain ⟨f, S2, e1, e2, e3, e4⟩ := h3 k x (by simpa using hk); refine ⟨f, S2, by simpa using e1, ?_, e3, e4⟩; rw [hlen, show T.length + 1 + k = T.length + (k + 1) by omega] at e2; exact e2
structure RGInv (ops : Array Oper) (R : World → World → Prop) (w0 : World) (a0 : Act) (T : List (Value → World → Prop)) (listed : Array Bool) (a : Act) (w : World) : Prop where
 later : R w0 w
 defers : a.defers = a0.defers
 size : a.tmps.size = a0.tmps.size
 same : ∀ t, (∀ (i : Nat) (o : Oper), ops[i]? = some o → listed.getD i true = true → o.dst ≠ some t) → a.tmps.getD t undef = a0.tmps.getD t undef
 told : ∀ (i : Nat) (o : Oper) d, ops[i]? = some o → listed.getD i true = true → o.dst = some d → (T.getD i (fun _ _ => False)) (a.tmps.getD d undef) w
 closed : ∀ (i : Nat) (o : Oper) k, ops[i]? = some o → listed.getD i true = true → waitsFor o k = true → listed.getD k true = true
theorem put_tmps (a : Act) (d : Option Tmp) (v : Value) (t : Tmp) (h : d ≠ some t) : (a.put d v).tmps.getD t undef = a.tmps.getD t undef := by
 cases d with
 | none => rfl
 | some d =>
  have : d ≠ t := fun e => h (by rw [e]); simp only [Act.put, Array.getD_eq_getD_getElem?]; rw [Array.getElem?_setIfInBounds_ne this]
theorem put_at (a : Act) (d : Tmp) (v : Value) (h : d < a.tmps.size) : (a.put (some d) v).tmps.getD d undef = v := by
 simp [Act.put, h]
theorem put_size (a : Act) (d : Option Tmp) (v : Value) : (a.put d v).tmps.size = a.tmps.size := by cases d <;> simp [Act.put]
theorem put_defers (a : Act) (d : Option Tmp) (v : Value) : (a.put d v).defers = a.defers := by cases d <;> rfl
theorem Oper.wp_noexit {o : Oper} {a : Act} {w : World} {K K' : Act → World → Prop} {Q : Exit → Act → World → Prop} (h : ∀ a w, K a w → K' a w) (hh : o.wp P a w K (fun _ _ _ => False)) : o.wp P a w K' Q := by
 unfold Oper.wp at *; generalize (execOp a.eval o).run P w = r at *
 cases r with
 | ok n w' =>
  cases n <;> simp only [Oper.upon] at hh ⊢ <;>
   first
    | exact h _ _ hh
    | exact Calls.mono hh (fun e w'' he => by
      cases e with
      | returned v => exact h _ _ he
      | panicked c => exact he.elim
      | outgrown => obtain ⟨_, _, hf⟩ := he; exact hf.elim)
    | exact Rows.mono hh (fun _ _ he => h _ _ he)
 | halt x w' => cases x <;> simp only [Oper.upon] at hh ⊢
variable {T : List (Value → World → Prop)}
theorem filter_set_lt : ∀ (l : List Bool) (k : Nat), l[k]? = some false → ((l.set k true).filter (!·)).length < (l.filter (!·)).length
 | [], _, h => by simp at h
 | b :: l, 0, h => by simp at h; subst h; simp
 | b :: l, k + 1, h => by
  have := filter_set_lt l k (by simpa using h)
  cases b <;> simp [this]
theorem getD_true_set {listed : Array Bool} {k i : Nat} (h : (listed.setIfInBounds k true).getD i true = true) : i = k ∨ listed.getD i true = true := by
 by_cases e : k = i
 ·exact .inl e.symm
 ·right
  rw [Array.getD_eq_getD_getElem?, Array.getElem?_setIfInBounds_ne e] at h; rw [Array.getD_eq_getD_getElem?]; exact h
theorem rg_any {Q : Exit → Act → World → Prop} {plan : List (List (Tmp × Option Nat))} (hplan : planOk ops plan = true) (htrans : ∀ a b c, R a b → R b c → R a c) (hrefl : ∀ w, R w w)
  (hdst : ∀ (i : Nat) (o : Oper) d, ops[i]? = some o → o.dst = some d → d < a0.tmps.size)
  (hstep : ∀ (k : Nat) o, ops[k]? = some o → ∃ S, T[k]? = some S ∧ Stable R S ∧ ∀ a w, R w0 w → factsOf T a0 a w (plan.getD k []) → RGStep P ops R o S a w)
  (hend : ∀ a w, R w0 w → a.defers = a0.defers → a.tmps.size = a0.tmps.size → (∀ t, (∀ (i : Nat) (o : Oper), ops[i]? = some o → o.dst ≠ some t) → a.tmps.getD t undef = a0.tmps.getD t undef) →
   (∀ (i : Nat) (o : Oper) d, ops[i]? = some o → o.dst = some d → (T.getD i (fun _ _ => False)) (a.tmps.getD d undef) w) → Q .normal a w) :
  ∀ (fuel : Nat) (listed : Array Bool) (a : Act) (w : World), listed.size = ops.size → (listed.toList.filter (!·)).length ≤ fuel → RGInv ops R w0 a0 T listed a w → wpAny P .any ops Q fuel listed a w := by
 simp only [planOk, Bool.and_eq_true, beq_iff_eq, List.all_eq_true, List.mem_range] at hplan; obtain ⟨hpl, hpk⟩ := hplan; have hop : ∀ (k : Nat) o, ops[k]? = some o → k < ops.size := fun k o h => (Array.getElem?_eq_some_iff.1 h).1
 have hall : ∀ (k : Nat) o, ops[k]? = some o → (∀ e ∈ o.after, Region.binds .any e = true → e.on < k) ∧ (∀ f ∈ plan.getD k [], factOk ops k o f = true) ∧
   (∀ (i : Nat) x, i ≠ k → ops[i]? = some x → ∀ d, x.dst = some d → o.dst ≠ some d) := by
  intro k o hk; have := hpk k (hop k o hk); simp only [hk, Bool.and_eq_true, List.all_eq_true, List.mem_range, Array.all_eq_true_iff_forall_mem] at this; obtain ⟨⟨h1, h2⟩, h3⟩ := this; refine ⟨fun e he hb => ?_, h2, fun i x hi hx d hd => ?_⟩
  ·have := h1 e he; simp only [hb, Bool.not_true, Bool.false_or, decide_eq_true_eq] at this; exact this
  ·have := h3 i (hop i x hx); simp only [hx, hd, Bool.or_eq_true, beq_iff_eq, hi, false_or, reduceCtorEq, bne_iff_ne, ne_eq] at this; exact fun e => this e.symm
 have hfull : ∀ (listed : Array Bool), listed.size = ops.size → Region.ready .any ops listed = [] → ∀ (i : Nat), listed.getD i true = true := by
  intro listed hs hr i
  induction i using Nat.strongRecOn with
  | _ i ih =>
   rcases Bool.eq_false_or_eq_true (listed.getD i true) with h | h
   ·exact h
   ·exfalso
    have hi : i < ops.size := by
     rcases Nat.lt_or_ge i ops.size with h' | h'
     ·exact h'
     ·rw [Array.getD_eq_getD_getElem?, Array.getElem?_eq_none (by omega)] at h; cases h
    have ho : ops[i]? = some ops[i] := Array.getElem?_eq_getElem hi
    have hm : i ∈ Region.ready .any ops listed := by
     unfold Region.ready; rw [List.mem_filter]; refine ⟨List.mem_range.2 hi, ?_⟩; rw [h, ho]; simp only [Bool.not_false, Bool.true_and, Option.map_some, Option.getD_some, Array.all_eq_true_iff_forall_mem, Bool.or_eq_true, Bool.not_eq_true']; intro e he
     by_cases hb : Region.binds .any e = true
     ·right
      have hlt := (hall i _ ho).1 e he hb; have := ih e.on hlt; rw [Array.getD_eq_getD_getElem?, Array.getElem?_eq_getElem (by omega)] at this ⊢; exact this
     ·left; simpa using hb
    rw [hr] at hm; cases hm
 have hfin : ∀ (listed : Array Bool) (a : Act) (w : World), (∀ (i : Nat), listed.getD i true = true) → RGInv ops R w0 a0 T listed a w → Q .normal a w := fun listed a w hl h =>
  hend a w h.later h.defers h.size (fun t ht => h.same t (fun i o ho _ => ht i o ho)) (fun i o d ho hd => h.told i o d ho (hl i) hd)
 intro fuel
 induction fuel with
 | zero =>
  intro listed a w hs hf h
  have hl : ∀ (i : Nat), listed.getD i true = true := by
   intro i; rw [Array.getD_eq_getD_getElem?]
   cases hi : listed[i]? with
   | none => rfl
   | some b =>
    cases b with
    | true => rfl
    | false =>
     have hm : false ∈ listed.toList.filter (!·) := List.mem_filter.2 ⟨by rw [Array.mem_toList_iff]; exact Array.mem_of_getElem? hi, rfl⟩; have : listed.toList.filter (!·) = [] := List.eq_nil_of_length_eq_zero (by omega); rw [this] at hm; cases hm
  refine ⟨?_, hfin listed a w hl h⟩; unfold Region.ready; apply List.filter_eq_nil_iff.2; intro i _; rw [hl i]; simp
 | succ fuel ih =>
  intro listed a w hs hf h; refine ⟨fun hr => hfin listed a w (hfull listed hs hr) h, fun k hk => ?_⟩; unfold Region.ready at hk; rw [List.mem_filter] at hk; obtain ⟨hk1, hk2⟩ := hk; have hkl : k < ops.size := List.mem_range.1 hk1; have ho : ops[k]? = some ops[k] := Array.getElem?_eq_getElem hkl; generalize ops[k] = o at ho; rw [ho] at hk2; simp only [Bool.and_eq_true, Bool.not_eq_true', Option.map_some, Option.getD_some, Array.all_eq_true_iff_forall_mem, Bool.or_eq_true] at hk2; obtain ⟨hun, haft⟩ := hk2; obtain ⟨hon, hfs, hdd⟩ := hall k o ho; obtain ⟨S, hS, hst, hrun⟩ := hstep k o ho
  have hwait : ∀ i, waitsFor o i = true → listed.getD i true = true := by
   intro i hw; simp only [waitsFor, List.any_eq_true, Bool.and_eq_true, beq_iff_eq] at hw; obtain ⟨e, he, hb, rfl⟩ := hw; rw [Array.mem_toList_iff] at he; have h1 := haft e he; rw [hb] at h1; have h2 : listed.getD e.on false = true := (by simpa using h1); have h3 := hon e he hb; rw [Array.getD_eq_getD_getElem?, Array.getElem?_eq_getElem (by omega)] at h2 ⊢; exact h2
  have hfacts : ∀ fs, (∀ f ∈ fs, factOk ops k o f = true) → factsOf T a0 a w fs := by
   intro fs
   induction fs with
   | nil => intro _; exact trivial
   | cons f fs ihf =>
    intro hf; have hrest := ihf (fun g hg => hf g (List.mem_cons_of_mem _ hg)); have hf0 := hf f (by simp); obtain ⟨t, x⟩ := f
    cases x with
    | none =>
     refine ⟨h.same t (fun i x hx hl hd => ?_), hrest⟩; simp only [factOk, List.all_eq_true, List.mem_range] at hf0; have h1 := hf0 i (hop i x hx); have hik : i ≠ k := (by rintro rfl; rw [hun] at hl; cases hl); simp only [hx, hd, Bool.or_eq_true, beq_iff_eq, hik, false_or, bne_self_eq_false, Bool.false_eq_true] at h1; have := h.closed i x k hx hl h1; rw [hun] at this; cases this
    | some i =>
     simp only [factOk, Bool.and_eq_true, decide_eq_true_eq] at hf0; obtain ⟨⟨_, hw⟩, hd⟩ := hf0
     cases hx : ops[i]? with
     | none => rw [hx] at hd; cases hd
     | some x =>
      rw [hx] at hd; exact ⟨h.told i x t hx (hwait i hw) (by simpa using hd), hrest⟩
  have hgo := hrun a w h.later (hfacts _ hfs)
  have hnext : ∀ v w', S v w' → R w w' → wpAny P .any ops Q fuel (listed.setIfInBounds k true) (a.put o.dst v) w' := by
   intro v w' hv hR; have hks : k < listed.size := (by omega); refine ih _ _ _ (by simpa using hs) ?_ ⟨htrans _ _ _ h.later hR, by rw [put_defers, h.defers], by rw [put_size, h.size], ?_, ?_, ?_⟩
   ·have hlt : ((listed.setIfInBounds k true).toList.filter (!·)).length < (listed.toList.filter (!·)).length := by
     have hk2 : listed.toList[k]? = some false := by
      rw [Array.getD_eq_getD_getElem?, Array.getElem?_eq_getElem hks] at hun; simp only [Option.getD_some] at hun; rw [Array.getElem?_toList, Array.getElem?_eq_getElem hks, hun]
     rw [Array.toList_setIfInBounds]; exact filter_set_lt _ _ hk2
    omega
   ·intro t ht; have h1 : o.dst ≠ some t := ht k o ho (by rw [Array.getD_eq_getD_getElem?, Array.getElem?_setIfInBounds_self_of_lt hks]; rfl); rw [put_tmps _ _ _ _ h1]; refine h.same t (fun i x hx hl => ht i x hx ?_)
    by_cases e : k = i
    ·subst e; rw [Array.getD_eq_getD_getElem?, Array.getElem?_setIfInBounds_self_of_lt hks]; rfl
    ·rw [Array.getD_eq_getD_getElem?, Array.getElem?_setIfInBounds_ne e, ← Array.getD_eq_getD_getElem?]; exact hl
   ·intro i x d hx hl hd
    rcases getD_true_set hl with rfl | hl2
    ·rw [ho] at hx; cases hx; rw [hd, put_at _ _ _ (by rw [h.size]; exact hdst i o d ho hd)]; rw [List.getD_eq_getElem?_getD, hS]; exact hv
    ·have hik : i ≠ k := (by rintro rfl; rw [hun] at hl2; cases hl2); rw [put_tmps _ _ _ _ (hdd i x hik hx d hd)]; have h1 := h.told i x d hx hl2 hd; obtain ⟨S', hS', hst', _⟩ := hstep i x hx; rw [List.getD_eq_getElem?_getD, hS'] at h1 ⊢; exact hst' _ _ _ h1 hR
   ·intro i x j hx hl hw
    rcases getD_true_set hl with rfl | hl2
    ·rw [ho] at hx; cases hx; have := hwait j hw
     by_cases e : i = j
     ·subst e; rw [Array.getD_eq_getD_getElem?, Array.getElem?_setIfInBounds_self_of_lt hks]; rfl
     ·rw [Array.getD_eq_getD_getElem?, Array.getElem?_setIfInBounds_ne e, ← Array.getD_eq_getD_getElem?]; exact this
    ·have := h.closed i x j hx hl2 hw
     by_cases e : k = j
     ·subst e; rw [Array.getD_eq_getD_getElem?, Array.getElem?_setIfInBounds_self_of_lt hks]; rfl
     ·rw [Array.getD_eq_getD_getElem?, Array.getElem?_setIfInBounds_ne e, ← Array.getD_eq_getD_getElem?]; exact this
  unfold wpOp; rw [ho]; unfold RGStep at hgo; dsimp only
  split
  ·rename_i hw
   rw [if_pos hw] at hgo; exact .inl (Oper.wp_noexit (fun a' w' ⟨v, e, hv, hR⟩ => by rw [e]; exact hnext v w' hv hR) hgo)
  ·rename_i hw
   rw [if_neg hw] at hgo; exact hnext undef w hgo (hrefl w)
theorem told_all {a : Act} {w : World} : ∀ (l : List Oper) (T : List (Value → World → Prop)) (n : Nat), (∀ (i : Nat) (o : Oper) d, l[i]? = some o → o.dst = some d → (T.getD i (fun _ _ => False)) (a.tmps.getD d undef) w) → l.length = n → T.length = n → factsAll a w l T
 | [], _, _, _, _, _ => trivial
 | _ :: _, [], _, _, h1, h2 => by simp at h2; subst h2; simp at h1
 | o :: l, S :: T, n, h, h1, h2 => by
  refine ⟨?_, told_all l T (n - 1) (fun i x d hx hd => by have := h (i + 1) x d (by simpa using hx) hd; simpa using this) (by simp at h1; omega) (by simp at h2; omega)⟩
  cases hd : o.dst with
  | none => trivial
  | some d => simpa using h 0 o d rfl hd
theorem wp_region_rg {id : Nat} {Q : Exit → Act → World → Prop} {l : List Oper} (R : World → World → Prop) (plan : List (List (Tmp × Option Nat))) (hplan : planOk l.toArray plan = true)
  (hm : P.follows .mixedOrders = true) (hrefl : ∀ w, R w w) (htrans : ∀ a b c, R a b → R b c → R a c) (hdrew : R w0 w0.drew)
  (hdst : (l.all fun o => match o.dst with | some d => decide (d < a0.tmps.size) | none => true) = true)
  (h : RG P l.toArray R w0 a0 Q l plan []) : (Code.region id l.toArray true).wp P Q a0 w0 := by
 refine wp_region_any hm ?_; have hp := hplan; simp only [planOk, Bool.and_eq_true, beq_iff_eq, List.all_eq_true, List.mem_range] at hp; obtain ⟨hpl, hpk⟩ := hp; have hop : ∀ (k : Nat) o, l.toArray[k]? = some o → k < l.toArray.size := fun k o h => (Array.getElem?_eq_some_iff.1 h).1
 obtain ⟨T, h1, h2, h3, h4⟩ := RG_extract l plan [] (fun k fs hk t i hm' => by
  have hk' : k < plan.length := (List.getElem?_eq_some_iff.1 hk).1; have := hpk k (by rw [← hpl]; exact hk'); rw [hpl] at hk'; rw [Array.getElem?_eq_getElem hk'] at this; simp only [Bool.and_eq_true, List.all_eq_true] at this; have := this.1.2 (t, some i) (by rw [List.getD_eq_getElem?_getD, hk]; exact hm'); simp only [factOk, Bool.and_eq_true, decide_eq_true_eq] at this
  simpa using this.1.1) h
 simp only [List.length_nil, Nat.zero_add] at h2 h3; refine rg_any (T := T) (R := R) (w0 := w0) (a0 := a0) hplan htrans hrefl ?_ ?_ ?_ _ _ _ _ (by simp) (by simp) ?_
 ·intro i o d ho hd
  have hm' : o ∈ l := by
   have : o ∈ l.toArray := Array.mem_of_getElem? ho
   simpa using this
  have := List.all_eq_true.1 hdst o hm'; rw [hd] at this
  simpa using this
 ·intro k o ho; obtain ⟨fs, S, e1, e2, e3, e4⟩ := h3 k o (by simpa using ho); exact ⟨S, e2, e3, by rw [List.getD_eq_getElem?_getD, e1]; exact e4⟩
 ·intro a w hR hd hs hsame htold; exact h4 a w hR hd hs hsame (told_all l.toArray.toList T l.length (fun i o d ho hd => htold i o d (by simpa using ho) hd) (by simp) h2)
 ·refine ⟨hdrew, rfl, rfl, fun _ _ => rfl, fun i o d ho hl _ => ?_, fun i o k ho hl _ => ?_⟩
  ·have := hop i o ho; simp only [List.size_toArray] at this
   simp [this] at hl
  ·have := hop i o ho; simp only [List.size_toArray] at this
   simp [this] at hl
def back (n : Nat) (fs : List (Tmp × Option Nat)) : List (Tmp × Option Nat) := fs.map fun x => (x.1, x.2.map fun d => n - 1 - d)
def backs : Nat → List (List (Tmp × Option Nat)) → List (List (Tmp × Option Nat))
 | _, [] => []
 | n, fs :: plan => back n fs :: backs (n + 1) plan
def nearOk : Nat → List (List (Tmp × Option Nat)) → Bool
 | _, [] => true
 | n, fs :: plan => (fs.all fun x => match x.2 with | some d => decide (d < n) | none => true) && nearOk (n + 1) plan
def RG2 (P : Program) (ops : Array Oper) (R : World → World → Prop) (w0 : World) (a0 : Act) (E : List (Value → World → Prop) → Prop) : List Oper → List (List (Tmp × Option Nat)) → List (Value → World → Prop) → Prop
 | [], _, T => E T
 | o :: l, fs :: plan, T => ∃ S, Stable R S ∧ (∀ a w, R w0 w → factsOf T a0 a w fs → RGStep P ops R o S a w) ∧ RG2 P ops R w0 a0 E l plan (S :: T)
 | _ :: _, [], _ => False
theorem getD_rev {α : Type} (T : List α) (x : α) {d : Nat} (h : d < T.length) : T.reverse.getD (T.length - 1 - d) x = T.getD d x := by
 rw [List.getD_eq_getElem?_getD, List.getD_eq_getElem?_getD, List.getElem?_reverse (by omega)]
 congr 2; omega
theorem factsOf_back {a : Act} {w : World} (T : List (Value → World → Prop)) : ∀ (fs : List (Tmp × Option Nat)), (fs.all fun x => match x.2 with | some d => decide (d < T.length) | none => true) = true →
  factsOf T.reverse a0 a w (back T.length fs) → factsOf T a0 a w fs
 | [], _, _ => trivial
 | (t, none) :: r, hd, h => ⟨h.1, factsOf_back T r (by simp only [List.all_cons, Bool.and_eq_true] at hd; exact hd.2) h.2⟩
 | (t, some d) :: r, hd, h => by
  simp only [List.all_cons, Bool.and_eq_true, decide_eq_true_eq] at hd; refine ⟨?_, factsOf_back T r hd.2 h.2⟩; have h1 := h.1; rw [getD_rev T _ hd.1] at h1; exact h1
theorem RG_of_RG2 {Q : Exit → Act → World → Prop} {E : List (Value → World → Prop) → Prop}
  (hE : ∀ T, E T → T.length = ops.size → ∀ a w, R w0 w → a.defers = a0.defers → a.tmps.size = a0.tmps.size → (∀ t, (∀ (i : Nat) (o : Oper), ops[i]? = some o → o.dst ≠ some t) → a.tmps.getD t undef = a0.tmps.getD t undef) →
   factsAll a w ops.toList T.reverse → Q .normal a w) :
  ∀ (l : List Oper) (plan : List (List (Tmp × Option Nat))) (T : List (Value → World → Prop)), T.length + l.length = ops.size → nearOk T.length plan = true →
   RG2 P ops R w0 a0 E l plan T → RG P ops R w0 a0 Q l (backs T.length plan) T.reverse
 | [], plan, T, hl, _, h => by
  cases plan <;> exact hE T h (by simpa using hl)
 | o :: l, [], _, _, _, h => h.elim
 | o :: l, fs :: plan, T, hl, hn, h => by
  obtain ⟨S, h1, h2, h3⟩ := h; simp only [nearOk, Bool.and_eq_true] at hn; have := RG_of_RG2 hE l plan (S :: T) (by simp only [List.length_cons] at hl ⊢; omega) (by simpa using hn.2) h3; rw [List.reverse_cons, List.length_cons] at this; exact ⟨S, h1, fun a w hR hf => h2 a w hR (factsOf_back T fs hn.1 hf), this⟩
def mergeT : List (Option Tmp) → List Value → (Tmp → Value) → List Value
 | none :: m, v :: L, f => v :: mergeT m L f
 | some t :: m, _ :: L, f => f t :: mergeT m L f
 | _, _, _ => []
def maskOk (l : List Oper) : Nat → List (Option Tmp) → Bool
 | _, [] => true
 | n, none :: m => (l.all fun o => o.dst != some n) && maskOk l (n + 1) m
 | n, some t :: m => t == n && maskOk l (n + 1) m
def factsE (T : List (Value → World → Prop)) (f : Tmp → Value) (w : World) : List (Tmp × Nat) → Prop
 | [] => True
 | (t, d) :: r => (T.getD d (fun _ _ => False)) (f t) w ∧ factsE T f w r
def endOk (l : List Oper) (fs : List (Tmp × Nat)) : Bool := fs.all fun x => decide (x.2 < l.length) && match l[l.length - 1 - x.2]? with | some o => o.dst == some x.1 | none => false
theorem merge_is {l : List Oper} {a : Act} : ∀ (m : List (Option Tmp)) (L pre : List Value), maskOk l pre.length m = true → m.length = L.length → (pre ++ L).length = a.tmps.size →
  (∀ t, (∀ (i : Nat) (o : Oper), l[i]? = some o → o.dst ≠ some t) → a.tmps.getD t undef = (pre ++ L).getD t undef) → (mergeT m L fun t => a.tmps.getD t undef) = a.tmps.toList.drop pre.length
 | [], [], pre, _, _, h, _ => by
  simp only [List.append_nil] at h; rw [List.drop_of_length_le (by simp; omega)]; rfl
 | [], _ :: _, _, _, h, _, _ => by simp at h
 | _ :: _, [], _, _, h, _, _ => by simp at h
 | x :: m, v :: L, pre, hm, hl, hs, hsame => by
  have hlt : pre.length < a.tmps.toList.length := by simp at hs ⊢; omega
  have ih : ∀ u, maskOk l (pre ++ [u]).length m = true → (∀ t, (∀ (i : Nat) (o : Oper), l[i]? = some o → o.dst ≠ some t) → a.tmps.getD t undef = ((pre ++ [u]) ++ L).getD t undef) →
    (mergeT m L fun t => a.tmps.getD t undef) = a.tmps.toList.drop (pre.length + 1) := fun u h1 h2 => by
   have := merge_is m L (pre ++ [u]) h1 (by simpa using hl) (by simp at hs ⊢; omega) h2
   simpa using this
  have hat : a.tmps.getD pre.length undef = a.tmps.toList[pre.length] := by
   rw [Array.getD_eq_getD_getElem?, ← Array.getElem?_toList, List.getElem?_eq_getElem hlt]; rfl
  rw [List.drop_eq_getElem_cons hlt]
  cases x with
  | none =>
   simp only [maskOk, Bool.and_eq_true, List.all_eq_true, bne_iff_ne, ne_eq] at hm; have h0 := hsame pre.length (fun i o ho => hm.1 o (List.mem_of_getElem? ho)); simp only [mergeT]; rw [ih v (by simpa using hm.2) (fun t ht => by rw [hsame t ht]; simp)]
   congr 1
   rw [← hat, h0, List.getD_eq_getElem?_getD, List.getElem?_append_right (Nat.le_refl _)]
   simp
  | some t =>
   simp only [maskOk, Bool.and_eq_true, beq_iff_eq] at hm; simp only [mergeT]; rw [ih v (by simpa using hm.2) (fun t ht => by rw [hsame t ht]; simp), hm.1, hat]
theorem factsE_of {l : List Oper} {a : Act} {w : World} {T : List (Value → World → Prop)} (hlen : T.length = l.length) (hall : factsAll a w l T.reverse) : ∀ (fs : List (Tmp × Nat)), endOk l fs = true → factsE T (fun t => a.tmps.getD t undef) w fs
 | [], _ => trivial
 | (t, d) :: r, h => by
  simp only [endOk, List.all_cons, Bool.and_eq_true, decide_eq_true_eq] at h; obtain ⟨⟨hd, ho⟩, hr⟩ := h; refine ⟨?_, factsE_of hlen hall r (by simpa [endOk] using hr)⟩
  have key : ∀ (l : List Oper) (T : List (Value → World → Prop)) (k : Nat) o S d, factsAll a w l T → l[k]? = some o → T[k]? = some S → o.dst = some d → S (a.tmps.getD d undef) w := by
   intro l
   induction l with
   | nil => intro T k o S d _ h; simp at h
   | cons x l ih =>
    intro T k o S d hf h1 h2 h3
    cases T with
    | nil => simp at h2
    | cons S' T =>
     cases k with
     | zero =>
      simp only [List.getElem?_cons_zero, Option.some.injEq] at h1 h2; subst h1 h2; have := hf.1; rw [h3] at this; exact this
     | succ k => exact ih T k o S d hf.2 (by simpa using h1) (by simpa using h2) h3
  have hk : l.length - 1 - d < l.length := (by omega); rw [List.getElem?_eq_getElem hk] at ho
  have hS : T.reverse[l.length - 1 - d]? = some T[d] := by
   rw [List.getElem?_reverse (by omega), show T.length - 1 - (l.length - 1 - d) = d by omega, List.getElem?_eq_getElem (by omega)]
  have := key l T.reverse (l.length - 1 - d) _ _ t hall (List.getElem?_eq_getElem hk) hS (by simpa using ho); rw [List.getD_eq_getElem?_getD, List.getElem?_eq_getElem (by omega : d < T.length)]; exact this
theorem wp_region_rg2 {id : Nat} {Q : Exit → Act → World → Prop} {l : List Oper} {L : List Value} {ds : List Deferred} (R : World → World → Prop) (plan : List (List (Tmp × Option Nat))) (fin : List (Tmp × Nat)) (mask : List (Option Tmp))
  (hplan : (planOk l.toArray (backs 0 plan) && nearOk 0 plan && maskOk l 0 mask && endOk l fin) = true) (hmask : mask.length = L.length)
  (hm : P.follows .mixedOrders = true) (hrefl : ∀ w, R w w) (htrans : ∀ a b c, R a b → R b c → R a c) (hdrew : R w0 w0.drew)
  (hdst : (l.all fun o => match o.dst with | some d => decide (d < L.length) | none => true) = true)
  (h : RG2 P l.toArray R w0 ⟨L.toArray, ds⟩ (fun T => ∀ f w, R w0 w → factsE T f w fin → Q .normal ⟨(mergeT mask L f).toArray, ds⟩ w) l plan []) : (Code.region id l.toArray true).wp P Q ⟨L.toArray, ds⟩ w0 := by
 simp only [Bool.and_eq_true] at hplan; obtain ⟨⟨⟨h1, h2⟩, h3⟩, h4⟩ := hplan; refine wp_region_rg R (backs 0 plan) h1 hm hrefl htrans hdrew (by simpa using hdst) ?_; refine RG_of_RG2 (ops := l.toArray) ?_ l plan [] (by simp) h2 h; intro T hE hT a w hR hd hs hsame hall; have hT' : T.length = l.length := (by simpa using hT); have hf := hE _ w hR (factsE_of hT' (by simpa using hall) fin h4)
 have hmerge := merge_is (l := l) (a := a) mask L [] h3 hmask (by simpa using hs.symm) (fun t ht => by
  have := hsame t (fun i o ho => ht i o (by simpa using ho)); rw [this]
  simp [Array.getD_eq_getD_getElem?, List.getD_eq_getElem?_getD])
 rw [hmerge] at hf; simp only [List.length_nil, List.drop_zero] at hf; have e : a = ⟨a.tmps, ds⟩ := (by cases a; simp only at hd; rw [hd]); rw [e]; exact hf
def EV (v : Value) : Value → World → Prop := fun u _ => u = v
theorem EV.stable {R : World → World → Prop} (v : Value) : Stable R (EV v) := fun _ _ _ h _ => h
theorem rg_ev {E : List (Value → World → Prop) → Prop} {o : Oper} {l : List Oper} {fs : List (Tmp × Option Nat)} {plan : List (List (Tmp × Option Nat))} {T : List (Value → World → Prop)} {v : Value}
  (h1 : ∀ a w, R w0 w → factsOf T a0 a w fs → RGStep P ops R o (EV v) a w) (h2 : RG2 P ops R w0 a0 E l plan (EV v :: T)) : RG2 P ops R w0 a0 E (o :: l) (fs :: plan) T := ⟨EV v, EV.stable v, h1, h2⟩
theorem rg_plain {o : Oper} {S : Value → World → Prop} {a : Act} {w : World} (hg : o.guard = none)
  (h : ∀ K : Act → World → Prop, (∀ v w', S v w' → R w w' → K (a.put o.dst v) w') → o.wp P a w K (fun _ _ _ => False)) : RGStep P ops R o S a w := by
 unfold RGStep; rw [if_pos (by simp [Region.wanted, hg])]; exact h _ fun v w' hv hR => ⟨v, rfl, hv, hR⟩
theorem yielded_of {a : Act} {j d : Nat} {b : Bool} (hd : (ops[j]?).bind (·.dst) = some d) (h : a.tmps.getD d undef = .bool b) : yielded ops a.tmps j = some b := by
 unfold yielded; rw [hd]; rw [Array.getD_eq_getD_getElem?] at h
 cases hx : a.tmps[d]? with
 | none => rw [hx] at h; cases h
 | some v => rw [hx] at h; simp only [Option.getD_some] at h; subst h; simp [hx]
theorem rg_want {o : Oper} {S : Value → World → Prop} {a : Act} {w : World} {j : Nat} {want : Bool} {d : Nat} (hg : o.guard = some (j, want)) (hd : (ops[j]?).bind (·.dst) = some d) (hb : a.tmps.getD d undef = .bool want)
  (h : ∀ K : Act → World → Prop, (∀ v w', S v w' → R w w' → K (a.put o.dst v) w') → o.wp P a w K (fun _ _ _ => False)) : RGStep P ops R o S a w := by
 unfold RGStep; rw [if_pos (by simp [Region.wanted, hg, yielded_of hd hb])]; exact h _ fun v w' hv hR => ⟨v, rfl, hv, hR⟩
theorem rg_skip {o : Oper} {a : Act} {w : World} {j : Nat} {want : Bool} {d : Nat} {b : Bool} (hg : o.guard = some (j, want)) (hd : (ops[j]?).bind (·.dst) = some d) (hb : a.tmps.getD d undef = .bool b) (hne : (b == want) = false) : RGStep P ops R o (EV undef) a w := by
 unfold RGStep; rw [if_neg]
 ·rfl
 ·simp only [Region.wanted, hg, yielded_of hd hb]
  cases b <;> cases want <;> simp_all
end
end Go.Proofs.Ytfeglnpmpgipiaa
end
section
namespace Go.Proofs.Ytfeglnpmpgipiaa
open Go.RowKit
def ancStep (ops : Array Oper) (d : Nat) (acc : List Nat) (k : Nat) : List Nat :=
 if (d :: acc).any (fun m => match ops[m]? with | some o => waitsFor o k | none => false) then k :: acc else acc
def ancs (ops : Array Oper) (d : Nat) : List Nat := (List.range d).reverse.foldl (ancStep ops d) []
def before (ops : Array Oper) (dirty : List Nat) (k : Nat) : Bool := dirty.all fun d => d == k || (ancs ops d).contains k
theorem ancs_sound (ops : Array Oper) (d : Nat) (listed : Array Bool) (hd : listed.getD d true = true) (hdl : ∃ o, ops[d]? = some o) (hcl : ∀ (i : Nat) (o : Oper) k, ops[i]? = some o → listed.getD i true = true → waitsFor o k = true → listed.getD k true = true) :
  ∀ k ∈ ancs ops d, listed.getD k true = true := by
 unfold ancs
 suffices H : ∀ (l acc : List Nat), (∀ k ∈ acc, listed.getD k true = true) → ∀ k ∈ l.foldl (ancStep ops d) acc, listed.getD k true = true from H _ [] (by simp)
 intro l
 induction l with
 | nil => intro acc h; exact h
 | cons x l ih =>
  intro acc h; refine ih _ ?_; unfold ancStep
  split
  ·rename_i hany
   intro k hk
   rcases List.mem_cons.1 hk with rfl | hk
   ·obtain ⟨m, hm, hw⟩ := List.any_eq_true.1 hany
    cases ho : ops[m]? with
    | none => rw [ho] at hw; cases hw
    | some o =>
     rw [ho] at hw; refine hcl m o k ho ?_ hw
     rcases List.mem_cons.1 hm with rfl | hm
     ·exact hd
     ·exact h m hm
   ·exact h k hk
  ·exact h
section
variable {P : Program} {ops : Array Oper} {R : World → World → Prop} {C : World → Prop} {dirty : List Nat} {w0 : World} {a0 : Act}
variable {T : List (Value → World → Prop)}
end
end Go.Proofs.Ytfeglnpmpgipiaa
end
section
set_option linter.unusedVariables false
namespace Go.Proofs.Ytfeglnpmpgipiaa
open Go.RowKit
section
variable {P : Program} {ops : Array Oper} {R : World → World → Prop} {Rs : Nat → World → World → Prop} {C : Nat → World → Prop} {dirty : List Nat} {w0 : World} {a0 : Act}
def ahead (ops : Array Oper) (d k : Nat) : Bool := d == k || (ancs ops d).contains k
def Rk4 (ops : Array Oper) (R : World → World → Prop) (Rs : Nat → World → World → Prop) (C : Nat → World → Prop) (dirty : List Nat) (k : Nat) : World → World → Prop := fun w w' => R w w' ∧ Rs k w w' ∧ (∀ d ∈ dirty, d ≠ k → (ancs ops k).contains d = false → C d w → C d w')
def Stands (ops : Array Oper) (Rs : Nat → World → World → Prop) (k : Nat) (S : Value → World → Prop) : Prop := ∀ j, j ≠ k → (ancs ops k).contains j = false → Stable (Rs j) S
theorem Stands.ev {ops : Array Oper} {Rs : Nat → World → World → Prop} {k : Nat} (v : Value) : Stands ops Rs k (EV v) := fun _ _ _ => EV.stable _
def RGD (P : Program) (ops : Array Oper) (R : World → World → Prop) (Rs : Nat → World → World → Prop) (C : Nat → World → Prop) (dirty : List Nat) (w0 : World) (a0 : Act) (Q : Exit → Act → World → Prop) : List Oper → List (List (Tmp × Option Nat)) → List (Value → World → Prop) → Prop
 | [], _, T => ∀ a w, R w0 w → a.defers = a0.defers → a.tmps.size = a0.tmps.size → (∀ t, (∀ (i : Nat) (o : Oper), ops[i]? = some o → o.dst ≠ some t) → a.tmps.getD t undef = a0.tmps.getD t undef) →
   factsAll a w ops.toList T → (∀ S ∈ T, ∃ v, S v w) → Q .normal a w
 | o :: l, fs :: plan, T => ∃ S, Stands ops Rs T.length S ∧ (∀ a w, R w0 w → (∀ d ∈ dirty, ahead ops d T.length = true → C d w) → factsOf T a0 a w fs → RGStep P ops (Rk4 ops R Rs C dirty T.length) o S a w) ∧ RGD P ops R Rs C dirty w0 a0 Q l plan (T ++ [S])
 | _ :: _, [], _ => False
theorem RGD_extract {Q : Exit → Act → World → Prop} : ∀ (l : List Oper) (plan : List (List (Tmp × Option Nat))) (T : List (Value → World → Prop)),
  (∀ (k : Nat) fs, plan[k]? = some fs → ∀ t i, (t, some i) ∈ fs → i < T.length + k) → RGD P ops R Rs C dirty w0 a0 Q l plan T →
  ∃ T', T'.take T.length = T ∧ T'.length = T.length + l.length ∧
   (∀ (k : Nat) o, l[k]? = some o → ∃ fs S, plan[k]? = some fs ∧ T'[T.length + k]? = some S ∧ Stands ops Rs (T.length + k) S ∧ ∀ a w, R w0 w → (∀ d ∈ dirty, ahead ops d (T.length + k) = true → C d w) → factsOf T' a0 a w fs → RGStep P ops (Rk4 ops R Rs C dirty (T.length + k)) o S a w) ∧
   (∀ a w, R w0 w → a.defers = a0.defers → a.tmps.size = a0.tmps.size → (∀ t, (∀ (i : Nat) (o : Oper), ops[i]? = some o → o.dst ≠ some t) → a.tmps.getD t undef = a0.tmps.getD t undef) →
    factsAll a w ops.toList T' → (∀ S ∈ T', ∃ v, S v w) → Q .normal a w)
 | [], _, T, _, h => ⟨T, List.take_length, rfl, fun k o hk => by simp at hk, h⟩
 | o :: l, [], _, _, h => h.elim
 | o :: l, fs :: plan, T, hi, h => by
  obtain ⟨S, hS, hstep, hrest⟩ := h
  obtain ⟨T', h1, h2, h3, h4⟩ := RGD_extract l plan (T ++ [S]) (fun k f hf t i hm => by
   have := hi (k + 1) f (by simpa using hf) t i hm
   simp; omega) hrest
  have hlen : (T ++ [S]).length = T.length + 1 := by simp
  have hT : T'.take T.length = T := by
   have := congrArg (List.take T.length) h1; rw [List.take_take, hlen, Nat.min_eq_left (by omega), List.take_left] at this; exact this
  have hS' : T'[T.length]? = some S := by
   have e : (T'.take (T ++ [S]).length)[T.length]? = (T ++ [S])[T.length]? := (by rw [h1]); rw [List.getElem?_take, if_pos (by omega), List.getElem?_append_right (Nat.le_refl _)] at e
   simpa using e
  refine ⟨T', hT, by rw [h2, hlen]; simp; omega, fun k x hk => ?_, h4⟩
  cases k with
  | zero =>
   simp only [List.getElem?_cons_zero, Option.some.injEq] at hk; subst hk; exact ⟨fs, S, rfl, hS', hS, fun a w hR hC hf => hstep a w hR hC (factsOf_prefix hT rfl (fun t i hm => by have := hi 0 fs rfl t i hm; omega) hf)⟩
  | succ k =>
   obtain ⟨f, S2, e1, e2, e3, e4⟩ := h3 k x (by simpa using hk); have e5 : (T ++ [S]).length + k = T.length + (k + 1) := (by rw [hlen]; omega); rw [e5] at e2 e3 e4; exact ⟨f, S2, by simpa using e1, e2, e3, e4⟩
structure RGDInv (ops : Array Oper) (R : World → World → Prop) (Rs : Nat → World → World → Prop) (C : Nat → World → Prop) (dirty : List Nat) (w0 : World) (a0 : Act) (T : List (Value → World → Prop)) (listed : Array Bool) (a : Act) (w : World) : Prop extends RGInv ops R w0 a0 T listed a w where
 clean : ∀ d ∈ dirty, listed.getD d true = false → C d w
 done : ∀ (i : Nat) (o : Oper), ops[i]? = some o → listed.getD i true = true → ∃ v, (T.getD i (fun _ _ => False)) v w
variable {T : List (Value → World → Prop)}
theorem rgd_any {Q : Exit → Act → World → Prop} {plan : List (List (Tmp × Option Nat))} (hplan : planOk ops plan = true) (htrans : ∀ a b c, R a b → R b c → R a c) (hrefl : ∀ w, R w w) (hsrefl : ∀ k w, Rs k w w)
  (hdst : ∀ (i : Nat) (o : Oper) d, ops[i]? = some o → o.dst = some d → d < a0.tmps.size)
  (hstep : ∀ (k : Nat) o, ops[k]? = some o → ∃ S, T[k]? = some S ∧ Stands ops Rs k S ∧ ∀ a w, R w0 w → (∀ d ∈ dirty, ahead ops d k = true → C d w) → factsOf T a0 a w (plan.getD k []) → RGStep P ops (Rk4 ops R Rs C dirty k) o S a w)
  (hdirty : ∀ d ∈ dirty, d < ops.size)
  (hend : ∀ a w, R w0 w → a.defers = a0.defers → a.tmps.size = a0.tmps.size → (∀ t, (∀ (i : Nat) (o : Oper), ops[i]? = some o → o.dst ≠ some t) → a.tmps.getD t undef = a0.tmps.getD t undef) →
   (∀ (i : Nat) (o : Oper) d, ops[i]? = some o → o.dst = some d → (T.getD i (fun _ _ => False)) (a.tmps.getD d undef) w) → (∀ (i : Nat) (o : Oper), ops[i]? = some o → ∃ v, (T.getD i (fun _ _ => False)) v w) → Q .normal a w) :
  ∀ (fuel : Nat) (listed : Array Bool) (a : Act) (w : World), listed.size = ops.size → (listed.toList.filter (!·)).length ≤ fuel → RGDInv ops R Rs C dirty w0 a0 T listed a w → wpAny P .any ops Q fuel listed a w := by
 simp only [planOk, Bool.and_eq_true, beq_iff_eq, List.all_eq_true, List.mem_range] at hplan; obtain ⟨hpl, hpk⟩ := hplan; have hop : ∀ (k : Nat) o, ops[k]? = some o → k < ops.size := fun k o h => (Array.getElem?_eq_some_iff.1 h).1
 have hall : ∀ (k : Nat) o, ops[k]? = some o → (∀ e ∈ o.after, Region.binds .any e = true → e.on < k) ∧ (∀ f ∈ plan.getD k [], factOk ops k o f = true) ∧
   (∀ (i : Nat) x, i ≠ k → ops[i]? = some x → ∀ d, x.dst = some d → o.dst ≠ some d) := by
  intro k o hk; have := hpk k (hop k o hk); simp only [hk, Bool.and_eq_true, List.all_eq_true, List.mem_range, Array.all_eq_true_iff_forall_mem] at this; obtain ⟨⟨h1, h2⟩, h3⟩ := this; refine ⟨fun e he hb => ?_, h2, fun i x hi hx d hd => ?_⟩
  ·have := h1 e he; simp only [hb, Bool.not_true, Bool.false_or, decide_eq_true_eq] at this; exact this
  ·have := h3 i (hop i x hx); simp only [hx, hd, Bool.or_eq_true, beq_iff_eq, hi, false_or, reduceCtorEq, bne_iff_ne, ne_eq] at this; exact fun e => this e.symm
 have hfull : ∀ (listed : Array Bool), listed.size = ops.size → Region.ready .any ops listed = [] → ∀ (i : Nat), listed.getD i true = true := by
  intro listed hs hr i
  induction i using Nat.strongRecOn with
  | _ i ih =>
   rcases Bool.eq_false_or_eq_true (listed.getD i true) with h | h
   ·exact h
   ·exfalso
    have hi : i < ops.size := by
     rcases Nat.lt_or_ge i ops.size with h' | h'
     ·exact h'
     ·rw [Array.getD_eq_getD_getElem?, Array.getElem?_eq_none (by omega)] at h; cases h
    have ho : ops[i]? = some ops[i] := Array.getElem?_eq_getElem hi
    have hm : i ∈ Region.ready .any ops listed := by
     unfold Region.ready; rw [List.mem_filter]; refine ⟨List.mem_range.2 hi, ?_⟩; rw [h, ho]; simp only [Bool.not_false, Bool.true_and, Option.map_some, Option.getD_some, Array.all_eq_true_iff_forall_mem, Bool.or_eq_true, Bool.not_eq_true']; intro e he
     by_cases hb : Region.binds .any e = true
     ·right
      have hlt := (hall i _ ho).1 e he hb; have := ih e.on hlt; rw [Array.getD_eq_getD_getElem?, Array.getElem?_eq_getElem (by omega)] at this ⊢; exact this
     ·left; simpa using hb
    rw [hr] at hm; cases hm
 have hfin : ∀ (listed : Array Bool) (a : Act) (w : World), (∀ (i : Nat), listed.getD i true = true) → RGDInv ops R Rs C dirty w0 a0 T listed a w → Q .normal a w := fun listed a w hl h =>
  hend a w h.later h.defers h.size (fun t ht => h.same t (fun i o ho _ => ht i o ho)) (fun i o d ho hd => h.told i o d ho (hl i) hd) (fun i o ho => h.done i o ho (hl i))
 intro fuel
 induction fuel with
 | zero =>
  intro listed a w hs hf h
  have hl : ∀ (i : Nat), listed.getD i true = true := by
   intro i; rw [Array.getD_eq_getD_getElem?]
   cases hi : listed[i]? with
   | none => rfl
   | some b =>
    cases b with
    | true => rfl
    | false =>
     have hm : false ∈ listed.toList.filter (!·) := List.mem_filter.2 ⟨by rw [Array.mem_toList_iff]; exact Array.mem_of_getElem? hi, rfl⟩; have : listed.toList.filter (!·) = [] := List.eq_nil_of_length_eq_zero (by omega); rw [this] at hm; cases hm
  refine ⟨?_, hfin listed a w hl h⟩; unfold Region.ready; apply List.filter_eq_nil_iff.2; intro i _; rw [hl i]; simp
 | succ fuel ih =>
  intro listed a w hs hf h; refine ⟨fun hr => hfin listed a w (hfull listed hs hr) h, fun k hk => ?_⟩; unfold Region.ready at hk; rw [List.mem_filter] at hk; obtain ⟨hk1, hk2⟩ := hk; have hkl : k < ops.size := List.mem_range.1 hk1; have ho : ops[k]? = some ops[k] := Array.getElem?_eq_getElem hkl; generalize ops[k] = o at ho; rw [ho] at hk2; simp only [Bool.and_eq_true, Bool.not_eq_true', Option.map_some, Option.getD_some, Array.all_eq_true_iff_forall_mem, Bool.or_eq_true] at hk2; obtain ⟨hun, haft⟩ := hk2; obtain ⟨hon, hfs, hdd⟩ := hall k o ho; obtain ⟨S, hS, hst, hrun⟩ := hstep k o ho
  have hwait : ∀ i, waitsFor o i = true → listed.getD i true = true := by
   intro i hw; simp only [waitsFor, List.any_eq_true, Bool.and_eq_true, beq_iff_eq] at hw; obtain ⟨e, he, hb, rfl⟩ := hw; rw [Array.mem_toList_iff] at he; have h1 := haft e he; rw [hb] at h1; have h2 : listed.getD e.on false = true := (by simpa using h1); have h3 := hon e he hb; rw [Array.getD_eq_getD_getElem?, Array.getElem?_eq_getElem (by omega)] at h2 ⊢; exact h2
  have hfacts : ∀ fs, (∀ f ∈ fs, factOk ops k o f = true) → factsOf T a0 a w fs := by
   intro fs
   induction fs with
   | nil => intro _; exact trivial
   | cons f fs ihf =>
    intro hf; have hrest := ihf (fun g hg => hf g (List.mem_cons_of_mem _ hg)); have hf0 := hf f (by simp); obtain ⟨t, x⟩ := f
    cases x with
    | none =>
     refine ⟨h.same t (fun i x hx hl hd => ?_), hrest⟩; simp only [factOk, List.all_eq_true, List.mem_range] at hf0; have h1 := hf0 i (hop i x hx); have hik : i ≠ k := (by rintro rfl; rw [hun] at hl; cases hl); simp only [hx, hd, Bool.or_eq_true, beq_iff_eq, hik, false_or, bne_self_eq_false, Bool.false_eq_true] at h1; have := h.closed i x k hx hl h1; rw [hun] at this; cases this
    | some i =>
     simp only [factOk, Bool.and_eq_true, decide_eq_true_eq] at hf0; obtain ⟨⟨_, hw⟩, hd⟩ := hf0
     cases hx : ops[i]? with
     | none => rw [hx] at hd; cases hd
     | some x =>
      rw [hx] at hd; exact ⟨h.told i x t hx (hwait i hw) (by simpa using hd), hrest⟩
  have hgo := hrun a w h.later (fun d hd hb => h.clean d hd (by
   rcases Bool.eq_false_or_eq_true (listed.getD d true) with h1 | h1
   ·exfalso
    unfold ahead at hb; rw [Bool.or_eq_true] at hb
    rcases hb with he | h2
    ·obtain rfl : d = k := (by simpa using he); rw [hun] at h1; cases h1
    have h3 := ancs_sound ops d listed h1 ⟨_, Array.getElem?_eq_getElem (hdirty d hd)⟩ h.closed k (by simpa using h2); rw [hun] at h3; cases h3
   ·exact h1)) (hfacts _ hfs)
  have hnext : ∀ v w', S v w' → Rk4 ops R Rs C dirty k w w' → wpAny P .any ops Q fuel (listed.setIfInBounds k true) (a.put o.dst v) w' := by
   intro v w' hv hRk; have hR := hRk.1
   have hstand : ∀ (i : Nat) (x : Oper), ops[i]? = some x → listed.getD i true = true → i ≠ k → ∀ u, (T.getD i (fun _ _ => False)) u w → (T.getD i (fun _ _ => False)) u w' := by
    intro i x hx hl2 hik u h1; obtain ⟨S', hS', hst', _⟩ := hstep i x hx; rw [List.getD_eq_getElem?_getD, hS'] at h1 ⊢; refine hst' k (fun e => hik e.symm) ?_ _ _ _ h1 hRk.2.1
    rcases Bool.eq_false_or_eq_true ((ancs ops i).contains k) with h2 | h2
    ·have h3 := ancs_sound ops i listed hl2 ⟨x, hx⟩ h.closed k (by simpa using h2); rw [hun] at h3; cases h3
    ·exact h2
   have hks : k < listed.size := by omega
   have hclosed : ∀ (i : Nat) (x : Oper) j, ops[i]? = some x → (listed.setIfInBounds k true).getD i true = true → waitsFor x j = true → (listed.setIfInBounds k true).getD j true = true := by
    intro i x j hx hl hw
    rcases getD_true_set hl with rfl | hl2
    ·rw [ho] at hx; cases hx; have := hwait j hw
     by_cases e : i = j
     ·subst e; rw [Array.getD_eq_getD_getElem?, Array.getElem?_setIfInBounds_self_of_lt hks]; rfl
     ·rw [Array.getD_eq_getD_getElem?, Array.getElem?_setIfInBounds_ne e, ← Array.getD_eq_getD_getElem?]; exact this
    ·have := h.closed i x j hx hl2 hw
     by_cases e : k = j
     ·subst e; rw [Array.getD_eq_getD_getElem?, Array.getElem?_setIfInBounds_self_of_lt hks]; rfl
     ·rw [Array.getD_eq_getD_getElem?, Array.getElem?_setIfInBounds_ne e, ← Array.getD_eq_getD_getElem?]; exact this
   refine ih _ _ _ (by simpa using hs) ?_ ⟨⟨htrans _ _ _ h.later hR, by rw [put_defers, h.defers], by rw [put_size, h.size], ?_, ?_, ?_⟩, ?_, ?_⟩
   ·have hlt : ((listed.setIfInBounds k true).toList.filter (!·)).length < (listed.toList.filter (!·)).length := by
     have hk2 : listed.toList[k]? = some false := by
      rw [Array.getD_eq_getD_getElem?, Array.getElem?_eq_getElem hks] at hun; simp only [Option.getD_some] at hun; rw [Array.getElem?_toList, Array.getElem?_eq_getElem hks, hun]
     rw [Array.toList_setIfInBounds]; exact filter_set_lt _ _ hk2
    omega
   ·intro t ht; have h1 : o.dst ≠ some t := ht k o ho (by rw [Array.getD_eq_getD_getElem?, Array.getElem?_setIfInBounds_self_of_lt hks]; rfl); rw [put_tmps _ _ _ _ h1]; refine h.same t (fun i x hx hl => ht i x hx ?_)
    by_cases e : k = i
    ·subst e; rw [Array.getD_eq_getD_getElem?, Array.getElem?_setIfInBounds_self_of_lt hks]; rfl
    ·rw [Array.getD_eq_getD_getElem?, Array.getElem?_setIfInBounds_ne e, ← Array.getD_eq_getD_getElem?]; exact hl
   ·intro i x d hx hl hd
    rcases getD_true_set hl with rfl | hl2
    ·rw [ho] at hx; cases hx; rw [hd, put_at _ _ _ (by rw [h.size]; exact hdst i o d ho hd)]; rw [List.getD_eq_getElem?_getD, hS]; exact hv
    ·have hik : i ≠ k := (by rintro rfl; rw [hun] at hl2; cases hl2); rw [put_tmps _ _ _ _ (hdd i x hik hx d hd)]; exact hstand i x hx hl2 hik _ (h.told i x d hx hl2 hd)
   ·exact hclosed
   ·intro d hd hdl
    have hdk : k ≠ d := by
     rintro rfl; rw [Array.getD_eq_getD_getElem?, Array.getElem?_setIfInBounds_self_of_lt hks] at hdl; cases hdl
    refine hRk.2.2 d hd (fun e => hdk e.symm) ?_ (h.clean d hd ?_)
    ·rcases Bool.eq_false_or_eq_true ((ancs ops k).contains d) with h2 | h2
     ·have h3 := ancs_sound ops k (listed.setIfInBounds k true) (by rw [Array.getD_eq_getD_getElem?, Array.getElem?_setIfInBounds_self_of_lt hks]; rfl) ⟨o, ho⟩ hclosed d (by simpa using h2); rw [hdl] at h3; cases h3
     ·exact h2
    rw [Array.getD_eq_getD_getElem?, Array.getElem?_setIfInBounds_ne hdk, ← Array.getD_eq_getD_getElem?] at hdl; exact hdl
   ·intro i x hx hl
    rcases getD_true_set hl with rfl | hl2
    ·exact ⟨v, by rw [List.getD_eq_getElem?_getD, hS]; exact hv⟩
    ·have hik : i ≠ k := (by rintro rfl; rw [hun] at hl2; cases hl2); obtain ⟨u, hu⟩ := h.done i x hx hl2; exact ⟨u, hstand i x hx hl2 hik u hu⟩
  unfold wpOp; rw [ho]; unfold RGStep at hgo; dsimp only
  split
  ·rename_i hw
   rw [if_pos hw] at hgo; exact .inl (Oper.wp_noexit (fun a' w' ⟨v, e, hv, hR⟩ => by rw [e]; exact hnext v w' hv hR) hgo)
  ·rename_i hw
   rw [if_neg hw] at hgo; exact hnext undef w hgo ⟨hrefl w, hsrefl _ w, fun _ _ _ _ h => h⟩
theorem wp_region_rgd {id : Nat} {Q : Exit → Act → World → Prop} {l : List Oper} (R : World → World → Prop) (Rs : Nat → World → World → Prop) (C : Nat → World → Prop) (dirty : List Nat) (plan : List (List (Tmp × Option Nat))) (hplan : planOk l.toArray plan = true)
  (hm : P.follows .mixedOrders = true) (hrefl : ∀ w, R w w) (htrans : ∀ a b c, R a b → R b c → R a c) (hsrefl : ∀ k w, Rs k w w) (hdrew : R w0 w0.drew) (hclean : ∀ d ∈ dirty, C d w0.drew) (hdirty : (dirty.all fun d => decide (d < l.length)) = true)
  (hdst : (l.all fun o => match o.dst with | some d => decide (d < a0.tmps.size) | none => true) = true)
  (h : RGD P l.toArray R Rs C dirty w0 a0 Q l plan []) : (Code.region id l.toArray true).wp P Q a0 w0 := by
 refine wp_region_any hm ?_; have hp := hplan; simp only [planOk, Bool.and_eq_true, beq_iff_eq, List.all_eq_true, List.mem_range] at hp; obtain ⟨hpl, hpk⟩ := hp; have hop : ∀ (k : Nat) o, l.toArray[k]? = some o → k < l.toArray.size := fun k o h => (Array.getElem?_eq_some_iff.1 h).1
 obtain ⟨T, h1, h2, h3, h4⟩ := RGD_extract l plan [] (fun k fs hk t i hm' => by
  have hk' : k < plan.length := (List.getElem?_eq_some_iff.1 hk).1; have := hpk k (by rw [← hpl]; exact hk'); rw [hpl] at hk'; rw [Array.getElem?_eq_getElem hk'] at this; simp only [Bool.and_eq_true, List.all_eq_true] at this; have := this.1.2 (t, some i) (by rw [List.getD_eq_getElem?_getD, hk]; exact hm'); simp only [factOk, Bool.and_eq_true, decide_eq_true_eq] at this
  simpa using this.1.1) h
 simp only [List.length_nil, Nat.zero_add] at h2 h3; refine rgd_any (T := T) (R := R) (Rs := Rs) (C := C) (dirty := dirty) (w0 := w0) (a0 := a0) hplan htrans hrefl hsrefl ?_ ?_ ?_ ?_ _ _ _ _ (by simp) (by simp) ?_
 ·intro i o d ho hd
  have hm' : o ∈ l := by
   have : o ∈ l.toArray := Array.mem_of_getElem? ho
   simpa using this
  have := List.all_eq_true.1 hdst o hm'; rw [hd] at this
  simpa using this
 ·intro k o ho; obtain ⟨fs, S, e1, e2, e3, e4⟩ := h3 k o (by simpa using ho); exact ⟨S, e2, e3, by rw [List.getD_eq_getElem?_getD, e1]; exact e4⟩
 ·intro d hd
  simpa using List.all_eq_true.1 hdirty d hd
 ·intro a w hR hd hs hsame htold hdone; refine h4 a w hR hd hs hsame ?_ ?_
  rotate_left
  ·intro S hS; obtain ⟨i, hi⟩ := List.getElem?_of_mem hS; have hil : i < l.length := (by have := (List.getElem?_eq_some_iff.1 hi).1; omega); have := hdone i l[i] (by simp [hil]); rw [List.getD_eq_getElem?_getD, hi] at this; exact this
  exact (told_all l.toArray.toList T l.length (fun i o d ho hd => htold i o d (by simpa using ho) hd) (by simp) h2)
 ·refine ⟨⟨hdrew, rfl, rfl, fun _ _ => rfl, fun i o d ho hl _ => ?_, fun i o k ho hl _ => ?_⟩, fun d hd _ => hclean d hd, fun i o ho hl => ?_⟩
  ·have := hop i o ho; simp only [List.size_toArray] at this
   simp [this] at hl
  ·have := hop i o ho; simp only [List.size_toArray] at this
   simp [this] at hl
  ·have := hop i o ho; simp only [List.size_toArray] at this
   simp [this] at hl
def RG2D (P : Program) (ops : Array Oper) (R : World → World → Prop) (Rs : Nat → World → World → Prop) (C : Nat → World → Prop) (dirty : List Nat) (w0 : World) (a0 : Act) (E : List (Value → World → Prop) → Prop) : List Oper → List (List (Tmp × Option Nat)) → List (Value → World → Prop) → Prop
 | [], _, T => E T
 | o :: l, fs :: plan, T => ∃ S, Stands ops Rs T.length S ∧ (∀ a w, R w0 w → (∀ d ∈ dirty, ahead ops d T.length = true → C d w) → factsOf T a0 a w fs → RGStep P ops (Rk4 ops R Rs C dirty T.length) o S a w) ∧ RG2D P ops R Rs C dirty w0 a0 E l plan (S :: T)
 | _ :: _, [], _ => False
theorem RGD_of_RG2D {Q : Exit → Act → World → Prop} {E : List (Value → World → Prop) → Prop}
  (hE : ∀ T, E T → T.length = ops.size → ∀ a w, R w0 w → a.defers = a0.defers → a.tmps.size = a0.tmps.size → (∀ t, (∀ (i : Nat) (o : Oper), ops[i]? = some o → o.dst ≠ some t) → a.tmps.getD t undef = a0.tmps.getD t undef) →
   factsAll a w ops.toList T.reverse → (∀ S ∈ T.reverse, ∃ v, S v w) → Q .normal a w) :
  ∀ (l : List Oper) (plan : List (List (Tmp × Option Nat))) (T : List (Value → World → Prop)), T.length + l.length = ops.size → nearOk T.length plan = true →
   RG2D P ops R Rs C dirty w0 a0 E l plan T → RGD P ops R Rs C dirty w0 a0 Q l (backs T.length plan) T.reverse
 | [], plan, T, hl, _, h => by
  cases plan <;> exact hE T h (by simpa using hl)
 | o :: l, [], _, _, _, h => h.elim
 | o :: l, fs :: plan, T, hl, hn, h => by
  obtain ⟨S, h1, h2, h3⟩ := h; simp only [nearOk, Bool.and_eq_true] at hn; have := RGD_of_RG2D hE l plan (S :: T) (by simp only [List.length_cons] at hl ⊢; omega) (by simpa using hn.2) h3; rw [List.reverse_cons, List.length_cons] at this; refine ⟨S, by rw [List.length_reverse]; exact h1, ?_, this⟩; rw [List.length_reverse]; exact fun a w hR hC hf => h2 a w hR hC (factsOf_back T fs hn.1 hf)
theorem wp_region_rg4 {id : Nat} {Q : Exit → Act → World → Prop} {l : List Oper} {L : List Value} {ds : List Deferred} (R : World → World → Prop) (Rs : Nat → World → World → Prop) (C : Nat → World → Prop) (dirty : List Nat) (plan : List (List (Tmp × Option Nat))) (fin : List (Tmp × Nat)) (mask : List (Option Tmp))
  (hplan : (planOk l.toArray (backs 0 plan) && nearOk 0 plan && maskOk l 0 mask && endOk l fin) = true) (hmask : mask.length = L.length)
  (hm : P.follows .mixedOrders = true) (hrefl : ∀ w, R w w) (htrans : ∀ a b c, R a b → R b c → R a c) (hsrefl : ∀ k w, Rs k w w) (hdrew : R w0 w0.drew) (hclean : ∀ d ∈ dirty, C d w0.drew) (hdirty : (dirty.all fun d => decide (d < l.length)) = true)
  (hdst : (l.all fun o => match o.dst with | some d => decide (d < L.length) | none => true) = true)
  (h : RG2D P l.toArray R Rs C dirty w0 ⟨L.toArray, ds⟩ (fun T => ∀ f w, R w0 w → factsE T f w fin → (∀ S ∈ T, ∃ v, S v w) → Q .normal ⟨(mergeT mask L f).toArray, ds⟩ w) l plan []) : (Code.region id l.toArray true).wp P Q ⟨L.toArray, ds⟩ w0 := by
 simp only [Bool.and_eq_true] at hplan; obtain ⟨⟨⟨h1, h2⟩, h3⟩, h4⟩ := hplan; refine wp_region_rgd R Rs C dirty (backs 0 plan) h1 hm hrefl htrans hsrefl hdrew hclean hdirty (by simpa using hdst) ?_; refine RGD_of_RG2D (ops := l.toArray) ?_ l plan [] (by simp) h2 h; intro T hE hT a w hR hd hs hsame hall hdone; have hT' : T.length = l.length := (by simpa using hT); have hf := hE _ w hR (factsE_of hT' (by simpa using hall) fin h4) (fun S hS => hdone S (List.mem_reverse.2 hS))
 have hmerge := merge_is (l := l) (a := a) mask L [] h3 hmask (by simpa using hs.symm) (fun t ht => by
  have := hsame t (fun i o ho => ht i o (by simpa using ho)); rw [this]
  simp [Array.getD_eq_getD_getElem?, List.getD_eq_getElem?_getD])
 rw [hmerge] at hf; simp only [List.length_nil, List.drop_zero] at hf; have e : a = ⟨a.tmps, ds⟩ := (by cases a; simp only at hd; rw [hd]); rw [e]; exact hf
theorem rgd_ev {E : List (Value → World → Prop) → Prop} {o : Oper} {l : List Oper} {fs : List (Tmp × Option Nat)} {plan : List (List (Tmp × Option Nat))} {T : List (Value → World → Prop)} {v : Value}
  (h1 : ∀ a w, R w0 w → (∀ d ∈ dirty, ahead ops d T.length = true → C d w) → factsOf T a0 a w fs → RGStep P ops (Rk4 ops R Rs C dirty T.length) o (EV v) a w) (h2 : RG2D P ops R Rs C dirty w0 a0 E l plan (EV v :: T)) : RG2D P ops R Rs C dirty w0 a0 E (o :: l) (fs :: plan) T := ⟨EV v, Stands.ev v, h1, h2⟩
end
end Go.Proofs.Ytfeglnpmpgipiaa
end
section
set_option linter.unusedVariables false
namespace Go.Proofs.Ytfeglnpmpgipiaa
open Go.RowKit
section
variable {P : Program} {ops : Array Oper} {pl : List (List (Tmp × Option Nat))} {R : World → World → Prop} {Rs : Nat → World → World → Prop} {w0 : World} {a0 : Act}
def consOf (plan : List (List (Tmp × Option Nat))) (i : Nat) : List Nat := (List.range plan.length).filter fun k => (plan.getD k []).any fun f => f.2 == some i
def overK (ops : Array Oper) (plan : List (List (Tmp × Option Nat))) (i j : Nat) : Bool := !(consOf plan i).isEmpty && (consOf plan i).all fun k => k == j || (ancs ops j).contains k
def neverOver (ops : Array Oper) (plan : List (List (Tmp × Option Nat))) (i : Nat) : Bool := (consOf plan i).isEmpty
theorem overK_use {ops : Array Oper} {plan : List (List (Tmp × Option Nat))} {i j k : Nat} {t : Tmp} (hk : (t, some i) ∈ plan.getD k []) (h : overK ops plan i j = true) : k = j ∨ (ancs ops j).contains k = true := by
 unfold overK at h; rw [Bool.and_eq_true] at h
 have hlt : k < plan.length := by
  rcases Nat.lt_or_ge k plan.length with h' | h'
  ·exact h'
  ·rw [List.getD_eq_getElem?_getD, List.getElem?_eq_none h'] at hk; simp at hk
 have hm : k ∈ consOf plan i := by
  unfold consOf; rw [List.mem_filter]; exact ⟨List.mem_range.2 hlt, List.any_eq_true.2 ⟨_, hk, by simp⟩⟩
 have := List.all_eq_true.1 h.2 k hm
 simpa using this
theorem neverOver_all {ops : Array Oper} {plan : List (List (Tmp × Option Nat))} {i : Nat} (h : neverOver ops plan i = true) (j : Nat) : overK ops plan i j = false := by
 unfold neverOver at h; unfold overK; rw [h]; rfl
def Rk5 (R : World → World → Prop) (Rs : Nat → World → World → Prop) (k : Nat) : World → World → Prop := fun w w' => R w w' ∧ Rs k w w'
def Stands5 (ops : Array Oper) (plan : List (List (Tmp × Option Nat))) (Rs : Nat → World → World → Prop) (k : Nat) (S : Value → World → Prop) : Prop := ∀ j, j ≠ k → (ancs ops k).contains j = false → overK ops plan k j = false → Stable (Rs j) S
theorem Stands5.ev {ops : Array Oper} {plan : List (List (Tmp × Option Nat))} {Rs : Nat → World → World → Prop} {k : Nat} (v : Value) : Stands5 ops plan Rs k (EV v) := fun _ _ _ _ => EV.stable _
def RGU (P : Program) (ops : Array Oper) (pl : List (List (Tmp × Option Nat))) (R : World → World → Prop) (Rs : Nat → World → World → Prop) (w0 : World) (a0 : Act) (Q : Exit → Act → World → Prop) : List Oper → List (List (Tmp × Option Nat)) → List (Value → World → Prop) → Prop
 | [], _, T => ∀ a w, R w0 w → a.defers = a0.defers → a.tmps.size = a0.tmps.size → (∀ t, (∀ (i : Nat) (o : Oper), ops[i]? = some o → o.dst ≠ some t) → a.tmps.getD t undef = a0.tmps.getD t undef) →
   (∀ (i : Nat) (o : Oper) d, ops[i]? = some o → o.dst = some d → neverOver ops pl i = true → ((T).getD i (fun _ _ => False)) (a.tmps.getD d undef) w) → (∀ (i : Nat) (o : Oper), ops[i]? = some o → neverOver ops pl i = true → ∃ v, ((T).getD i (fun _ _ => False)) v w) → Q .normal a w
 | o :: l, fs :: plan, T => ∃ S, Stands5 ops pl Rs T.length S ∧ (∀ a w, R w0 w → factsOf T a0 a w fs → RGStep P ops (Rk5 R Rs T.length) o S a w) ∧ RGU P ops pl R Rs w0 a0 Q l plan (T ++ [S])
 | _ :: _, [], _ => False
theorem RGU_extract {Q : Exit → Act → World → Prop} : ∀ (l : List Oper) (plan : List (List (Tmp × Option Nat))) (T : List (Value → World → Prop)),
  (∀ (k : Nat) fs, plan[k]? = some fs → ∀ t i, (t, some i) ∈ fs → i < T.length + k) → RGU P ops pl R Rs w0 a0 Q l plan T →
  ∃ T', T'.take T.length = T ∧ T'.length = T.length + l.length ∧
   (∀ (k : Nat) o, l[k]? = some o → ∃ fs S, plan[k]? = some fs ∧ T'[T.length + k]? = some S ∧ Stands5 ops pl Rs (T.length + k) S ∧ ∀ a w, R w0 w → factsOf T' a0 a w fs → RGStep P ops (Rk5 R Rs (T.length + k)) o S a w) ∧
   (∀ a w, R w0 w → a.defers = a0.defers → a.tmps.size = a0.tmps.size → (∀ t, (∀ (i : Nat) (o : Oper), ops[i]? = some o → o.dst ≠ some t) → a.tmps.getD t undef = a0.tmps.getD t undef) →
    (∀ (i : Nat) (o : Oper) d, ops[i]? = some o → o.dst = some d → neverOver ops pl i = true → ((T').getD i (fun _ _ => False)) (a.tmps.getD d undef) w) → (∀ (i : Nat) (o : Oper), ops[i]? = some o → neverOver ops pl i = true → ∃ v, ((T').getD i (fun _ _ => False)) v w) → Q .normal a w)
 | [], _, T, _, h => ⟨T, List.take_length, rfl, fun k o hk => by simp at hk, h⟩
 | o :: l, [], _, _, h => h.elim
 | o :: l, fs :: plan, T, hi, h => by
  obtain ⟨S, hS, hstep, hrest⟩ := h
  obtain ⟨T', h1, h2, h3, h4⟩ := RGU_extract l plan (T ++ [S]) (fun k f hf t i hm => by
   have := hi (k + 1) f (by simpa using hf) t i hm
   simp; omega) hrest
  have hlen : (T ++ [S]).length = T.length + 1 := by simp
  have hT : T'.take T.length = T := by
   have := congrArg (List.take T.length) h1; rw [List.take_take, hlen, Nat.min_eq_left (by omega), List.take_left] at this; exact this
  have hS' : T'[T.length]? = some S := by
   have e : (T'.take (T ++ [S]).length)[T.length]? = (T ++ [S])[T.length]? := (by rw [h1]); rw [List.getElem?_take, if_pos (by omega), List.getElem?_append_right (Nat.le_refl _)] at e
   simpa using e
  refine ⟨T', hT, by rw [h2, hlen]; simp; omega, fun k x hk => ?_, h4⟩
  cases k with
  | zero =>
   simp only [List.getElem?_cons_zero, Option.some.injEq] at hk; subst hk; exact ⟨fs, S, rfl, hS', hS, fun a w hR hf => hstep a w hR (factsOf_prefix hT rfl (fun t i hm => by have := hi 0 fs rfl t i hm; omega) hf)⟩
  | succ k =>
   obtain ⟨f, S2, e1, e2, e3, e4⟩ := h3 k x (by simpa using hk); have e5 : (T ++ [S]).length + k = T.length + (k + 1) := (by rw [hlen]; omega); rw [e5] at e2 e3 e4; exact ⟨f, S2, by simpa using e1, e2, e3, e4⟩
structure RGUInv (ops : Array Oper) (pl : List (List (Tmp × Option Nat))) (R : World → World → Prop) (Rs : Nat → World → World → Prop) (w0 : World) (a0 : Act) (T : List (Value → World → Prop)) (listed : Array Bool) (a : Act) (w : World) : Prop where
 later : R w0 w
 defers : a.defers = a0.defers
 size : a.tmps.size = a0.tmps.size
 same : ∀ t, (∀ (i : Nat) (o : Oper), ops[i]? = some o → listed.getD i true = true → o.dst ≠ some t) → a.tmps.getD t undef = a0.tmps.getD t undef
 closed : ∀ (i : Nat) (o : Oper) k, ops[i]? = some o → listed.getD i true = true → waitsFor o k = true → listed.getD k true = true
 told : ∀ (i : Nat) (o : Oper) d, ops[i]? = some o → listed.getD i true = true → o.dst = some d → (∀ (j : Nat) x, ops[j]? = some x → listed.getD j true = true → overK ops pl i j = false) → (T.getD i (fun _ _ => False)) (a.tmps.getD d undef) w
 done : ∀ (i : Nat) (o : Oper), ops[i]? = some o → listed.getD i true = true → (∀ (j : Nat) x, ops[j]? = some x → listed.getD j true = true → overK ops pl i j = false) → ∃ v, (T.getD i (fun _ _ => False)) v w
variable {T : List (Value → World → Prop)}
theorem rgu_any {Q : Exit → Act → World → Prop} (hplan : planOk ops pl = true) (htrans : ∀ a b c, R a b → R b c → R a c) (hrefl : ∀ w, R w w) (hsrefl : ∀ k w, Rs k w w)
  (hdst : ∀ (i : Nat) (o : Oper) d, ops[i]? = some o → o.dst = some d → d < a0.tmps.size)
  (hstep : ∀ (k : Nat) o, ops[k]? = some o → ∃ S, T[k]? = some S ∧ Stands5 ops pl Rs k S ∧ ∀ a w, R w0 w → factsOf T a0 a w (pl.getD k []) → RGStep P ops (Rk5 R Rs k) o S a w)
  (hend : ∀ a w, R w0 w → a.defers = a0.defers → a.tmps.size = a0.tmps.size → (∀ t, (∀ (i : Nat) (o : Oper), ops[i]? = some o → o.dst ≠ some t) → a.tmps.getD t undef = a0.tmps.getD t undef) →
   (∀ (i : Nat) (o : Oper) d, ops[i]? = some o → o.dst = some d → neverOver ops pl i = true → (T.getD i (fun _ _ => False)) (a.tmps.getD d undef) w) → (∀ (i : Nat) (o : Oper), ops[i]? = some o → neverOver ops pl i = true → ∃ v, (T.getD i (fun _ _ => False)) v w) → Q .normal a w) :
  ∀ (fuel : Nat) (listed : Array Bool) (a : Act) (w : World), listed.size = ops.size → (listed.toList.filter (!·)).length ≤ fuel → RGUInv ops pl R Rs w0 a0 T listed a w → wpAny P .any ops Q fuel listed a w := by
 simp only [planOk, Bool.and_eq_true, beq_iff_eq, List.all_eq_true, List.mem_range] at hplan; obtain ⟨hpl, hpk⟩ := hplan; have hop : ∀ (k : Nat) o, ops[k]? = some o → k < ops.size := fun k o h => (Array.getElem?_eq_some_iff.1 h).1
 have hall : ∀ (k : Nat) o, ops[k]? = some o → (∀ e ∈ o.after, Region.binds .any e = true → e.on < k) ∧ (∀ f ∈ pl.getD k [], factOk ops k o f = true) ∧
   (∀ (i : Nat) x, i ≠ k → ops[i]? = some x → ∀ d, x.dst = some d → o.dst ≠ some d) := by
  intro k o hk; have := hpk k (hop k o hk); simp only [hk, Bool.and_eq_true, List.all_eq_true, List.mem_range, Array.all_eq_true_iff_forall_mem] at this; obtain ⟨⟨h1, h2⟩, h3⟩ := this; refine ⟨fun e he hb => ?_, h2, fun i x hi hx d hd => ?_⟩
  ·have := h1 e he; simp only [hb, Bool.not_true, Bool.false_or, decide_eq_true_eq] at this; exact this
  ·have := h3 i (hop i x hx); simp only [hx, hd, Bool.or_eq_true, beq_iff_eq, hi, false_or, reduceCtorEq, bne_iff_ne, ne_eq] at this; exact fun e => this e.symm
 have hfull : ∀ (listed : Array Bool), listed.size = ops.size → Region.ready .any ops listed = [] → ∀ (i : Nat), listed.getD i true = true := by
  intro listed hs hr i
  induction i using Nat.strongRecOn with
  | _ i ih =>
   rcases Bool.eq_false_or_eq_true (listed.getD i true) with h | h
   ·exact h
   ·exfalso
    have hi : i < ops.size := by
     rcases Nat.lt_or_ge i ops.size with h' | h'
     ·exact h'
     ·rw [Array.getD_eq_getD_getElem?, Array.getElem?_eq_none (by omega)] at h; cases h
    have ho : ops[i]? = some ops[i] := Array.getElem?_eq_getElem hi
    have hm : i ∈ Region.ready .any ops listed := by
     unfold Region.ready; rw [List.mem_filter]; refine ⟨List.mem_range.2 hi, ?_⟩; rw [h, ho]; simp only [Bool.not_false, Bool.true_and, Option.map_some, Option.getD_some, Array.all_eq_true_iff_forall_mem, Bool.or_eq_true, Bool.not_eq_true']; intro e he
     by_cases hb : Region.binds .any e = true
     ·right
      have hlt := (hall i _ ho).1 e he hb; have := ih e.on hlt; rw [Array.getD_eq_getD_getElem?, Array.getElem?_eq_getElem (by omega)] at this ⊢; exact this
     ·left; simpa using hb
    rw [hr] at hm; cases hm
 have hfin : ∀ (listed : Array Bool) (a : Act) (w : World), (∀ (i : Nat), listed.getD i true = true) → RGUInv ops pl R Rs w0 a0 T listed a w → Q .normal a w := fun listed a w hl h =>
  hend a w h.later h.defers h.size (fun t ht => h.same t (fun i o ho _ => ht i o ho)) (fun i o d ho hd hn => h.told i o d ho (hl i) hd (fun j _ _ _ => neverOver_all hn j)) (fun i o ho hn => h.done i o ho (hl i) (fun j _ _ _ => neverOver_all hn j))
 intro fuel
 induction fuel with
 | zero =>
  intro listed a w hs hf h
  have hl : ∀ (i : Nat), listed.getD i true = true := by
   intro i; rw [Array.getD_eq_getD_getElem?]
   cases hi : listed[i]? with
   | none => rfl
   | some b =>
    cases b with
    | true => rfl
    | false =>
     have hm : false ∈ listed.toList.filter (!·) := List.mem_filter.2 ⟨by rw [Array.mem_toList_iff]; exact Array.mem_of_getElem? hi, rfl⟩; have : listed.toList.filter (!·) = [] := List.eq_nil_of_length_eq_zero (by omega); rw [this] at hm; cases hm
  refine ⟨?_, hfin listed a w hl h⟩; unfold Region.ready; apply List.filter_eq_nil_iff.2; intro i _; rw [hl i]; simp
 | succ fuel ih =>
  intro listed a w hs hf h; refine ⟨fun hr => hfin listed a w (hfull listed hs hr) h, fun k hk => ?_⟩; unfold Region.ready at hk; rw [List.mem_filter] at hk; obtain ⟨hk1, hk2⟩ := hk; have hkl : k < ops.size := List.mem_range.1 hk1; have ho : ops[k]? = some ops[k] := Array.getElem?_eq_getElem hkl; generalize ops[k] = o at ho; rw [ho] at hk2; simp only [Bool.and_eq_true, Bool.not_eq_true', Option.map_some, Option.getD_some, Array.all_eq_true_iff_forall_mem, Bool.or_eq_true] at hk2; obtain ⟨hun, haft⟩ := hk2; obtain ⟨hon, hfs, hdd⟩ := hall k o ho; obtain ⟨S, hS, hst, hrun⟩ := hstep k o ho
  have hwait : ∀ i, waitsFor o i = true → listed.getD i true = true := by
   intro i hw; simp only [waitsFor, List.any_eq_true, Bool.and_eq_true, beq_iff_eq] at hw; obtain ⟨e, he, hb, rfl⟩ := hw; rw [Array.mem_toList_iff] at he; have h1 := haft e he; rw [hb] at h1; have h2 : listed.getD e.on false = true := (by simpa using h1); have h3 := hon e he hb; rw [Array.getD_eq_getD_getElem?, Array.getElem?_eq_getElem (by omega)] at h2 ⊢; exact h2
  have hfacts : ∀ fs, (∀ f ∈ fs, factOk ops k o f = true) → (∀ f ∈ fs, f ∈ pl.getD k []) → factsOf T a0 a w fs := by
   intro fs
   induction fs with
   | nil => intro _ _; exact trivial
   | cons f fs ihf =>
    intro hf hin; have hrest := ihf (fun g hg => hf g (List.mem_cons_of_mem _ hg)) (fun g hg => hin g (List.mem_cons_of_mem _ hg)); have hf0 := hf f (by simp); obtain ⟨t, x⟩ := f
    cases x with
    | none =>
     refine ⟨h.same t (fun i x hx hl hd => ?_), hrest⟩; simp only [factOk, List.all_eq_true, List.mem_range] at hf0; have h1 := hf0 i (hop i x hx); have hik : i ≠ k := (by rintro rfl; rw [hun] at hl; cases hl); simp only [hx, hd, Bool.or_eq_true, beq_iff_eq, hik, false_or, bne_self_eq_false, Bool.false_eq_true] at h1; have := h.closed i x k hx hl h1; rw [hun] at this; cases this
    | some i =>
     simp only [factOk, Bool.and_eq_true, decide_eq_true_eq] at hf0; obtain ⟨⟨_, hw⟩, hd⟩ := hf0
     cases hx : ops[i]? with
     | none => rw [hx] at hd; cases hd
     | some x =>
      rw [hx] at hd; refine ⟨h.told i x t hx (hwait i hw) (by simpa using hd) (fun j y hy hlj => ?_), hrest⟩
      rcases Bool.eq_false_or_eq_true (overK ops pl i j) with ho2 | ho2
      ·exfalso
       rcases overK_use (hin (t, some i) (by simp)) ho2 with e | e
       ·subst e; rw [hun] at hlj; cases hlj
       ·have h3 := ancs_sound ops j listed hlj ⟨y, hy⟩ h.closed k (by simpa using e); rw [hun] at h3; cases h3
      ·exact ho2
  have hgo := hrun a w h.later (hfacts _ hfs (fun f hf => hf))
  have hnext : ∀ v w', S v w' → Rk5 R Rs k w w' → wpAny P .any ops Q fuel (listed.setIfInBounds k true) (a.put o.dst v) w' := by
   intro v w' hv hRk; have hR := hRk.1
   have hstand : ∀ (i : Nat) (x : Oper), ops[i]? = some x → listed.getD i true = true → i ≠ k → overK ops pl i k = false → ∀ u, (T.getD i (fun _ _ => False)) u w → (T.getD i (fun _ _ => False)) u w' := by
    intro i x hx hl2 hik hov u h1; obtain ⟨S', hS', hst', _⟩ := hstep i x hx; rw [List.getD_eq_getElem?_getD, hS'] at h1 ⊢; refine hst' k (fun e => hik e.symm) ?_ hov _ _ _ h1 hRk.2
    rcases Bool.eq_false_or_eq_true ((ancs ops i).contains k) with h2 | h2
    ·have h3 := ancs_sound ops i listed hl2 ⟨x, hx⟩ h.closed k (by simpa using h2); rw [hun] at h3; cases h3
    ·exact h2
   have hks : k < listed.size := by omega
   have hclosed : ∀ (i : Nat) (x : Oper) j, ops[i]? = some x → (listed.setIfInBounds k true).getD i true = true → waitsFor x j = true → (listed.setIfInBounds k true).getD j true = true := by
    intro i x j hx hl hw
    rcases getD_true_set hl with rfl | hl2
    ·rw [ho] at hx; cases hx; have := hwait j hw
     by_cases e : i = j
     ·subst e; rw [Array.getD_eq_getD_getElem?, Array.getElem?_setIfInBounds_self_of_lt hks]; rfl
     ·rw [Array.getD_eq_getD_getElem?, Array.getElem?_setIfInBounds_ne e, ← Array.getD_eq_getD_getElem?]; exact this
    ·have := h.closed i x j hx hl2 hw
     by_cases e : k = j
     ·subst e; rw [Array.getD_eq_getD_getElem?, Array.getElem?_setIfInBounds_self_of_lt hks]; rfl
     ·rw [Array.getD_eq_getD_getElem?, Array.getElem?_setIfInBounds_ne e, ← Array.getD_eq_getD_getElem?]; exact this
   have hk1 : (listed.setIfInBounds k true).getD k true = true := by rw [Array.getD_eq_getD_getElem?, Array.getElem?_setIfInBounds_self_of_lt hks]; rfl
   have hmono : ∀ j, listed.getD j true = true → (listed.setIfInBounds k true).getD j true = true := fun j hj => by
    by_cases e : k = j
    ·subst e; exact hk1
    ·rw [Array.getD_eq_getD_getElem?, Array.getElem?_setIfInBounds_ne e, ← Array.getD_eq_getD_getElem?]; exact hj
   refine ih _ _ _ (by simpa using hs) ?_ ⟨htrans _ _ _ h.later hR, by rw [put_defers, h.defers], by rw [put_size, h.size], ?_, hclosed, ?_, ?_⟩
   ·have hlt : ((listed.setIfInBounds k true).toList.filter (!·)).length < (listed.toList.filter (!·)).length := by
     have hk2 : listed.toList[k]? = some false := by
      rw [Array.getD_eq_getD_getElem?, Array.getElem?_eq_getElem hks] at hun; simp only [Option.getD_some] at hun; rw [Array.getElem?_toList, Array.getElem?_eq_getElem hks, hun]
     rw [Array.toList_setIfInBounds]; exact filter_set_lt _ _ hk2
    omega
   ·intro t ht; have h1 : o.dst ≠ some t := ht k o ho (by rw [Array.getD_eq_getD_getElem?, Array.getElem?_setIfInBounds_self_of_lt hks]; rfl); rw [put_tmps _ _ _ _ h1]; refine h.same t (fun i x hx hl => ht i x hx ?_)
    by_cases e : k = i
    ·subst e; rw [Array.getD_eq_getD_getElem?, Array.getElem?_setIfInBounds_self_of_lt hks]; rfl
    ·rw [Array.getD_eq_getD_getElem?, Array.getElem?_setIfInBounds_ne e, ← Array.getD_eq_getD_getElem?]; exact hl
   ·intro i x d hx hl hd hal
    rcases getD_true_set hl with rfl | hl2
    ·rw [ho] at hx; cases hx; rw [hd, put_at _ _ _ (by rw [h.size]; exact hdst i o d ho hd)]; rw [List.getD_eq_getElem?_getD, hS]; exact hv
    ·have hik : i ≠ k := (by rintro rfl; rw [hun] at hl2; cases hl2); rw [put_tmps _ _ _ _ (hdd i x hik hx d hd)]; exact hstand i x hx hl2 hik (hal k o ho hk1) _ (h.told i x d hx hl2 hd (fun j y hy hj => hal j y hy (hmono j hj)))
   ·intro i x hx hl hal
    rcases getD_true_set hl with rfl | hl2
    ·exact ⟨v, by rw [List.getD_eq_getElem?_getD, hS]; exact hv⟩
    ·have hik : i ≠ k := (by rintro rfl; rw [hun] at hl2; cases hl2); obtain ⟨u, hu⟩ := h.done i x hx hl2 (fun j y hy hj => hal j y hy (hmono j hj)); exact ⟨u, hstand i x hx hl2 hik (hal k o ho hk1) u hu⟩
  unfold wpOp; rw [ho]; unfold RGStep at hgo; dsimp only
  split
  ·rename_i hw
   rw [if_pos hw] at hgo; exact .inl (Oper.wp_noexit (fun a' w' ⟨v, e, hv, hR⟩ => by rw [e]; exact hnext v w' hv hR) hgo)
  ·rename_i hw
   rw [if_neg hw] at hgo; exact hnext undef w hgo ⟨hrefl w, hsrefl _ w⟩
theorem wp_region_rgu {id : Nat} {Q : Exit → Act → World → Prop} {l : List Oper} (R : World → World → Prop) (Rs : Nat → World → World → Prop) (plan : List (List (Tmp × Option Nat))) (hplan : planOk l.toArray plan = true)
  (hm : P.follows .mixedOrders = true) (hrefl : ∀ w, R w w) (htrans : ∀ a b c, R a b → R b c → R a c) (hsrefl : ∀ k w, Rs k w w) (hdrew : R w0 w0.drew)
  (hdst : (l.all fun o => match o.dst with | some d => decide (d < a0.tmps.size) | none => true) = true)
  (h : RGU P l.toArray plan R Rs w0 a0 Q l plan []) : (Code.region id l.toArray true).wp P Q a0 w0 := by
 refine wp_region_any hm ?_; have hp := hplan; simp only [planOk, Bool.and_eq_true, beq_iff_eq, List.all_eq_true, List.mem_range] at hp; obtain ⟨hpl, hpk⟩ := hp; have hop : ∀ (k : Nat) o, l.toArray[k]? = some o → k < l.toArray.size := fun k o h => (Array.getElem?_eq_some_iff.1 h).1
 obtain ⟨T, h1, h2, h3, h4⟩ := RGU_extract l plan [] (fun k fs hk t i hm' => by
  have hk' : k < plan.length := (List.getElem?_eq_some_iff.1 hk).1; have := hpk k (by rw [← hpl]; exact hk'); rw [hpl] at hk'; rw [Array.getElem?_eq_getElem hk'] at this; simp only [Bool.and_eq_true, List.all_eq_true] at this; have := this.1.2 (t, some i) (by rw [List.getD_eq_getElem?_getD, hk]; exact hm'); simp only [factOk, Bool.and_eq_true, decide_eq_true_eq] at this
  simpa using this.1.1) h
 simp only [List.length_nil, Nat.zero_add] at h2 h3; refine rgu_any (T := T) (pl := plan) (R := R) (Rs := Rs) (w0 := w0) (a0 := a0) hplan htrans hrefl hsrefl ?_ ?_ ?_ _ _ _ _ (by simp) (by simp) ?_
 ·intro i o d ho hd
  have hm' : o ∈ l := by
   have : o ∈ l.toArray := Array.mem_of_getElem? ho
   simpa using this
  have := List.all_eq_true.1 hdst o hm'; rw [hd] at this
  simpa using this
 ·intro k o ho; obtain ⟨fs, S, e1, e2, e3, e4⟩ := h3 k o (by simpa using ho); exact ⟨S, e2, e3, by rw [List.getD_eq_getElem?_getD, e1]; exact e4⟩
 ·intro a w hR hd hs hsame htold hdone; exact h4 a w hR hd hs hsame htold hdone
 ·refine ⟨hdrew, rfl, rfl, fun _ _ => rfl, fun i o k ho hl _ => ?_, fun i o d ho hl _ _ => ?_, fun i o ho hl _ => ?_⟩
  ·have := hop i o ho; simp only [List.size_toArray] at this
   simp [this] at hl
  ·have := hop i o ho; simp only [List.size_toArray] at this
   simp [this] at hl
  ·have := hop i o ho; simp only [List.size_toArray] at this
   simp [this] at hl
def RG2U (P : Program) (ops : Array Oper) (pl : List (List (Tmp × Option Nat))) (R : World → World → Prop) (Rs : Nat → World → World → Prop) (w0 : World) (a0 : Act) (E : List (Value → World → Prop) → Prop) : List Oper → List (List (Tmp × Option Nat)) → List (Value → World → Prop) → Prop
 | [], _, T => E T
 | o :: l, fs :: plan, T => ∃ S, Stands5 ops pl Rs T.length S ∧ (∀ a w, R w0 w → factsOf T a0 a w fs → RGStep P ops (Rk5 R Rs T.length) o S a w) ∧ RG2U P ops pl R Rs w0 a0 E l plan (S :: T)
 | _ :: _, [], _ => False
theorem RGU_of_RG2U {Q : Exit → Act → World → Prop} {E : List (Value → World → Prop) → Prop}
  (hE : ∀ T, E T → T.length = ops.size → ∀ a w, R w0 w → a.defers = a0.defers → a.tmps.size = a0.tmps.size → (∀ t, (∀ (i : Nat) (o : Oper), ops[i]? = some o → o.dst ≠ some t) → a.tmps.getD t undef = a0.tmps.getD t undef) →
   (∀ (i : Nat) (o : Oper) d, ops[i]? = some o → o.dst = some d → neverOver ops pl i = true → ((T.reverse).getD i (fun _ _ => False)) (a.tmps.getD d undef) w) → (∀ (i : Nat) (o : Oper), ops[i]? = some o → neverOver ops pl i = true → ∃ v, ((T.reverse).getD i (fun _ _ => False)) v w) → Q .normal a w) :
  ∀ (l : List Oper) (plan : List (List (Tmp × Option Nat))) (T : List (Value → World → Prop)), T.length + l.length = ops.size → nearOk T.length plan = true →
   RG2U P ops pl R Rs w0 a0 E l plan T → RGU P ops pl R Rs w0 a0 Q l (backs T.length plan) T.reverse
 | [], plan, T, hl, _, h => by
  cases plan <;> exact hE T h (by simpa using hl)
 | o :: l, [], _, _, _, h => h.elim
 | o :: l, fs :: plan, T, hl, hn, h => by
  obtain ⟨S, h1, h2, h3⟩ := h; simp only [nearOk, Bool.and_eq_true] at hn; have := RGU_of_RG2U hE l plan (S :: T) (by simp only [List.length_cons] at hl ⊢; omega) (by simpa using hn.2) h3; rw [List.reverse_cons, List.length_cons] at this; refine ⟨S, by rw [List.length_reverse]; exact h1, ?_, this⟩; rw [List.length_reverse]; exact fun a w hR hf => h2 a w hR (factsOf_back T fs hn.1 hf)
def endsOk (ops : Array Oper) (plan : List (List (Tmp × Option Nat))) (n : Nat) (fin : List (Tmp × Nat)) : Bool := fin.all fun x => decide (x.2 < n) && neverOver ops plan (n - 1 - x.2)
theorem factsE_of5 {l : List Oper} {plan : List (List (Tmp × Option Nat))} {a : Act} {w : World} {T : List (Value → World → Prop)} (hlen : T.length = l.length) (hall : ∀ (i : Nat) (o : Oper) d, l.toArray[i]? = some o → o.dst = some d → neverOver l.toArray plan i = true → ((T.reverse).getD i (fun _ _ => False)) (a.tmps.getD d undef) w) :
  ∀ (fs : List (Tmp × Nat)), endOk l fs = true → endsOk l.toArray plan l.length fs = true → factsE T (fun t => a.tmps.getD t undef) w fs
 | [], _, _ => trivial
 | (t, d) :: r, h, h2 => by
  simp only [endOk, List.all_cons, Bool.and_eq_true, decide_eq_true_eq] at h; simp only [endsOk, List.all_cons, Bool.and_eq_true, decide_eq_true_eq] at h2; obtain ⟨⟨hd, ho⟩, hr⟩ := h; obtain ⟨⟨_, hn⟩, hr2⟩ := h2; refine ⟨?_, factsE_of5 hlen hall r (by simpa [endOk] using hr) (by simpa [endsOk] using hr2)⟩
  cases hx : l[l.length - 1 - d]? with
  | none => rw [hx] at ho; cases ho
  | some o =>
   rw [hx] at ho; have := hall (l.length - 1 - d) o t (by simpa using hx) (by simpa using ho) hn; rw [← hlen, getD_rev T _ (by omega)] at this; exact this
theorem wp_region_rg5 {id : Nat} {Q : Exit → Act → World → Prop} {l : List Oper} {L : List Value} {ds : List Deferred} (R : World → World → Prop) (Rs : Nat → World → World → Prop) (plan : List (List (Tmp × Option Nat))) (fin : List (Tmp × Nat)) (mask : List (Option Tmp))
  (hplan : (planOk l.toArray (backs 0 plan) && nearOk 0 plan && maskOk l 0 mask && endOk l fin && endsOk l.toArray (backs 0 plan) l.length fin) = true) (hmask : mask.length = L.length)
  (hm : P.follows .mixedOrders = true) (hrefl : ∀ w, R w w) (htrans : ∀ a b c, R a b → R b c → R a c) (hsrefl : ∀ k w, Rs k w w) (hdrew : R w0 w0.drew)
  (hdst : (l.all fun o => match o.dst with | some d => decide (d < L.length) | none => true) = true)
  (h : RG2U P l.toArray (backs 0 plan) R Rs w0 ⟨L.toArray, ds⟩ (fun T => ∀ f w, R w0 w → factsE T f w fin → Q .normal ⟨(mergeT mask L f).toArray, ds⟩ w) l plan []) : (Code.region id l.toArray true).wp P Q ⟨L.toArray, ds⟩ w0 := by
 simp only [Bool.and_eq_true] at hplan; obtain ⟨⟨⟨⟨h1, h2⟩, h3⟩, h4⟩, h5⟩ := hplan; refine wp_region_rgu R Rs (backs 0 plan) h1 hm hrefl htrans hsrefl hdrew (by simpa using hdst) ?_; refine RGU_of_RG2U (ops := l.toArray) ?_ l plan [] (by simp) h2 h; intro T hE hT a w hR hd hs hsame hall hdone; have hT' : T.length = l.length := (by simpa using hT); have hf := hE _ w hR (factsE_of5 hT' hall fin h4 h5)
 have hmerge := merge_is (l := l) (a := a) mask L [] h3 hmask (by simpa using hs.symm) (fun t ht => by
  have := hsame t (fun i o ho => ht i o (by simpa using ho)); rw [this]
  simp [Array.getD_eq_getD_getElem?, List.getD_eq_getElem?_getD])
 rw [hmerge] at hf; simp only [List.length_nil, List.drop_zero] at hf; have e : a = ⟨a.tmps, ds⟩ := (by cases a; simp only at hd; rw [hd]); rw [e]; exact hf
theorem rgu_ev {E : List (Value → World → Prop) → Prop} {o : Oper} {l : List Oper} {fs : List (Tmp × Option Nat)} {plan : List (List (Tmp × Option Nat))} {T : List (Value → World → Prop)} {v : Value}
  (h1 : ∀ a w, R w0 w → factsOf T a0 a w fs → RGStep P ops (Rk5 R Rs T.length) o (EV v) a w) (h2 : RG2U P ops pl R Rs w0 a0 E l plan (EV v :: T)) : RG2U P ops pl R Rs w0 a0 E (o :: l) (fs :: plan) T := ⟨EV v, Stands5.ev v, h1, h2⟩
end
def DirtR (dl : List (Nat × (World → World → Prop))) (j : Nat) : World → World → Prop := (dl.lookup j).getD (Only [])
theorem lookupR_mem {dl : List (Nat × (World → World → Prop))} {j : Nat} {S : World → World → Prop} (h : dl.lookup j = some S) : (j, S) ∈ dl := by
 induction dl with
 | nil => cases h
 | cons x r ih =>
  obtain ⟨a, b⟩ := x; rw [List.lookup_cons] at h
  split at h
  ·rename_i he
   obtain rfl : j = a := (by simpa using he); obtain rfl := Option.some.inj h
   simp
  ·exact List.mem_cons_of_mem _ (ih h)
theorem DirtR.refl {dl : List (Nat × (World → World → Prop))} (h : ∀ x ∈ dl, ∀ w, x.2 w w) (j : Nat) (w : World) : DirtR dl j w w := by
 unfold DirtR
 cases e : dl.lookup j with
 | none => exact Only.refl _ _
 | some D => exact h _ (lookupR_mem e) w
theorem stands5_of {ops : Array Oper} {plan : List (List (Tmp × Option Nat))} {dl : List (Nat × (World → World → Prop))} {k : Nat} {S : Value → World → Prop} (h0 : Stable (Only []) S) (h : ∀ x ∈ dl, (x.1 == k || (ancs ops k).contains x.1 || overK ops plan k x.1) = false → Stable x.2 S) : Stands5 ops plan (DirtR dl) k S := by
 intro j hj hc ho; unfold DirtR
 cases e : dl.lookup j with
 | none => exact h0
 | some D =>
  refine h (j, D) (lookupR_mem e) ?_; simp only [Bool.or_eq_false_iff]; exact ⟨⟨by simpa using hj, hc⟩, ho⟩
end Go.Proofs.Ytfeglnpmpgipiaa
end
section
set_option linter.unusedVariables false
namespace Go.Proofs.Ytfeglnpmpgipiaa
open Go.RowKit
section
variable {P : Program} {ops : Array Oper} {pl : List (List (Tmp × Option Nat))} {R : World → World → Prop} {Rs : Nat → World → World → Prop} {w0 : World} {a0 : Act}
def linkOf (o : Oper) : Option Tmp := match o.dst, o.op with | none, .store _ (.tmp t) _ => some t | _, _ => none
def Linked (o : Oper) (a : Act) (v : Value) : Prop := ∀ t, linkOf o = some t → v = a.tmps.getD t undef
theorem linkOf_dst {o : Oper} {t : Tmp} (h : linkOf o = some t) : o.dst = none := by
 unfold linkOf at h
 split at h
 ·assumption
 ·cases h
theorem Linked.none {o : Oper} {a : Act} {v : Value} (h : linkOf o = none) : Linked o a v := fun t ht => by rw [h] at ht; cases ht
def linksOk (ops : Array Oper) : Bool := (List.range ops.size).all fun i => match ops[i]? with
 | none => true
 | some x => match linkOf x with
  | none => true
  | some t => (List.range ops.size).any fun j => match ops[j]? with
   | none => false
   | some y => y.dst == some t && waitsFor x j
theorem linksOk_sound {ops : Array Oper} (h : linksOk ops = true) : ∀ (i : Nat) (x : Oper) t, ops[i]? = some x → linkOf x = some t → ∃ (j : Nat) (y : Oper), ops[j]? = some y ∧ y.dst = some t ∧ waitsFor x j = true := by
 intro i x t hx ht; have h1 := List.all_eq_true.1 h i (List.mem_range.2 (Array.getElem?_eq_some_iff.1 hx).1); simp only [hx, ht] at h1; obtain ⟨j, _, hj⟩ := List.any_eq_true.1 h1
 cases hy : ops[j]? with
 | none => rw [hy] at hj; cases hj
 | some y =>
  rw [hy] at hj; simp only [Bool.and_eq_true, beq_iff_eq] at hj; exact ⟨j, y, hy, hj.1, hj.2⟩
def RGL (P : Program) (ops : Array Oper) (pl : List (List (Tmp × Option Nat))) (R : World → World → Prop) (Rs : Nat → World → World → Prop) (w0 : World) (a0 : Act) (Q : Exit → Act → World → Prop) : List Oper → List (List (Tmp × Option Nat)) → List (Value → World → Prop) → Prop
 | [], _, T => ∀ a w, R w0 w → a.defers = a0.defers → a.tmps.size = a0.tmps.size → (∀ t, (∀ (i : Nat) (o : Oper), ops[i]? = some o → o.dst ≠ some t) → a.tmps.getD t undef = a0.tmps.getD t undef) →
   (∀ (i : Nat) (o : Oper) d, ops[i]? = some o → o.dst = some d → neverOver ops pl i = true → ((T).getD i (fun _ _ => False)) (a.tmps.getD d undef) w) → (∀ (i : Nat) (o : Oper), ops[i]? = some o → neverOver ops pl i = true → ∃ v, ((T).getD i (fun _ _ => False)) v w ∧ Linked o a v) → Q .normal a w
 | o :: l, fs :: plan, T => ∃ S, Stands5 ops pl Rs T.length S ∧ (∀ a w, R w0 w → factsOf T a0 a w fs → RGStep P ops (Rk5 R Rs T.length) o (fun v w' => S v w' ∧ Linked o a v) a w) ∧ RGL P ops pl R Rs w0 a0 Q l plan (T ++ [S])
 | _ :: _, [], _ => False
theorem RGL_extract {Q : Exit → Act → World → Prop} : ∀ (l : List Oper) (plan : List (List (Tmp × Option Nat))) (T : List (Value → World → Prop)),
  (∀ (k : Nat) fs, plan[k]? = some fs → ∀ t i, (t, some i) ∈ fs → i < T.length + k) → RGL P ops pl R Rs w0 a0 Q l plan T →
  ∃ T', T'.take T.length = T ∧ T'.length = T.length + l.length ∧
   (∀ (k : Nat) o, l[k]? = some o → ∃ fs S, plan[k]? = some fs ∧ T'[T.length + k]? = some S ∧ Stands5 ops pl Rs (T.length + k) S ∧ ∀ a w, R w0 w → factsOf T' a0 a w fs → RGStep P ops (Rk5 R Rs (T.length + k)) o (fun v w' => S v w' ∧ Linked o a v) a w) ∧
   (∀ a w, R w0 w → a.defers = a0.defers → a.tmps.size = a0.tmps.size → (∀ t, (∀ (i : Nat) (o : Oper), ops[i]? = some o → o.dst ≠ some t) → a.tmps.getD t undef = a0.tmps.getD t undef) →
    (∀ (i : Nat) (o : Oper) d, ops[i]? = some o → o.dst = some d → neverOver ops pl i = true → ((T').getD i (fun _ _ => False)) (a.tmps.getD d undef) w) → (∀ (i : Nat) (o : Oper), ops[i]? = some o → neverOver ops pl i = true → ∃ v, ((T').getD i (fun _ _ => False)) v w ∧ Linked o a v) → Q .normal a w)
 | [], _, T, _, h => ⟨T, List.take_length, rfl, fun k o hk => by simp at hk, h⟩
 | o :: l, [], _, _, h => h.elim
 | o :: l, fs :: plan, T, hi, h => by
  obtain ⟨S, hS, hstep, hrest⟩ := h
  obtain ⟨T', h1, h2, h3, h4⟩ := RGL_extract l plan (T ++ [S]) (fun k f hf t i hm => by
   have := hi (k + 1) f (by simpa using hf) t i hm
   simp; omega) hrest
  have hlen : (T ++ [S]).length = T.length + 1 := by simp
  have hT : T'.take T.length = T := by
   have := congrArg (List.take T.length) h1; rw [List.take_take, hlen, Nat.min_eq_left (by omega), List.take_left] at this; exact this
  have hS' : T'[T.length]? = some S := by
   have e : (T'.take (T ++ [S]).length)[T.length]? = (T ++ [S])[T.length]? := (by rw [h1]); rw [List.getElem?_take, if_pos (by omega), List.getElem?_append_right (Nat.le_refl _)] at e
   simpa using e
  refine ⟨T', hT, by rw [h2, hlen]; simp; omega, fun k x hk => ?_, h4⟩
  cases k with
  | zero =>
   simp only [List.getElem?_cons_zero, Option.some.injEq] at hk; subst hk; exact ⟨fs, S, rfl, hS', hS, fun a w hR hf => hstep a w hR (factsOf_prefix hT rfl (fun t i hm => by have := hi 0 fs rfl t i hm; omega) hf)⟩
  | succ k =>
   obtain ⟨f, S2, e1, e2, e3, e4⟩ := h3 k x (by simpa using hk); have e5 : (T ++ [S]).length + k = T.length + (k + 1) := (by rw [hlen]; omega); rw [e5] at e2 e3 e4; exact ⟨f, S2, by simpa using e1, e2, e3, e4⟩
structure RGLInv (ops : Array Oper) (pl : List (List (Tmp × Option Nat))) (R : World → World → Prop) (Rs : Nat → World → World → Prop) (w0 : World) (a0 : Act) (T : List (Value → World → Prop)) (listed : Array Bool) (a : Act) (w : World) : Prop where
 later : R w0 w
 defers : a.defers = a0.defers
 size : a.tmps.size = a0.tmps.size
 same : ∀ t, (∀ (i : Nat) (o : Oper), ops[i]? = some o → listed.getD i true = true → o.dst ≠ some t) → a.tmps.getD t undef = a0.tmps.getD t undef
 closed : ∀ (i : Nat) (o : Oper) k, ops[i]? = some o → listed.getD i true = true → waitsFor o k = true → listed.getD k true = true
 told : ∀ (i : Nat) (o : Oper) d, ops[i]? = some o → listed.getD i true = true → o.dst = some d → (∀ (j : Nat) x, ops[j]? = some x → listed.getD j true = true → overK ops pl i j = false) → (T.getD i (fun _ _ => False)) (a.tmps.getD d undef) w
 done : ∀ (i : Nat) (o : Oper), ops[i]? = some o → listed.getD i true = true → (∀ (j : Nat) x, ops[j]? = some x → listed.getD j true = true → overK ops pl i j = false) → ∃ v, (T.getD i (fun _ _ => False)) v w ∧ Linked o a v
variable {T : List (Value → World → Prop)}
theorem rgl_any {Q : Exit → Act → World → Prop} (hlinks : ∀ (i : Nat) (x : Oper) t, ops[i]? = some x → linkOf x = some t → ∃ (j : Nat) (y : Oper), ops[j]? = some y ∧ y.dst = some t ∧ waitsFor x j = true) (hplan : planOk ops pl = true) (htrans : ∀ a b c, R a b → R b c → R a c) (hrefl : ∀ w, R w w) (hsrefl : ∀ k w, Rs k w w)
  (hdst : ∀ (i : Nat) (o : Oper) d, ops[i]? = some o → o.dst = some d → d < a0.tmps.size)
  (hstep : ∀ (k : Nat) o, ops[k]? = some o → ∃ S, T[k]? = some S ∧ Stands5 ops pl Rs k S ∧ ∀ a w, R w0 w → factsOf T a0 a w (pl.getD k []) → RGStep P ops (Rk5 R Rs k) o (fun v w' => S v w' ∧ Linked o a v) a w)
  (hend : ∀ a w, R w0 w → a.defers = a0.defers → a.tmps.size = a0.tmps.size → (∀ t, (∀ (i : Nat) (o : Oper), ops[i]? = some o → o.dst ≠ some t) → a.tmps.getD t undef = a0.tmps.getD t undef) →
   (∀ (i : Nat) (o : Oper) d, ops[i]? = some o → o.dst = some d → neverOver ops pl i = true → (T.getD i (fun _ _ => False)) (a.tmps.getD d undef) w) → (∀ (i : Nat) (o : Oper), ops[i]? = some o → neverOver ops pl i = true → ∃ v, (T.getD i (fun _ _ => False)) v w ∧ Linked o a v) → Q .normal a w) :
  ∀ (fuel : Nat) (listed : Array Bool) (a : Act) (w : World), listed.size = ops.size → (listed.toList.filter (!·)).length ≤ fuel → RGLInv ops pl R Rs w0 a0 T listed a w → wpAny P .any ops Q fuel listed a w := by
 simp only [planOk, Bool.and_eq_true, beq_iff_eq, List.all_eq_true, List.mem_range] at hplan; obtain ⟨hpl, hpk⟩ := hplan; have hop : ∀ (k : Nat) o, ops[k]? = some o → k < ops.size := fun k o h => (Array.getElem?_eq_some_iff.1 h).1
 have hall : ∀ (k : Nat) o, ops[k]? = some o → (∀ e ∈ o.after, Region.binds .any e = true → e.on < k) ∧ (∀ f ∈ pl.getD k [], factOk ops k o f = true) ∧
   (∀ (i : Nat) x, i ≠ k → ops[i]? = some x → ∀ d, x.dst = some d → o.dst ≠ some d) := by
  intro k o hk; have := hpk k (hop k o hk); simp only [hk, Bool.and_eq_true, List.all_eq_true, List.mem_range, Array.all_eq_true_iff_forall_mem] at this; obtain ⟨⟨h1, h2⟩, h3⟩ := this; refine ⟨fun e he hb => ?_, h2, fun i x hi hx d hd => ?_⟩
  ·have := h1 e he; simp only [hb, Bool.not_true, Bool.false_or, decide_eq_true_eq] at this; exact this
  ·have := h3 i (hop i x hx); simp only [hx, hd, Bool.or_eq_true, beq_iff_eq, hi, false_or, reduceCtorEq, bne_iff_ne, ne_eq] at this; exact fun e => this e.symm
 have hfull : ∀ (listed : Array Bool), listed.size = ops.size → Region.ready .any ops listed = [] → ∀ (i : Nat), listed.getD i true = true := by
  intro listed hs hr i
  induction i using Nat.strongRecOn with
  | _ i ih =>
   rcases Bool.eq_false_or_eq_true (listed.getD i true) with h | h
   ·exact h
   ·exfalso
    have hi : i < ops.size := by
     rcases Nat.lt_or_ge i ops.size with h' | h'
     ·exact h'
     ·rw [Array.getD_eq_getD_getElem?, Array.getElem?_eq_none (by omega)] at h; cases h
    have ho : ops[i]? = some ops[i] := Array.getElem?_eq_getElem hi
    have hm : i ∈ Region.ready .any ops listed := by
     unfold Region.ready; rw [List.mem_filter]; refine ⟨List.mem_range.2 hi, ?_⟩; rw [h, ho]; simp only [Bool.not_false, Bool.true_and, Option.map_some, Option.getD_some, Array.all_eq_true_iff_forall_mem, Bool.or_eq_true, Bool.not_eq_true']; intro e he
     by_cases hb : Region.binds .any e = true
     ·right
      have hlt := (hall i _ ho).1 e he hb; have := ih e.on hlt; rw [Array.getD_eq_getD_getElem?, Array.getElem?_eq_getElem (by omega)] at this ⊢; exact this
     ·left; simpa using hb
    rw [hr] at hm; cases hm
 have hfin : ∀ (listed : Array Bool) (a : Act) (w : World), (∀ (i : Nat), listed.getD i true = true) → RGLInv ops pl R Rs w0 a0 T listed a w → Q .normal a w := fun listed a w hl h =>
  hend a w h.later h.defers h.size (fun t ht => h.same t (fun i o ho _ => ht i o ho)) (fun i o d ho hd hn => h.told i o d ho (hl i) hd (fun j _ _ _ => neverOver_all hn j)) (fun i o ho hn => h.done i o ho (hl i) (fun j _ _ _ => neverOver_all hn j))
 intro fuel
 induction fuel with
 | zero =>
  intro listed a w hs hf h
  have hl : ∀ (i : Nat), listed.getD i true = true := by
   intro i; rw [Array.getD_eq_getD_getElem?]
   cases hi : listed[i]? with
   | none => rfl
   | some b =>
    cases b with
    | true => rfl
    | false =>
     have hm : false ∈ listed.toList.filter (!·) := List.mem_filter.2 ⟨by rw [Array.mem_toList_iff]; exact Array.mem_of_getElem? hi, rfl⟩; have : listed.toList.filter (!·) = [] := List.eq_nil_of_length_eq_zero (by omega); rw [this] at hm; cases hm
  refine ⟨?_, hfin listed a w hl h⟩; unfold Region.ready; apply List.filter_eq_nil_iff.2; intro i _; rw [hl i]; simp
 | succ fuel ih =>
  intro listed a w hs hf h; refine ⟨fun hr => hfin listed a w (hfull listed hs hr) h, fun k hk => ?_⟩; unfold Region.ready at hk; rw [List.mem_filter] at hk; obtain ⟨hk1, hk2⟩ := hk; have hkl : k < ops.size := List.mem_range.1 hk1; have ho : ops[k]? = some ops[k] := Array.getElem?_eq_getElem hkl; generalize ops[k] = o at ho; rw [ho] at hk2; simp only [Bool.and_eq_true, Bool.not_eq_true', Option.map_some, Option.getD_some, Array.all_eq_true_iff_forall_mem, Bool.or_eq_true] at hk2; obtain ⟨hun, haft⟩ := hk2; obtain ⟨hon, hfs, hdd⟩ := hall k o ho; obtain ⟨S, hS, hst, hrun⟩ := hstep k o ho
  have hwait : ∀ i, waitsFor o i = true → listed.getD i true = true := by
   intro i hw; simp only [waitsFor, List.any_eq_true, Bool.and_eq_true, beq_iff_eq] at hw; obtain ⟨e, he, hb, rfl⟩ := hw; rw [Array.mem_toList_iff] at he; have h1 := haft e he; rw [hb] at h1; have h2 : listed.getD e.on false = true := (by simpa using h1); have h3 := hon e he hb; rw [Array.getD_eq_getD_getElem?, Array.getElem?_eq_getElem (by omega)] at h2 ⊢; exact h2
  have hfacts : ∀ fs, (∀ f ∈ fs, factOk ops k o f = true) → (∀ f ∈ fs, f ∈ pl.getD k []) → factsOf T a0 a w fs := by
   intro fs
   induction fs with
   | nil => intro _ _; exact trivial
   | cons f fs ihf =>
    intro hf hin; have hrest := ihf (fun g hg => hf g (List.mem_cons_of_mem _ hg)) (fun g hg => hin g (List.mem_cons_of_mem _ hg)); have hf0 := hf f (by simp); obtain ⟨t, x⟩ := f
    cases x with
    | none =>
     refine ⟨h.same t (fun i x hx hl hd => ?_), hrest⟩; simp only [factOk, List.all_eq_true, List.mem_range] at hf0; have h1 := hf0 i (hop i x hx); have hik : i ≠ k := (by rintro rfl; rw [hun] at hl; cases hl); simp only [hx, hd, Bool.or_eq_true, beq_iff_eq, hik, false_or, bne_self_eq_false, Bool.false_eq_true] at h1; have := h.closed i x k hx hl h1; rw [hun] at this; cases this
    | some i =>
     simp only [factOk, Bool.and_eq_true, decide_eq_true_eq] at hf0; obtain ⟨⟨_, hw⟩, hd⟩ := hf0
     cases hx : ops[i]? with
     | none => rw [hx] at hd; cases hd
     | some x =>
      rw [hx] at hd; refine ⟨h.told i x t hx (hwait i hw) (by simpa using hd) (fun j y hy hlj => ?_), hrest⟩
      rcases Bool.eq_false_or_eq_true (overK ops pl i j) with ho2 | ho2
      ·exfalso
       rcases overK_use (hin (t, some i) (by simp)) ho2 with e | e
       ·subst e; rw [hun] at hlj; cases hlj
       ·have h3 := ancs_sound ops j listed hlj ⟨y, hy⟩ h.closed k (by simpa using e); rw [hun] at h3; cases h3
      ·exact ho2
  have hgo := hrun a w h.later (hfacts _ hfs (fun f hf => hf))
  have hnext : ∀ v w', S v w' ∧ Linked o a v → Rk5 R Rs k w w' → wpAny P .any ops Q fuel (listed.setIfInBounds k true) (a.put o.dst v) w' := by
   intro v w' ⟨hv, hlk⟩ hRk; have hR := hRk.1
   have hstand : ∀ (i : Nat) (x : Oper), ops[i]? = some x → listed.getD i true = true → i ≠ k → overK ops pl i k = false → ∀ u, (T.getD i (fun _ _ => False)) u w → (T.getD i (fun _ _ => False)) u w' := by
    intro i x hx hl2 hik hov u h1; obtain ⟨S', hS', hst', _⟩ := hstep i x hx; rw [List.getD_eq_getElem?_getD, hS'] at h1 ⊢; refine hst' k (fun e => hik e.symm) ?_ hov _ _ _ h1 hRk.2
    rcases Bool.eq_false_or_eq_true ((ancs ops i).contains k) with h2 | h2
    ·have h3 := ancs_sound ops i listed hl2 ⟨x, hx⟩ h.closed k (by simpa using h2); rw [hun] at h3; cases h3
    ·exact h2
   have hks : k < listed.size := by omega
   have hclosed : ∀ (i : Nat) (x : Oper) j, ops[i]? = some x → (listed.setIfInBounds k true).getD i true = true → waitsFor x j = true → (listed.setIfInBounds k true).getD j true = true := by
    intro i x j hx hl hw
    rcases getD_true_set hl with rfl | hl2
    ·rw [ho] at hx; cases hx; have := hwait j hw
     by_cases e : i = j
     ·subst e; rw [Array.getD_eq_getD_getElem?, Array.getElem?_setIfInBounds_self_of_lt hks]; rfl
     ·rw [Array.getD_eq_getD_getElem?, Array.getElem?_setIfInBounds_ne e, ← Array.getD_eq_getD_getElem?]; exact this
    ·have := h.closed i x j hx hl2 hw
     by_cases e : k = j
     ·subst e; rw [Array.getD_eq_getD_getElem?, Array.getElem?_setIfInBounds_self_of_lt hks]; rfl
     ·rw [Array.getD_eq_getD_getElem?, Array.getElem?_setIfInBounds_ne e, ← Array.getD_eq_getD_getElem?]; exact this
   have hk1 : (listed.setIfInBounds k true).getD k true = true := by rw [Array.getD_eq_getD_getElem?, Array.getElem?_setIfInBounds_self_of_lt hks]; rfl
   have hmono : ∀ j, listed.getD j true = true → (listed.setIfInBounds k true).getD j true = true := fun j hj => by
    by_cases e : k = j
    ·subst e; exact hk1
    ·rw [Array.getD_eq_getD_getElem?, Array.getElem?_setIfInBounds_ne e, ← Array.getD_eq_getD_getElem?]; exact hj
   refine ih _ _ _ (by simpa using hs) ?_ ⟨htrans _ _ _ h.later hR, by rw [put_defers, h.defers], by rw [put_size, h.size], ?_, hclosed, ?_, ?_⟩
   ·have hlt : ((listed.setIfInBounds k true).toList.filter (!·)).length < (listed.toList.filter (!·)).length := by
     have hk2 : listed.toList[k]? = some false := by
      rw [Array.getD_eq_getD_getElem?, Array.getElem?_eq_getElem hks] at hun; simp only [Option.getD_some] at hun; rw [Array.getElem?_toList, Array.getElem?_eq_getElem hks, hun]
     rw [Array.toList_setIfInBounds]; exact filter_set_lt _ _ hk2
    omega
   ·intro t ht; have h1 : o.dst ≠ some t := ht k o ho (by rw [Array.getD_eq_getD_getElem?, Array.getElem?_setIfInBounds_self_of_lt hks]; rfl); rw [put_tmps _ _ _ _ h1]; refine h.same t (fun i x hx hl => ht i x hx ?_)
    by_cases e : k = i
    ·subst e; rw [Array.getD_eq_getD_getElem?, Array.getElem?_setIfInBounds_self_of_lt hks]; rfl
    ·rw [Array.getD_eq_getD_getElem?, Array.getElem?_setIfInBounds_ne e, ← Array.getD_eq_getD_getElem?]; exact hl
   ·intro i x d hx hl hd hal
    rcases getD_true_set hl with rfl | hl2
    ·rw [ho] at hx; cases hx; rw [hd, put_at _ _ _ (by rw [h.size]; exact hdst i o d ho hd)]; rw [List.getD_eq_getElem?_getD, hS]; exact hv
    ·have hik : i ≠ k := (by rintro rfl; rw [hun] at hl2; cases hl2); rw [put_tmps _ _ _ _ (hdd i x hik hx d hd)]; exact hstand i x hx hl2 hik (hal k o ho hk1) _ (h.told i x d hx hl2 hd (fun j y hy hj => hal j y hy (hmono j hj)))
   ·intro i x hx hl hal
    rcases getD_true_set hl with rfl | hl2
    ·rw [ho] at hx; cases hx; exact ⟨v, by rw [List.getD_eq_getElem?_getD, hS]; exact hv, fun t ht => by rw [put_tmps _ _ _ _ (by rw [linkOf_dst ht]; simp)]; exact hlk t ht⟩
    ·have hik : i ≠ k := (by rintro rfl; rw [hun] at hl2; cases hl2); obtain ⟨u, hu, hlu⟩ := h.done i x hx hl2 (fun j y hy hj => hal j y hy (hmono j hj)); refine ⟨u, hstand i x hx hl2 hik (hal k o ho hk1) u hu, fun t ht => ?_⟩; obtain ⟨j, y, hy, hyd, hyw⟩ := hlinks i x t hx ht; have hjl := h.closed i x j hx hl2 hyw; have hjk : j ≠ k := (by rintro rfl; rw [hun] at hjl; cases hjl); rw [put_tmps _ _ _ _ (hdd j y hjk hy t hyd)]; exact hlu t ht
  unfold wpOp; rw [ho]; unfold RGStep at hgo; dsimp only
  split
  ·rename_i hw
   rw [if_pos hw] at hgo; exact .inl (Oper.wp_noexit (fun a' w' ⟨v, e, hv, hR⟩ => by rw [e]; exact hnext v w' hv hR) hgo)
  ·rename_i hw
   rw [if_neg hw] at hgo; exact hnext undef w hgo ⟨hrefl w, hsrefl _ w⟩
theorem wp_region_rgl {id : Nat} {Q : Exit → Act → World → Prop} {l : List Oper} (R : World → World → Prop) (Rs : Nat → World → World → Prop) (plan : List (List (Tmp × Option Nat))) (hlk : linksOk l.toArray = true) (hplan : planOk l.toArray plan = true)
  (hm : P.follows .mixedOrders = true) (hrefl : ∀ w, R w w) (htrans : ∀ a b c, R a b → R b c → R a c) (hsrefl : ∀ k w, Rs k w w) (hdrew : R w0 w0.drew)
  (hdst : (l.all fun o => match o.dst with | some d => decide (d < a0.tmps.size) | none => true) = true)
  (h : RGL P l.toArray plan R Rs w0 a0 Q l plan []) : (Code.region id l.toArray true).wp P Q a0 w0 := by
 refine wp_region_any hm ?_; have hp := hplan; simp only [planOk, Bool.and_eq_true, beq_iff_eq, List.all_eq_true, List.mem_range] at hp; obtain ⟨hpl, hpk⟩ := hp; have hop : ∀ (k : Nat) o, l.toArray[k]? = some o → k < l.toArray.size := fun k o h => (Array.getElem?_eq_some_iff.1 h).1
 obtain ⟨T, h1, h2, h3, h4⟩ := RGL_extract l plan [] (fun k fs hk t i hm' => by
  have hk' : k < plan.length := (List.getElem?_eq_some_iff.1 hk).1; have := hpk k (by rw [← hpl]; exact hk'); rw [hpl] at hk'; rw [Array.getElem?_eq_getElem hk'] at this; simp only [Bool.and_eq_true, List.all_eq_true] at this; have := this.1.2 (t, some i) (by rw [List.getD_eq_getElem?_getD, hk]; exact hm'); simp only [factOk, Bool.and_eq_true, decide_eq_true_eq] at this
  simpa using this.1.1) h
 simp only [List.length_nil, Nat.zero_add] at h2 h3; refine rgl_any (T := T) (pl := plan) (R := R) (Rs := Rs) (w0 := w0) (a0 := a0) (linksOk_sound hlk) hplan htrans hrefl hsrefl ?_ ?_ ?_ _ _ _ _ (by simp) (by simp) ?_
 ·intro i o d ho hd
  have hm' : o ∈ l := by
   have : o ∈ l.toArray := Array.mem_of_getElem? ho
   simpa using this
  have := List.all_eq_true.1 hdst o hm'; rw [hd] at this
  simpa using this
 ·intro k o ho; obtain ⟨fs, S, e1, e2, e3, e4⟩ := h3 k o (by simpa using ho); exact ⟨S, e2, e3, by rw [List.getD_eq_getElem?_getD, e1]; exact e4⟩
 ·intro a w hR hd hs hsame htold hdone; exact h4 a w hR hd hs hsame htold hdone
 ·refine ⟨hdrew, rfl, rfl, fun _ _ => rfl, fun i o k ho hl _ => ?_, fun i o d ho hl _ _ => ?_, fun i o ho hl _ => ?_⟩
  ·have := hop i o ho; simp only [List.size_toArray] at this
   simp [this] at hl
  ·have := hop i o ho; simp only [List.size_toArray] at this
   simp [this] at hl
  ·have := hop i o ho; simp only [List.size_toArray] at this
   simp [this] at hl
def RG2L (P : Program) (ops : Array Oper) (pl : List (List (Tmp × Option Nat))) (R : World → World → Prop) (Rs : Nat → World → World → Prop) (w0 : World) (a0 : Act) (E : List (Value → World → Prop) → Prop) : List Oper → List (List (Tmp × Option Nat)) → List (Value → World → Prop) → Prop
 | [], _, T => E T
 | o :: l, fs :: plan, T => ∃ S, Stands5 ops pl Rs T.length S ∧ (∀ a w, R w0 w → factsOf T a0 a w fs → RGStep P ops (Rk5 R Rs T.length) o (fun v w' => S v w' ∧ Linked o a v) a w) ∧ RG2L P ops pl R Rs w0 a0 E l plan (S :: T)
 | _ :: _, [], _ => False
theorem RGL_of_RG2L {Q : Exit → Act → World → Prop} {E : List (Value → World → Prop) → Prop}
  (hE : ∀ T, E T → T.length = ops.size → ∀ a w, R w0 w → a.defers = a0.defers → a.tmps.size = a0.tmps.size → (∀ t, (∀ (i : Nat) (o : Oper), ops[i]? = some o → o.dst ≠ some t) → a.tmps.getD t undef = a0.tmps.getD t undef) →
   (∀ (i : Nat) (o : Oper) d, ops[i]? = some o → o.dst = some d → neverOver ops pl i = true → ((T.reverse).getD i (fun _ _ => False)) (a.tmps.getD d undef) w) → (∀ (i : Nat) (o : Oper), ops[i]? = some o → neverOver ops pl i = true → ∃ v, ((T.reverse).getD i (fun _ _ => False)) v w ∧ Linked o a v) → Q .normal a w) :
  ∀ (l : List Oper) (plan : List (List (Tmp × Option Nat))) (T : List (Value → World → Prop)), T.length + l.length = ops.size → nearOk T.length plan = true →
   RG2L P ops pl R Rs w0 a0 E l plan T → RGL P ops pl R Rs w0 a0 Q l (backs T.length plan) T.reverse
 | [], plan, T, hl, _, h => by
  cases plan <;> exact hE T h (by simpa using hl)
 | o :: l, [], _, _, _, h => h.elim
 | o :: l, fs :: plan, T, hl, hn, h => by
  obtain ⟨S, h1, h2, h3⟩ := h; simp only [nearOk, Bool.and_eq_true] at hn; have := RGL_of_RG2L hE l plan (S :: T) (by simp only [List.length_cons] at hl ⊢; omega) (by simpa using hn.2) h3; rw [List.reverse_cons, List.length_cons] at this; refine ⟨S, by rw [List.length_reverse]; exact h1, ?_, this⟩; rw [List.length_reverse]; exact fun a w hR hf => h2 a w hR (factsOf_back T fs hn.1 hf)
def linkEndOk (l : List Oper) (fin : List (Tmp × Nat)) : Bool := fin.all fun x => match l[l.length - 1 - x.2]? with | none => false | some o => linkOf o == some x.1
theorem factsE_of6 {l : List Oper} {plan : List (List (Tmp × Option Nat))} {a : Act} {w : World} {T : List (Value → World → Prop)} (hlen : T.length = l.length) (hall : ∀ (i : Nat) (o : Oper), l.toArray[i]? = some o → neverOver l.toArray plan i = true → ∃ v, ((T.reverse).getD i (fun _ _ => False)) v w ∧ Linked o a v) :
  ∀ (fs : List (Tmp × Nat)), linkEndOk l fs = true → endsOk l.toArray plan l.length fs = true → factsE T (fun t => a.tmps.getD t undef) w fs
 | [], _, _ => trivial
 | (t, d) :: r, h, h2 => by
  simp only [linkEndOk, List.all_cons, Bool.and_eq_true] at h; simp only [endsOk, List.all_cons, Bool.and_eq_true, decide_eq_true_eq] at h2; obtain ⟨ho, hr⟩ := h; obtain ⟨⟨hd, hn⟩, hr2⟩ := h2; refine ⟨?_, factsE_of6 hlen hall r (by simpa [linkEndOk] using hr) (by simpa [endsOk] using hr2)⟩
  cases hx : l[l.length - 1 - d]? with
  | none => rw [hx] at ho; cases ho
  | some o =>
   rw [hx] at ho; obtain ⟨v, hv, hlk⟩ := hall (l.length - 1 - d) o (by simpa using hx) hn; rw [hlk t (by simpa using ho), ← hlen, getD_rev T _ (by omega)] at hv; exact hv
theorem wp_region_rg6 {id : Nat} {Q : Exit → Act → World → Prop} {l : List Oper} {L : List Value} {ds : List Deferred} (R : World → World → Prop) (Rs : Nat → World → World → Prop) (plan : List (List (Tmp × Option Nat))) (fin lnk : List (Tmp × Nat)) (mask : List (Option Tmp))
  (hplan : (planOk l.toArray (backs 0 plan) && nearOk 0 plan && maskOk l 0 mask && endOk l fin && endsOk l.toArray (backs 0 plan) l.length fin && linksOk l.toArray && linkEndOk l lnk && endsOk l.toArray (backs 0 plan) l.length lnk) = true) (hmask : mask.length = L.length)
  (hm : P.follows .mixedOrders = true) (hrefl : ∀ w, R w w) (htrans : ∀ a b c, R a b → R b c → R a c) (hsrefl : ∀ k w, Rs k w w) (hdrew : R w0 w0.drew)
  (hdst : (l.all fun o => match o.dst with | some d => decide (d < L.length) | none => true) = true)
  (h : RG2L P l.toArray (backs 0 plan) R Rs w0 ⟨L.toArray, ds⟩ (fun T => ∀ f w, R w0 w → factsE T f w fin → factsE T f w lnk → Q .normal ⟨(mergeT mask L f).toArray, ds⟩ w) l plan []) : (Code.region id l.toArray true).wp P Q ⟨L.toArray, ds⟩ w0 := by
 simp only [Bool.and_eq_true] at hplan; obtain ⟨⟨⟨⟨⟨⟨⟨h1, h2⟩, h3⟩, h4⟩, h5⟩, h6⟩, h7⟩, h8⟩ := hplan; refine wp_region_rgl R Rs (backs 0 plan) h6 h1 hm hrefl htrans hsrefl hdrew (by simpa using hdst) ?_; refine RGL_of_RG2L (ops := l.toArray) ?_ l plan [] (by simp) h2 h; intro T hE hT a w hR hd hs hsame hall hdone; have hT' : T.length = l.length := (by simpa using hT); have hf := hE _ w hR (factsE_of5 hT' hall fin h4 h5) (factsE_of6 hT' hdone lnk h7 h8)
 have hmerge := merge_is (l := l) (a := a) mask L [] h3 hmask (by simpa using hs.symm) (fun t ht => by
  have := hsame t (fun i o ho => ht i o (by simpa using ho)); rw [this]
  simp [Array.getD_eq_getD_getElem?, List.getD_eq_getElem?_getD])
 rw [hmerge] at hf; simp only [List.length_nil, List.drop_zero] at hf; have e : a = ⟨a.tmps, ds⟩ := (by cases a; simp only at hd; rw [hd]); rw [e]; exact hf
theorem RGStep.more {R : World → World → Prop} {o : Oper} {S S' : Value → World → Prop} {a : Act} {w : World} (hS : ∀ v w', S v w' → S' v w') (h : RGStep P ops R o S a w) : RGStep P ops R o S' a w := by
 unfold RGStep at h ⊢
 split
 ·rename_i hw
  rw [if_pos hw] at h; exact Oper.wp_mono (fun a' w' ⟨v, e, hv, hR⟩ => ⟨v, e, hS v w' hv, hR⟩) h
 ·rename_i hw
  rw [if_neg hw] at h; exact hS _ _ h
theorem rgl_at {E : List (Value → World → Prop) → Prop} {o : Oper} {l : List Oper} {fs : List (Tmp × Option Nat)} {plan : List (List (Tmp × Option Nat))} {T : List (Value → World → Prop)} (S : Value → World → Prop) (hst : Stands5 ops pl Rs T.length S) (hn : linkOf o = none)
  (h1 : ∀ a w, R w0 w → factsOf T a0 a w fs → RGStep P ops (Rk5 R Rs T.length) o S a w) (h2 : RG2L P ops pl R Rs w0 a0 E l plan (S :: T)) : RG2L P ops pl R Rs w0 a0 E (o :: l) (fs :: plan) T :=
 ⟨S, hst, fun a w hR hf => (h1 a w hR hf).more (fun v w' hv => ⟨hv, Linked.none hn⟩), h2⟩
theorem rgl_ev {E : List (Value → World → Prop) → Prop} {o : Oper} {l : List Oper} {fs : List (Tmp × Option Nat)} {plan : List (List (Tmp × Option Nat))} {T : List (Value → World → Prop)} {v : Value} (hn : linkOf o = none)
  (h1 : ∀ a w, R w0 w → factsOf T a0 a w fs → RGStep P ops (Rk5 R Rs T.length) o (EV v) a w) (h2 : RG2L P ops pl R Rs w0 a0 E l plan (EV v :: T)) : RG2L P ops pl R Rs w0 a0 E (o :: l) (fs :: plan) T := rgl_at (EV v) (Stands5.ev v) hn h1 h2
theorem rgl_store {E : List (Value → World → Prop) → Prop} {o : Oper} {l : List Oper} {fs : List (Tmp × Option Nat)} {plan : List (List (Tmp × Option Nat))} {T : List (Value → World → Prop)} {t : Tmp} (S : Value → World → Prop) (hst : Stands5 ops pl Rs T.length S) (hn : linkOf o = some t)
  (h1 : ∀ a w, R w0 w → factsOf T a0 a w fs → RGStep P ops (Rk5 R Rs T.length) o (fun v w' => v = a.tmps.getD t undef ∧ S v w') a w) (h2 : RG2L P ops pl R Rs w0 a0 E l plan (S :: T)) : RG2L P ops pl R Rs w0 a0 E (o :: l) (fs :: plan) T :=
 ⟨S, hst, fun a w hR hf => (h1 a w hR hf).more (fun v w' hv => ⟨hv.2, fun t' ht' => by rw [hn] at ht'; cases ht'; exact hv.1⟩), h2⟩
end
end Go.Proofs.Ytfeglnpmpgipiaa
end
section
set_option linter.unusedVariables false
namespace Go.Proofs.Ytfeglnpmpgipiaa
open Go.RowKit
section
variable {P : Program} {ops : Array Oper} {pl : List (List (Tmp × Option Nat))} {R : World → World → Prop} {Rs : Nat → World → World → Prop} {C : Nat → World → Prop} {dirty : List Nat} {w0 : World} {a0 : Act}
def Rk7 (ops : Array Oper) (R : World → World → Prop) (Rs : Nat → World → World → Prop) (C : Nat → World → Prop) (dirty : List Nat) (k : Nat) : World → World → Prop := fun w w' => R w w' ∧ Rs k w w' ∧ (∀ d ∈ dirty, d ≠ k → (ancs ops k).contains d = false → C d w → C d w')
def RG7 (P : Program) (ops : Array Oper) (pl : List (List (Tmp × Option Nat))) (R : World → World → Prop) (Rs : Nat → World → World → Prop) (C : Nat → World → Prop) (dirty : List Nat) (w0 : World) (a0 : Act) (Q : Exit → Act → World → Prop) : List Oper → List (List (Tmp × Option Nat)) → List (Value → World → Prop) → Prop
 | [], _, T => ∀ a w, R w0 w → a.defers = a0.defers → a.tmps.size = a0.tmps.size → (∀ t, (∀ (i : Nat) (o : Oper), ops[i]? = some o → o.dst ≠ some t) → a.tmps.getD t undef = a0.tmps.getD t undef) →
   (∀ (i : Nat) (o : Oper) d, ops[i]? = some o → o.dst = some d → neverOver ops pl i = true → ((T).getD i (fun _ _ => False)) (a.tmps.getD d undef) w) → (∀ (i : Nat) (o : Oper), ops[i]? = some o → neverOver ops pl i = true → ∃ v, ((T).getD i (fun _ _ => False)) v w) → Q .normal a w
 | o :: l, fs :: plan, T => ∃ S, Stands5 ops pl Rs T.length S ∧ (∀ a w, R w0 w → (∀ d ∈ dirty, ahead ops d T.length = true → C d w) → factsOf T a0 a w fs → RGStep P ops (Rk7 ops R Rs C dirty T.length) o S a w) ∧ RG7 P ops pl R Rs C dirty w0 a0 Q l plan (T ++ [S])
 | _ :: _, [], _ => False
theorem RG7_extract {Q : Exit → Act → World → Prop} : ∀ (l : List Oper) (plan : List (List (Tmp × Option Nat))) (T : List (Value → World → Prop)),
  (∀ (k : Nat) fs, plan[k]? = some fs → ∀ t i, (t, some i) ∈ fs → i < T.length + k) → RG7 P ops pl R Rs C dirty w0 a0 Q l plan T →
  ∃ T', T'.take T.length = T ∧ T'.length = T.length + l.length ∧
   (∀ (k : Nat) o, l[k]? = some o → ∃ fs S, plan[k]? = some fs ∧ T'[T.length + k]? = some S ∧ Stands5 ops pl Rs (T.length + k) S ∧ ∀ a w, R w0 w → (∀ d ∈ dirty, ahead ops d (T.length + k) = true → C d w) → factsOf T' a0 a w fs → RGStep P ops (Rk7 ops R Rs C dirty (T.length + k)) o S a w) ∧
   (∀ a w, R w0 w → a.defers = a0.defers → a.tmps.size = a0.tmps.size → (∀ t, (∀ (i : Nat) (o : Oper), ops[i]? = some o → o.dst ≠ some t) → a.tmps.getD t undef = a0.tmps.getD t undef) →
    (∀ (i : Nat) (o : Oper) d, ops[i]? = some o → o.dst = some d → neverOver ops pl i = true → ((T').getD i (fun _ _ => False)) (a.tmps.getD d undef) w) → (∀ (i : Nat) (o : Oper), ops[i]? = some o → neverOver ops pl i = true → ∃ v, ((T').getD i (fun _ _ => False)) v w) → Q .normal a w)
 | [], _, T, _, h => ⟨T, List.take_length, rfl, fun k o hk => by simp at hk, h⟩
 | o :: l, [], _, _, h => h.elim
 | o :: l, fs :: plan, T, hi, h => by
  obtain ⟨S, hS, hstep, hrest⟩ := h
  obtain ⟨T', h1, h2, h3, h4⟩ := RG7_extract l plan (T ++ [S]) (fun k f hf t i hm => by
   have := hi (k + 1) f (by simpa using hf) t i hm
   simp; omega) hrest
  have hlen : (T ++ [S]).length = T.length + 1 := by simp
  have hT : T'.take T.length = T := by
   have := congrArg (List.take T.length) h1; rw [List.take_take, hlen, Nat.min_eq_left (by omega), List.take_left] at this; exact this
  have hS' : T'[T.length]? = some S := by
   have e : (T'.take (T ++ [S]).length)[T.length]? = (T ++ [S])[T.length]? := (by rw [h1]); rw [List.getElem?_take, if_pos (by omega), List.getElem?_append_right (Nat.le_refl _)] at e
   simpa using e
  refine ⟨T', hT, by rw [h2, hlen]; simp; omega, fun k x hk => ?_, h4⟩
  cases k with
  | zero =>
   simp only [List.getElem?_cons_zero, Option.some.injEq] at hk; subst hk; exact ⟨fs, S, rfl, hS', hS, fun a w hR hC hf => hstep a w hR hC (factsOf_prefix hT rfl (fun t i hm => by have := hi 0 fs rfl t i hm; omega) hf)⟩
  | succ k =>
   obtain ⟨f, S2, e1, e2, e3, e4⟩ := h3 k x (by simpa using hk); have e5 : (T ++ [S]).length + k = T.length + (k + 1) := (by rw [hlen]; omega); rw [e5] at e2 e3 e4; exact ⟨f, S2, by simpa using e1, e2, e3, e4⟩
structure RG7Inv (ops : Array Oper) (pl : List (List (Tmp × Option Nat))) (R : World → World → Prop) (Rs : Nat → World → World → Prop) (C : Nat → World → Prop) (dirty : List Nat) (w0 : World) (a0 : Act) (T : List (Value → World → Prop)) (listed : Array Bool) (a : Act) (w : World) : Prop where
 later : R w0 w
 defers : a.defers = a0.defers
 size : a.tmps.size = a0.tmps.size
 same : ∀ t, (∀ (i : Nat) (o : Oper), ops[i]? = some o → listed.getD i true = true → o.dst ≠ some t) → a.tmps.getD t undef = a0.tmps.getD t undef
 closed : ∀ (i : Nat) (o : Oper) k, ops[i]? = some o → listed.getD i true = true → waitsFor o k = true → listed.getD k true = true
 told : ∀ (i : Nat) (o : Oper) d, ops[i]? = some o → listed.getD i true = true → o.dst = some d → (∀ (j : Nat) x, ops[j]? = some x → listed.getD j true = true → overK ops pl i j = false) → (T.getD i (fun _ _ => False)) (a.tmps.getD d undef) w
 done : ∀ (i : Nat) (o : Oper), ops[i]? = some o → listed.getD i true = true → (∀ (j : Nat) x, ops[j]? = some x → listed.getD j true = true → overK ops pl i j = false) → ∃ v, (T.getD i (fun _ _ => False)) v w
 clean : ∀ d ∈ dirty, listed.getD d true = false → C d w
variable {T : List (Value → World → Prop)}
theorem rg7_any {Q : Exit → Act → World → Prop} (hplan : planOk ops pl = true) (htrans : ∀ a b c, R a b → R b c → R a c) (hrefl : ∀ w, R w w) (hsrefl : ∀ k w, Rs k w w)
  (hdst : ∀ (i : Nat) (o : Oper) d, ops[i]? = some o → o.dst = some d → d < a0.tmps.size)
  (hdirty : ∀ d ∈ dirty, d < ops.size)
  (hstep : ∀ (k : Nat) o, ops[k]? = some o → ∃ S, T[k]? = some S ∧ Stands5 ops pl Rs k S ∧ ∀ a w, R w0 w → (∀ d ∈ dirty, ahead ops d k = true → C d w) → factsOf T a0 a w (pl.getD k []) → RGStep P ops (Rk7 ops R Rs C dirty k) o S a w)
  (hend : ∀ a w, R w0 w → a.defers = a0.defers → a.tmps.size = a0.tmps.size → (∀ t, (∀ (i : Nat) (o : Oper), ops[i]? = some o → o.dst ≠ some t) → a.tmps.getD t undef = a0.tmps.getD t undef) →
   (∀ (i : Nat) (o : Oper) d, ops[i]? = some o → o.dst = some d → neverOver ops pl i = true → (T.getD i (fun _ _ => False)) (a.tmps.getD d undef) w) → (∀ (i : Nat) (o : Oper), ops[i]? = some o → neverOver ops pl i = true → ∃ v, (T.getD i (fun _ _ => False)) v w) → Q .normal a w) :
  ∀ (fuel : Nat) (listed : Array Bool) (a : Act) (w : World), listed.size = ops.size → (listed.toList.filter (!·)).length ≤ fuel → RG7Inv ops pl R Rs C dirty w0 a0 T listed a w → wpAny P .any ops Q fuel listed a w := by
 simp only [planOk, Bool.and_eq_true, beq_iff_eq, List.all_eq_true, List.mem_range] at hplan; obtain ⟨hpl, hpk⟩ := hplan; have hop : ∀ (k : Nat) o, ops[k]? = some o → k < ops.size := fun k o h => (Array.getElem?_eq_some_iff.1 h).1
 have hall : ∀ (k : Nat) o, ops[k]? = some o → (∀ e ∈ o.after, Region.binds .any e = true → e.on < k) ∧ (∀ f ∈ pl.getD k [], factOk ops k o f = true) ∧
   (∀ (i : Nat) x, i ≠ k → ops[i]? = some x → ∀ d, x.dst = some d → o.dst ≠ some d) := by
  intro k o hk; have := hpk k (hop k o hk); simp only [hk, Bool.and_eq_true, List.all_eq_true, List.mem_range, Array.all_eq_true_iff_forall_mem] at this; obtain ⟨⟨h1, h2⟩, h3⟩ := this; refine ⟨fun e he hb => ?_, h2, fun i x hi hx d hd => ?_⟩
  ·have := h1 e he; simp only [hb, Bool.not_true, Bool.false_or, decide_eq_true_eq] at this; exact this
  ·have := h3 i (hop i x hx); simp only [hx, hd, Bool.or_eq_true, beq_iff_eq, hi, false_or, reduceCtorEq, bne_iff_ne, ne_eq] at this; exact fun e => this e.symm
 have hfull : ∀ (listed : Array Bool), listed.size = ops.size → Region.ready .any ops listed = [] → ∀ (i : Nat), listed.getD i true = true := by
  intro listed hs hr i
  induction i using Nat.strongRecOn with
  | _ i ih =>
   rcases Bool.eq_false_or_eq_true (listed.getD i true) with h | h
   ·exact h
   ·exfalso
    have hi : i < ops.size := by
     rcases Nat.lt_or_ge i ops.size with h' | h'
     ·exact h'
     ·rw [Array.getD_eq_getD_getElem?, Array.getElem?_eq_none (by omega)] at h; cases h
    have ho : ops[i]? = some ops[i] := Array.getElem?_eq_getElem hi
    have hm : i ∈ Region.ready .any ops listed := by
     unfold Region.ready; rw [List.mem_filter]; refine ⟨List.mem_range.2 hi, ?_⟩; rw [h, ho]; simp only [Bool.not_false, Bool.true_and, Option.map_some, Option.getD_some, Array.all_eq_true_iff_forall_mem, Bool.or_eq_true, Bool.not_eq_true']; intro e he
     by_cases hb : Region.binds .any e = true
     ·right
      have hlt := (hall i _ ho).1 e he hb; have := ih e.on hlt; rw [Array.getD_eq_getD_getElem?, Array.getElem?_eq_getElem (by omega)] at this ⊢; exact this
     ·left; simpa using hb
    rw [hr] at hm; cases hm
 have hfin : ∀ (listed : Array Bool) (a : Act) (w : World), (∀ (i : Nat), listed.getD i true = true) → RG7Inv ops pl R Rs C dirty w0 a0 T listed a w → Q .normal a w := fun listed a w hl h =>
  hend a w h.later h.defers h.size (fun t ht => h.same t (fun i o ho _ => ht i o ho)) (fun i o d ho hd hn => h.told i o d ho (hl i) hd (fun j _ _ _ => neverOver_all hn j)) (fun i o ho hn => h.done i o ho (hl i) (fun j _ _ _ => neverOver_all hn j))
 intro fuel
 induction fuel with
 | zero =>
  intro listed a w hs hf h
  have hl : ∀ (i : Nat), listed.getD i true = true := by
   intro i; rw [Array.getD_eq_getD_getElem?]
   cases hi : listed[i]? with
   | none => rfl
   | some b =>
    cases b with
    | true => rfl
    | false =>
     have hm : false ∈ listed.toList.filter (!·) := List.mem_filter.2 ⟨by rw [Array.mem_toList_iff]; exact Array.mem_of_getElem? hi, rfl⟩; have : listed.toList.filter (!·) = [] := List.eq_nil_of_length_eq_zero (by omega); rw [this] at hm; cases hm
  refine ⟨?_, hfin listed a w hl h⟩; unfold Region.ready; apply List.filter_eq_nil_iff.2; intro i _; rw [hl i]; simp
 | succ fuel ih =>
  intro listed a w hs hf h; refine ⟨fun hr => hfin listed a w (hfull listed hs hr) h, fun k hk => ?_⟩; unfold Region.ready at hk; rw [List.mem_filter] at hk; obtain ⟨hk1, hk2⟩ := hk; have hkl : k < ops.size := List.mem_range.1 hk1; have ho : ops[k]? = some ops[k] := Array.getElem?_eq_getElem hkl; generalize ops[k] = o at ho; rw [ho] at hk2; simp only [Bool.and_eq_true, Bool.not_eq_true', Option.map_some, Option.getD_some, Array.all_eq_true_iff_forall_mem, Bool.or_eq_true] at hk2; obtain ⟨hun, haft⟩ := hk2; obtain ⟨hon, hfs, hdd⟩ := hall k o ho; obtain ⟨S, hS, hst, hrun⟩ := hstep k o ho
  have hwait : ∀ i, waitsFor o i = true → listed.getD i true = true := by
   intro i hw; simp only [waitsFor, List.any_eq_true, Bool.and_eq_true, beq_iff_eq] at hw; obtain ⟨e, he, hb, rfl⟩ := hw; rw [Array.mem_toList_iff] at he; have h1 := haft e he; rw [hb] at h1; have h2 : listed.getD e.on false = true := (by simpa using h1); have h3 := hon e he hb; rw [Array.getD_eq_getD_getElem?, Array.getElem?_eq_getElem (by omega)] at h2 ⊢; exact h2
  have hfacts : ∀ fs, (∀ f ∈ fs, factOk ops k o f = true) → (∀ f ∈ fs, f ∈ pl.getD k []) → factsOf T a0 a w fs := by
   intro fs
   induction fs with
   | nil => intro _ _; exact trivial
   | cons f fs ihf =>
    intro hf hin; have hrest := ihf (fun g hg => hf g (List.mem_cons_of_mem _ hg)) (fun g hg => hin g (List.mem_cons_of_mem _ hg)); have hf0 := hf f (by simp); obtain ⟨t, x⟩ := f
    cases x with
    | none =>
     refine ⟨h.same t (fun i x hx hl hd => ?_), hrest⟩; simp only [factOk, List.all_eq_true, List.mem_range] at hf0; have h1 := hf0 i (hop i x hx); have hik : i ≠ k := (by rintro rfl; rw [hun] at hl; cases hl); simp only [hx, hd, Bool.or_eq_true, beq_iff_eq, hik, false_or, bne_self_eq_false, Bool.false_eq_true] at h1; have := h.closed i x k hx hl h1; rw [hun] at this; cases this
    | some i =>
     simp only [factOk, Bool.and_eq_true, decide_eq_true_eq] at hf0; obtain ⟨⟨_, hw⟩, hd⟩ := hf0
     cases hx : ops[i]? with
     | none => rw [hx] at hd; cases hd
     | some x =>
      rw [hx] at hd; refine ⟨h.told i x t hx (hwait i hw) (by simpa using hd) (fun j y hy hlj => ?_), hrest⟩
      rcases Bool.eq_false_or_eq_true (overK ops pl i j) with ho2 | ho2
      ·exfalso
       rcases overK_use (hin (t, some i) (by simp)) ho2 with e | e
       ·subst e; rw [hun] at hlj; cases hlj
       ·have h3 := ancs_sound ops j listed hlj ⟨y, hy⟩ h.closed k (by simpa using e); rw [hun] at h3; cases h3
      ·exact ho2
  have hgo := hrun a w h.later (fun d hd hb => h.clean d hd (by
   rcases Bool.eq_false_or_eq_true (listed.getD d true) with h1 | h1
   ·exfalso
    unfold ahead at hb; rw [Bool.or_eq_true] at hb
    rcases hb with he | h2
    ·obtain rfl : d = k := (by simpa using he); rw [hun] at h1; cases h1
    have h3 := ancs_sound ops d listed h1 ⟨_, Array.getElem?_eq_getElem (hdirty d hd)⟩ h.closed k (by simpa using h2); rw [hun] at h3; cases h3
   ·exact h1)) (hfacts _ hfs (fun f hf => hf))
  have hnext : ∀ v w', S v w' → Rk7 ops R Rs C dirty k w w' → wpAny P .any ops Q fuel (listed.setIfInBounds k true) (a.put o.dst v) w' := by
   intro v w' hv hRk; have hR := hRk.1
   have hstand : ∀ (i : Nat) (x : Oper), ops[i]? = some x → listed.getD i true = true → i ≠ k → overK ops pl i k = false → ∀ u, (T.getD i (fun _ _ => False)) u w → (T.getD i (fun _ _ => False)) u w' := by
    intro i x hx hl2 hik hov u h1; obtain ⟨S', hS', hst', _⟩ := hstep i x hx; rw [List.getD_eq_getElem?_getD, hS'] at h1 ⊢; refine hst' k (fun e => hik e.symm) ?_ hov _ _ _ h1 hRk.2.1
    rcases Bool.eq_false_or_eq_true ((ancs ops i).contains k) with h2 | h2
    ·have h3 := ancs_sound ops i listed hl2 ⟨x, hx⟩ h.closed k (by simpa using h2); rw [hun] at h3; cases h3
    ·exact h2
   have hks : k < listed.size := by omega
   have hclosed : ∀ (i : Nat) (x : Oper) j, ops[i]? = some x → (listed.setIfInBounds k true).getD i true = true → waitsFor x j = true → (listed.setIfInBounds k true).getD j true = true := by
    intro i x j hx hl hw
    rcases getD_true_set hl with rfl | hl2
    ·rw [ho] at hx; cases hx; have := hwait j hw
     by_cases e : i = j
     ·subst e; rw [Array.getD_eq_getD_getElem?, Array.getElem?_setIfInBounds_self_of_lt hks]; rfl
     ·rw [Array.getD_eq_getD_getElem?, Array.getElem?_setIfInBounds_ne e, ← Array.getD_eq_getD_getElem?]; exact this
    ·have := h.closed i x j hx hl2 hw
     by_cases e : k = j
     ·subst e; rw [Array.getD_eq_getD_getElem?, Array.getElem?_setIfInBounds_self_of_lt hks]; rfl
     ·rw [Array.getD_eq_getD_getElem?, Array.getElem?_setIfInBounds_ne e, ← Array.getD_eq_getD_getElem?]; exact this
   have hk1 : (listed.setIfInBounds k true).getD k true = true := by rw [Array.getD_eq_getD_getElem?, Array.getElem?_setIfInBounds_self_of_lt hks]; rfl
   have hmono : ∀ j, listed.getD j true = true → (listed.setIfInBounds k true).getD j true = true := fun j hj => by
    by_cases e : k = j
    ·subst e; exact hk1
    ·rw [Array.getD_eq_getD_getElem?, Array.getElem?_setIfInBounds_ne e, ← Array.getD_eq_getD_getElem?]; exact hj
   refine ih _ _ _ (by simpa using hs) ?_ ⟨htrans _ _ _ h.later hR, by rw [put_defers, h.defers], by rw [put_size, h.size], ?_, hclosed, ?_, ?_, ?_⟩
   ·have hlt : ((listed.setIfInBounds k true).toList.filter (!·)).length < (listed.toList.filter (!·)).length := by
     have hk2 : listed.toList[k]? = some false := by
      rw [Array.getD_eq_getD_getElem?, Array.getElem?_eq_getElem hks] at hun; simp only [Option.getD_some] at hun; rw [Array.getElem?_toList, Array.getElem?_eq_getElem hks, hun]
     rw [Array.toList_setIfInBounds]; exact filter_set_lt _ _ hk2
    omega
   ·intro t ht; have h1 : o.dst ≠ some t := ht k o ho (by rw [Array.getD_eq_getD_getElem?, Array.getElem?_setIfInBounds_self_of_lt hks]; rfl); rw [put_tmps _ _ _ _ h1]; refine h.same t (fun i x hx hl => ht i x hx ?_)
    by_cases e : k = i
    ·subst e; rw [Array.getD_eq_getD_getElem?, Array.getElem?_setIfInBounds_self_of_lt hks]; rfl
    ·rw [Array.getD_eq_getD_getElem?, Array.getElem?_setIfInBounds_ne e, ← Array.getD_eq_getD_getElem?]; exact hl
   ·intro i x d hx hl hd hal
    rcases getD_true_set hl with rfl | hl2
    ·rw [ho] at hx; cases hx; rw [hd, put_at _ _ _ (by rw [h.size]; exact hdst i o d ho hd)]; rw [List.getD_eq_getElem?_getD, hS]; exact hv
    ·have hik : i ≠ k := (by rintro rfl; rw [hun] at hl2; cases hl2); rw [put_tmps _ _ _ _ (hdd i x hik hx d hd)]; exact hstand i x hx hl2 hik (hal k o ho hk1) _ (h.told i x d hx hl2 hd (fun j y hy hj => hal j y hy (hmono j hj)))
   ·intro i x hx hl hal
    rcases getD_true_set hl with rfl | hl2
    ·exact ⟨v, by rw [List.getD_eq_getElem?_getD, hS]; exact hv⟩
    ·have hik : i ≠ k := (by rintro rfl; rw [hun] at hl2; cases hl2); obtain ⟨u, hu⟩ := h.done i x hx hl2 (fun j y hy hj => hal j y hy (hmono j hj)); exact ⟨u, hstand i x hx hl2 hik (hal k o ho hk1) u hu⟩
   ·intro d hd hdl
    have hdk : k ≠ d := by
     rintro rfl; rw [Array.getD_eq_getD_getElem?, Array.getElem?_setIfInBounds_self_of_lt hks] at hdl; cases hdl
    refine hRk.2.2 d hd (fun e => hdk e.symm) ?_ (h.clean d hd ?_)
    ·rcases Bool.eq_false_or_eq_true ((ancs ops k).contains d) with h2 | h2
     ·have h3 := ancs_sound ops k (listed.setIfInBounds k true) (by rw [Array.getD_eq_getD_getElem?, Array.getElem?_setIfInBounds_self_of_lt hks]; rfl) ⟨o, ho⟩ hclosed d (by simpa using h2); rw [hdl] at h3; cases h3
     ·exact h2
    rw [Array.getD_eq_getD_getElem?, Array.getElem?_setIfInBounds_ne hdk, ← Array.getD_eq_getD_getElem?] at hdl; exact hdl
  unfold wpOp; rw [ho]; unfold RGStep at hgo; dsimp only
  split
  ·rename_i hw
   rw [if_pos hw] at hgo; exact .inl (Oper.wp_noexit (fun a' w' ⟨v, e, hv, hR⟩ => by rw [e]; exact hnext v w' hv hR) hgo)
  ·rename_i hw
   rw [if_neg hw] at hgo; exact hnext undef w hgo ⟨hrefl w, hsrefl _ w, fun _ _ _ _ h => h⟩
theorem wp_region_rg7b {id : Nat} {Q : Exit → Act → World → Prop} {l : List Oper} (R : World → World → Prop) (Rs : Nat → World → World → Prop) (C : Nat → World → Prop) (dirty : List Nat) (plan : List (List (Tmp × Option Nat))) (hplan : planOk l.toArray plan = true)
  (hm : P.follows .mixedOrders = true) (hrefl : ∀ w, R w w) (htrans : ∀ a b c, R a b → R b c → R a c) (hsrefl : ∀ k w, Rs k w w) (hdrew : R w0 w0.drew) (hclean : ∀ d ∈ dirty, C d w0.drew) (hdirty : (dirty.all fun d => decide (d < l.length)) = true)
  (hdst : (l.all fun o => match o.dst with | some d => decide (d < a0.tmps.size) | none => true) = true)
  (h : RG7 P l.toArray plan R Rs C dirty w0 a0 Q l plan []) : (Code.region id l.toArray true).wp P Q a0 w0 := by
 refine wp_region_any hm ?_; have hp := hplan; simp only [planOk, Bool.and_eq_true, beq_iff_eq, List.all_eq_true, List.mem_range] at hp; obtain ⟨hpl, hpk⟩ := hp; have hop : ∀ (k : Nat) o, l.toArray[k]? = some o → k < l.toArray.size := fun k o h => (Array.getElem?_eq_some_iff.1 h).1
 obtain ⟨T, h1, h2, h3, h4⟩ := RG7_extract l plan [] (fun k fs hk t i hm' => by
  have hk' : k < plan.length := (List.getElem?_eq_some_iff.1 hk).1; have := hpk k (by rw [← hpl]; exact hk'); rw [hpl] at hk'; rw [Array.getElem?_eq_getElem hk'] at this; simp only [Bool.and_eq_true, List.all_eq_true] at this; have := this.1.2 (t, some i) (by rw [List.getD_eq_getElem?_getD, hk]; exact hm'); simp only [factOk, Bool.and_eq_true, decide_eq_true_eq] at this
  simpa using this.1.1) h
 simp only [List.length_nil, Nat.zero_add] at h2 h3; refine rg7_any (T := T) (pl := plan) (R := R) (Rs := Rs) (C := C) (dirty := dirty) (w0 := w0) (a0 := a0) hplan htrans hrefl hsrefl ?_ ?_ ?_ ?_ _ _ _ _ (by simp) (by simp) ?_
 ·intro i o d ho hd
  have hm' : o ∈ l := by
   have : o ∈ l.toArray := Array.mem_of_getElem? ho
   simpa using this
  have := List.all_eq_true.1 hdst o hm'; rw [hd] at this
  simpa using this
 ·intro d hd
  simpa using List.all_eq_true.1 hdirty d hd
 ·intro k o ho; obtain ⟨fs, S, e1, e2, e3, e4⟩ := h3 k o (by simpa using ho); exact ⟨S, e2, e3, by rw [List.getD_eq_getElem?_getD, e1]; exact e4⟩
 ·intro a w hR hd hs hsame htold hdone; exact h4 a w hR hd hs hsame htold hdone
 ·refine ⟨hdrew, rfl, rfl, fun _ _ => rfl, fun i o k ho hl _ => ?_, fun i o d ho hl _ _ => ?_, fun i o ho hl _ => ?_, fun d hd _ => hclean d hd⟩
  ·have := hop i o ho; simp only [List.size_toArray] at this
   simp [this] at hl
  ·have := hop i o ho; simp only [List.size_toArray] at this
   simp [this] at hl
  ·have := hop i o ho; simp only [List.size_toArray] at this
   simp [this] at hl
def RG27 (P : Program) (ops : Array Oper) (pl : List (List (Tmp × Option Nat))) (R : World → World → Prop) (Rs : Nat → World → World → Prop) (C : Nat → World → Prop) (dirty : List Nat) (w0 : World) (a0 : Act) (E : List (Value → World → Prop) → Prop) : List Oper → List (List (Tmp × Option Nat)) → List (Value → World → Prop) → Prop
 | [], _, T => E T
 | o :: l, fs :: plan, T => ∃ S, Stands5 ops pl Rs T.length S ∧ (∀ a w, R w0 w → (∀ d ∈ dirty, ahead ops d T.length = true → C d w) → factsOf T a0 a w fs → RGStep P ops (Rk7 ops R Rs C dirty T.length) o S a w) ∧ RG27 P ops pl R Rs C dirty w0 a0 E l plan (S :: T)
 | _ :: _, [], _ => False
theorem RG7_of_RG27 {Q : Exit → Act → World → Prop} {E : List (Value → World → Prop) → Prop}
  (hE : ∀ T, E T → T.length = ops.size → ∀ a w, R w0 w → a.defers = a0.defers → a.tmps.size = a0.tmps.size → (∀ t, (∀ (i : Nat) (o : Oper), ops[i]? = some o → o.dst ≠ some t) → a.tmps.getD t undef = a0.tmps.getD t undef) →
   (∀ (i : Nat) (o : Oper) d, ops[i]? = some o → o.dst = some d → neverOver ops pl i = true → ((T.reverse).getD i (fun _ _ => False)) (a.tmps.getD d undef) w) → (∀ (i : Nat) (o : Oper), ops[i]? = some o → neverOver ops pl i = true → ∃ v, ((T.reverse).getD i (fun _ _ => False)) v w) → Q .normal a w) :
  ∀ (l : List Oper) (plan : List (List (Tmp × Option Nat))) (T : List (Value → World → Prop)), T.length + l.length = ops.size → nearOk T.length plan = true →
   RG27 P ops pl R Rs C dirty w0 a0 E l plan T → RG7 P ops pl R Rs C dirty w0 a0 Q l (backs T.length plan) T.reverse
 | [], plan, T, hl, _, h => by
  cases plan <;> exact hE T h (by simpa using hl)
 | o :: l, [], _, _, _, h => h.elim
 | o :: l, fs :: plan, T, hl, hn, h => by
  obtain ⟨S, h1, h2, h3⟩ := h; simp only [nearOk, Bool.and_eq_true] at hn; have := RG7_of_RG27 hE l plan (S :: T) (by simp only [List.length_cons] at hl ⊢; omega) (by simpa using hn.2) h3; rw [List.reverse_cons, List.length_cons] at this; refine ⟨S, by rw [List.length_reverse]; exact h1, ?_, this⟩; rw [List.length_reverse]; exact fun a w hR hC hf => h2 a w hR hC (factsOf_back T fs hn.1 hf)
def factsD (T : List (Value → World → Prop)) (w : World) : List Nat → Prop
 | [] => True
 | d :: r => (∃ v, (T.getD d (fun _ _ => False)) v w) ∧ factsD T w r
def linkOk (ops : Array Oper) (plan : List (List (Tmp × Option Nat))) (n : Nat) (l : List Nat) : Bool := l.all fun d => decide (d < n) && neverOver ops plan (n - 1 - d)
theorem factsD_of {l : List Oper} {plan : List (List (Tmp × Option Nat))} {w : World} {T : List (Value → World → Prop)} (hlen : T.length = l.length) (hall : ∀ (i : Nat) (o : Oper), l.toArray[i]? = some o → neverOver l.toArray plan i = true → ∃ v, ((T.reverse).getD i (fun _ _ => False)) v w) :
  ∀ (ds : List Nat), linkOk l.toArray plan l.length ds = true → factsD T w ds
 | [], _ => trivial
 | d :: r, h => by
  simp only [linkOk, List.all_cons, Bool.and_eq_true, decide_eq_true_eq] at h; obtain ⟨⟨hd, hn⟩, hr⟩ := h; refine ⟨?_, factsD_of hlen hall r (by simpa [linkOk] using hr)⟩; have := hall (l.length - 1 - d) l[l.length - 1 - d] (by simp [show l.length - 1 - d < l.length by omega]) hn; rw [← hlen, getD_rev T _ (by omega)] at this; exact this
theorem wp_region_rg7 {id : Nat} {Q : Exit → Act → World → Prop} {l : List Oper} {L : List Value} {ds : List Deferred} (R : World → World → Prop) (Rs : Nat → World → World → Prop) (C : Nat → World → Prop) (dirty : List Nat) (plan : List (List (Tmp × Option Nat))) (fin : List (Tmp × Nat)) (lnk : List Nat) (mask : List (Option Tmp))
  (hplan : (planOk l.toArray (backs 0 plan) && nearOk 0 plan && maskOk l 0 mask && endOk l fin && endsOk l.toArray (backs 0 plan) l.length fin && linkOk l.toArray (backs 0 plan) l.length lnk) = true) (hmask : mask.length = L.length)
  (hm : P.follows .mixedOrders = true) (hrefl : ∀ w, R w w) (htrans : ∀ a b c, R a b → R b c → R a c) (hsrefl : ∀ k w, Rs k w w) (hdrew : R w0 w0.drew) (hclean : ∀ d ∈ dirty, C d w0.drew) (hdirty : (dirty.all fun d => decide (d < l.length)) = true)
  (hdst : (l.all fun o => match o.dst with | some d => decide (d < L.length) | none => true) = true)
  (h : RG27 P l.toArray (backs 0 plan) R Rs C dirty w0 ⟨L.toArray, ds⟩ (fun T => ∀ f w, R w0 w → factsE T f w fin → factsD T w lnk → Q .normal ⟨(mergeT mask L f).toArray, ds⟩ w) l plan []) : (Code.region id l.toArray true).wp P Q ⟨L.toArray, ds⟩ w0 := by
 simp only [Bool.and_eq_true] at hplan; obtain ⟨⟨⟨⟨⟨h1, h2⟩, h3⟩, h4⟩, h5⟩, h6⟩ := hplan; refine wp_region_rg7b R Rs C dirty (backs 0 plan) h1 hm hrefl htrans hsrefl hdrew hclean hdirty (by simpa using hdst) ?_; refine RG7_of_RG27 (ops := l.toArray) ?_ l plan [] (by simp) h2 h; intro T hE hT a w hR hd hs hsame hall hdone; have hT' : T.length = l.length := (by simpa using hT); have hf := hE _ w hR (factsE_of5 hT' hall fin h4 h5) (factsD_of hT' hdone lnk h6)
 have hmerge := merge_is (l := l) (a := a) mask L [] h3 hmask (by simpa using hs.symm) (fun t ht => by
  have := hsame t (fun i o ho => ht i o (by simpa using ho)); rw [this]
  simp [Array.getD_eq_getD_getElem?, List.getD_eq_getElem?_getD])
 rw [hmerge] at hf; simp only [List.length_nil, List.drop_zero] at hf; have e : a = ⟨a.tmps, ds⟩ := (by cases a; simp only at hd; rw [hd]); rw [e]; exact hf
theorem rg7_ev {E : List (Value → World → Prop) → Prop} {o : Oper} {l : List Oper} {fs : List (Tmp × Option Nat)} {plan : List (List (Tmp × Option Nat))} {T : List (Value → World → Prop)} {v : Value}
  (h1 : ∀ a w, R w0 w → (∀ d ∈ dirty, ahead ops d T.length = true → C d w) → factsOf T a0 a w fs → RGStep P ops (Rk7 ops R Rs C dirty T.length) o (EV v) a w) (h2 : RG27 P ops pl R Rs C dirty w0 a0 E l plan (EV v :: T)) : RG27 P ops pl R Rs C dirty w0 a0 E (o :: l) (fs :: plan) T := ⟨EV v, Stands5.ev v, h1, h2⟩
end
end Go.Proofs.Ytfeglnpmpgipiaa
end
section
set_option linter.unusedVariables false
namespace Go.Proofs.Ytfeglnpmpgipiaa
open Go.RowKit
theorem Only.same {w w' : World} {g : Nat} (h : Only [g] w w') (hs : g < w.heap.size → w'.heap[g]? = w.heap[g]?) : Only [] w w' :=
 ⟨h.os, h.tape, h.output, h.size, fun k hk _ => by
  by_cases e : k = g
  ·subst e; exact hs hk
  ·exact h.block k hk (by simpa using e)⟩
theorem rg_append {P : Program} {o : Oper} {a : Act} {K : Act → World → Prop} {w w' : World} {s x : Operand} {t t' : TypeId} {sv xv v : Value}
  (ho : o.op = .call { callee := .builtin .append, args := #[s, x], argTypes := #[t, t'] }) (hs : a.eval s = sv) (hx : a.eval x = xv)
  (hr : (Builtin.append_ #[t, t'] o.type #[sv, xv]).run P w = .ok v w') (h : K (a.put o.dst v) w') : o.wp P a w K (fun _ _ _ => False) := by
 unfold Oper.wp execOp; simp only [ho, resolve, invoke, builtin, Sem.run_bind, Sem.run_pure, Result.andThen_ok, List.map_toArray, List.map_cons, List.map_nil, hs, hx, hr]; exact h
end Go.Proofs.Ytfeglnpmpgipiaa
end
section
set_option linter.unusedVariables false
namespace Go.Proofs.Ytfeglnpmpgipiaa
open Go.RowKit
def Rz (D : List Nat) (Z : World → Prop) : World → World → Prop := fun a b => Only D a b ∧ (Z a → Z b)
theorem Rz.refl (D : List Nat) (Z : World → Prop) (w : World) : Rz D Z w w := ⟨Only.refl _ _, id⟩
theorem Rz.trans {D : List Nat} {Z : World → Prop} (a b c : World) (h : Rz D Z a b) (k : Rz D Z b c) : Rz D Z a c := ⟨h.1.trans k.1 (fun i hi _ => hi), fun z => k.2 (h.2 z)⟩
def OwnB (e : TypeId) (bs : List UInt8) (base : Nat) : Value → World → Prop := fun v w => ∃ q n k, v = .slice q n k ∧ bs.length = n ∧ Own w base e (.slice q n k) (u8s bs)
theorem OwnB.stable {D : List Nat} {Z : World → Prop} (e : TypeId) (bs : List UInt8) (base : Nat) (hD : ∀ x ∈ D, x < base) : Stable (Rz D Z) (OwnB e bs base) := fun v w w' ⟨q, n, k, h1, h2, h3⟩ hR =>
 ⟨q, n, k, h1, h2, h3.only hR.1 (fun x hx hm => by have := (h3.lt x hx).1; have := hD x hm; omega)⟩
end Go.Proofs.Ytfeglnpmpgipiaa
end
section
set_option linter.unusedVariables false
namespace Go.Proofs.Ytfeglnpmpgipiaa
open Go.RowKit
def Dirt (dl : List (Nat × List Nat)) (j : Nat) : World → World → Prop := Only ((dl.lookup j).getD [])
theorem lookup_mem {dl : List (Nat × List Nat)} {j : Nat} {S : List Nat} (h : dl.lookup j = some S) : (j, S) ∈ dl := by
 induction dl with
 | nil => cases h
 | cons x r ih =>
  obtain ⟨a, b⟩ := x; rw [List.lookup_cons] at h
  split at h
  ·rename_i he
   obtain rfl : j = a := (by simpa using he); obtain rfl := Option.some.inj h
   simp
  ·exact List.mem_cons_of_mem _ (ih h)
theorem stands_of {ops : Array Oper} {dl : List (Nat × List Nat)} {k : Nat} {S : Value → World → Prop} (h0 : Stable (Only []) S) (h : ∀ x ∈ dl, (x.1 == k || (ancs ops k).contains x.1) = false → Stable (Only x.2) S) : Stands ops (Dirt dl) k S := by
 intro j hj hc; unfold Dirt
 cases e : dl.lookup j with
 | none => exact h0
 | some D =>
  refine h (j, D) (lookup_mem e) ?_; simp only [Bool.or_eq_false_iff]; exact ⟨by simpa using hj, hc⟩
theorem ownB_stable {D : List Nat} (e : TypeId) (bs : List UInt8) (base : Nat) (hD : ∀ x ∈ D, x < base) : Stable (Only D) (OwnB e bs base) := fun v w w' ⟨q, n, k, h1, h2, h3⟩ hR =>
 ⟨q, n, k, h1, h2, h3.only hR (fun x hx hm => by have := (h3.lt x hx).1; have := hD x hm; omega)⟩
theorem stands_own {ops : Array Oper} {dl : List (Nat × List Nat)} {k : Nat} (e : TypeId) (bs : List UInt8) (base : Nat) (h : ∀ x ∈ dl, (x.1 == k || (ancs ops k).contains x.1) = false → ∀ i ∈ x.2, i < base) : Stands ops (Dirt dl) k (OwnB e bs base) :=
 stands_of (ownB_stable e bs base (by simp)) (fun x hx hk => ownB_stable e bs base (h x hx hk))
theorem two_dirt {ops : Array Oper} {a b k : Nat} {A B : List Nat} {Z : Nat × List Nat → Prop} (h1 : (a == k || (ancs ops k).contains a) = false → Z (a, A)) (h2 : (b == k || (ancs ops k).contains b) = false → Z (b, B)) :
  ∀ x ∈ [(a, A), (b, B)], (x.1 == k || (ancs ops k).contains x.1) = false → Z x := by
 intro x hx; simp only [List.mem_cons, List.not_mem_nil, or_false] at hx
 rcases hx with rfl | rfl
 ·exact h1
 ·exact h2
end Go.Proofs.Ytfeglnpmpgipiaa
end
end
section
set_option linter.unusedVariables false
set_option maxRecDepth 100000
namespace Go.Proofs.Ytfeglnpmpgipiaa
open Go.RowKit
def OwnK (w : World) (base : Nat) (e : TypeId) (K : Nat) (v : Value) (n : Nat) (vs : List Value) : Prop := w.ownsRow base e K v n vs
theorem OwnK.only {S : List Nat} {w w' : World} {base K n : Nat} {e : TypeId} {v : Value} {vs : List Value} (h : OwnK w base e K v n vs) (ho : Only S w w') (hn : ∀ k, v.ownBlock = some k → k ∉ S) : OwnK w' base e K v n vs := by
 refine ⟨h.1, ?_⟩
 rcases h.2 with h2 | ⟨g, cap, cur, rfl, hg, hh, r⟩
 ·exact .inl h2
 ·refine .inr ⟨g, cap, cur, rfl, hg, ?_, r⟩; rw [ho.block g (Array.getElem?_eq_some_iff.1 hh).1 (hn g rfl)]; exact hh
theorem OwnK.only0 {w w' : World} {base K n : Nat} {e : TypeId} {v : Value} {vs : List Value} (h : OwnK w base e K v n vs) (ho : Only [] w w') : OwnK w' base e K v n vs := h.only ho (by simp)
theorem OwnK.weaken {w : World} {base base' K n : Nat} {e : TypeId} {v : Value} {vs : List Value} (h : OwnK w base e K v n vs) (hb : base' ≤ base) : OwnK w base' e K v n vs := by
 refine ⟨h.1, ?_⟩
 rcases h.2 with h2 | ⟨g, cap, cur, hv, hg, r⟩
 ·exact .inl h2
 ·exact .inr ⟨g, cap, cur, hv, by omega, r⟩
theorem OwnK.new {w : World} {base K n : Nat} {e : TypeId} (vs : List Value) (hb : base ≤ w.heap.size) (hl : vs.length = n * K) (hm : n ≤ 9223372036854775807) :
  OwnK (w.alloc (.cells vs.toArray e)) base e K (.slice (some ⟨w.heap.size, 0, none⟩) n n) n vs :=
 World.ownsRow_lit w vs.toArray n hb (by simpa [maxLen] using hm) (by simpa using hl)
theorem OwnK.view {w : World} {base K n m c : Nat} {e : TypeId} {p : Option Addr} {vs : List Value} (h : OwnK w base e K (.slice p m c) n vs) : m = n ∧ vs.length = n * K ∧ Rd w p vs ∧ (p = none → n = 0 ∧ c = 0) ∧ n ≤ c ∧ c ≤ 9223372036854775807 ∧ (∀ k ∈ blk p, base ≤ k ∧ k < w.heap.size) := by
 rcases h.2 with ⟨e1, rfl⟩ | ⟨g, cap, cur, e1, hg, hh, h1, h2, h3, h4⟩
 ·cases e1
  have h0 := h.1
  simp at h0
  subst h0; exact ⟨rfl, by simp, Rd.nil _ _, fun _ => ⟨rfl, rfl⟩, Nat.le_refl _, by omega, by simp [blk]⟩
 ·cases e1
  refine ⟨rfl, h.1, ?_, by simp, h1, by simpa [maxLen] using h2, ?_⟩
  ·have r : Row w g e cur.toList := (by unfold Row; simpa using hh); have := r.rd0.take (n * K); rw [h4] at this; exact this
  ·intro k hk
   simp [blk] at hk; subst hk
   exact ⟨hg, (Array.getElem?_eq_some_iff.1 hh).1⟩
theorem info_partsK {P : Program} {e : TypeId} {z : Value} {K bytes : Nat} (h : (P.info? e).map (fun i => (i.zero, i.size, i.bytes)) = some (some z, K, bytes)) : ∃ i, P.info? e = some i ∧ i.zero = some z ∧ i.size = K ∧ i.bytes = bytes := by
 cases hi : P.info? e with
 | none => rw [hi] at h; cases h
 | some i =>
  rw [hi] at h; simp only [Option.map_some, Option.some.injEq, Prod.mk.injEq] at h; exact ⟨i, rfl, h.1, h.2.1, h.2.2⟩
theorem appendK {P : Program} (w : World) {t ty e : TypeId} {z : Value} {bytes base K n cap m c : Nat} {p q : Option Addr} {vs news : List Value} (ht : P.underlying t = some (.slice e)) (hi : (P.info? e).map (fun i => (i.zero, i.size, i.bytes)) = some (some z, K, bytes)) (hz : z.cells.size = K) (hK : 0 < K)
  (hown : OwnK w base e K (.slice p n cap) n vs) (hr : Rd w q news) (hm : news.length = m * K) (hq : q = none → m = 0 ∧ c = 0) (h1 : ∀ u ∈ news, u.oneCell' = true) (hb : (n + m) * bytes ≤ 140737488355328) (h63 : n + m ≤ 9223372036854775807) (hbase : base ≤ w.heap.size) :
  ∃ p' cap' w', (Builtin.append_ #[t, t] ty #[.slice p n cap, .slice q m c]).run P w = .ok (.slice p' (n + m) cap') w' ∧ OwnK w' base e K (.slice p' (n + m) cap') (n + m) (vs ++ news) ∧ Only (blk p) w w' := by
 obtain ⟨i, hi, hz0, hz1, hz2⟩ := info_partsK hi
 have hob : (Value.slice p n cap).ownBlock.toList = blk p := by
  cases p <;> simp [Value.ownBlock, blk]
 cases q with
 | none =>
  obtain ⟨rfl, rfl⟩ := hq rfl; have hn : news = [] := List.eq_nil_of_length_eq_zero (by simpa using hm); subst hn; exact ⟨p, cap, w, run_append_owned_none (P := P) w base t ty e i K ht hi _ n vs hown, by simpa using hown, Only.refl _ _⟩
 | some a =>
  obtain ⟨v', w', hr', h2, h3, _⟩ := run_append_own (P := P) w base t ty e i z K bytes ht hi hz0 hz1 hz2 hz hK _ n vs hown a m c news hm hr.cells h1 (by simp [maxLen]; omega) hb hbase
  rcases h2.2 with ⟨rfl, h0⟩ | ⟨g, cap', cur, rfl, r⟩
  ·obtain ⟨rfl, rfl⟩ : n = 0 ∧ m = 0 := (by omega); exact ⟨none, 0, w', hr', h2, hob ▸ Only.grown h3⟩
  ·exact ⟨_, cap', w', hr', ⟨h2.1, .inr ⟨g, cap', cur, rfl, r⟩⟩, hob ▸ Only.grown h3⟩
theorem flat_length {α : Type} (f : α → List Value) (K : Nat) (hf : ∀ a, (f a).length = K) : ∀ l : List α, (l.flatMap f).length = l.length * K
 | [] => by simp
 | a :: l => by rw [List.flatMap_cons, List.length_append, hf, flat_length f K hf l, List.length_cons, Nat.succ_mul]; omega
theorem flat_get {α : Type} (f : α → List Value) (K : Nat) (hf : ∀ a, (f a).length = K) : ∀ (l : List α) (j : Nat) (a : α) (r : Nat), l[j]? = some a → r < K → (l.flatMap f)[j * K + r]? = (f a)[r]?
 | [], j, a, r, h, _ => by simp at h
 | x :: l, 0, a, r, h, hr => by
  obtain rfl : x = a := (by simpa using h); rw [List.flatMap_cons, Nat.zero_mul, Nat.zero_add, List.getElem?_append_left (by rw [hf]; exact hr)]
 | x :: l, j + 1, a, r, h, hr => by
  rw [List.flatMap_cons, List.getElem?_append_right (by rw [hf, Nat.succ_mul]; omega), hf]; have e : (j + 1) * K + r - K = j * K + r := (by rw [Nat.succ_mul]; omega); rw [e]; exact flat_get f K hf l j a r (by simpa using h) hr
end Go.Proofs.Ytfeglnpmpgipiaa
end
section
set_option linter.unusedVariables false
set_option maxRecDepth 100000
namespace Go.Proofs.Ytfeglnpmpgipiaa
open Go.RowKit
theorem appendK_at {P : Program} (w : World) {t ty e : TypeId} {z : Value} {bytes base K n cap m c N cap' : Nat} {p q p' : Option Addr} {vs news : List Value} {w' : World} (ht : P.underlying t = some (.slice e)) (hi : (P.info? e).map (fun i => (i.zero, i.size, i.bytes)) = some (some z, K, bytes)) (hz : z.cells.size = K) (hK : 0 < K)
  (hown : OwnK w base e K (.slice p n cap) n vs) (hr : Rd w q news) (hm : news.length = m * K) (hq : q = none → m = 0 ∧ c = 0) (h1 : ∀ u ∈ news, u.oneCell' = true) (hb : (n + m) * bytes ≤ 140737488355328) (h63 : n + m ≤ 9223372036854775807)
  (hrun : (Builtin.append_ #[t, t] ty #[.slice p n cap, .slice q m c]).run P w = .ok (.slice p' N cap') w') : p' = p ∨ ∃ g, p' = some ⟨g, 0, none⟩ ∧ w.heap.size ≤ g := by
 obtain ⟨i, hi, hz0, hz1, hz2⟩ := info_partsK hi
 cases q with
 | none =>
  obtain ⟨rfl, rfl⟩ := hq rfl; rw [run_append_owned_none (P := P) w base t ty e i K ht hi _ n vs hown] at hrun; simp only [Result.ok.injEq, Value.slice.injEq] at hrun; exact .inl hrun.1.1.symm
 | some a =>
  have hc := hr.cells
  rcases hown.2 with ⟨e1, rfl⟩ | ⟨g, capp, cur, e1, hg, hh, h2, h3, h4, h5⟩
  ·obtain ⟨rfl, -, rfl⟩ : p = none ∧ 0 = 0 ∧ cap = 0 := by simpa using e1
   by_cases h0 : m = 0
   ·subst h0
    have hrun2 : (Builtin.append_ #[t, t] ty #[.slice none 0 0, .slice (some a) 0 c]).run P w = .ok (.slice none 0 0) w := by
     simp [Builtin.append_, run_underlying ht, sizeOf, typeInfo, hi, Builtin.lenOf, Builtin.firstCells, loadCells, loadCellsFrom]
    rw [hrun2] at hrun; simp only [Result.ok.injEq, Value.slice.injEq] at hrun; exact .inl hrun.1.1.symm
   ·have h := run_append_nil (P := P) w t ty e i z ht hi hz0 a m c news (by rw [hz1]; exact hm) hc (by omega) (by omega) (by rw [hz2]; rw [Nat.zero_add] at hb; omega); rw [h] at hrun; simp only [Result.ok.injEq, Value.slice.injEq] at hrun; exact .inr ⟨_, hrun.1.1.symm, Nat.le_refl _⟩
  ·obtain ⟨rfl, -, rfl⟩ : p = some ⟨g, 0, none⟩ ∧ n = n ∧ cap = capp := by simpa using e1
   by_cases hfit : n + m ≤ cap
   ·have h := run_append_room (P := P) w t ty e i ht hi g n cap cur hh a m c news (by rw [hz1]; exact hm) hc h1 hfit (by rw [hz1, h4, hm, ← Nat.add_mul]; exact Nat.mul_le_mul_right K hfit); rw [h] at hrun; simp only [Result.ok.injEq, Value.slice.injEq] at hrun; exact .inl hrun.1.1.symm
   ·have hv := hown.view; have h := run_append_grow (P := P) w t ty e i z ht hi hz0 ⟨g, 0, none⟩ n cap vs (by rw [hz1]; exact hv.2.1) hv.2.2.1.cells a m c news (by rw [hz1]; exact hm) hc (by omega) (by omega) (by rw [hz2]; exact growslice_fits (by omega) hb); rw [h] at hrun; simp only [Result.ok.injEq, Value.slice.injEq] at hrun; exact .inr ⟨_, hrun.1.1.symm, Nat.le_refl _⟩
theorem appendK_only0 {P : Program} (w : World) {t ty e : TypeId} {z : Value} {bytes base K m c : Nat} {p q : Option Addr} {news : List Value} {V : Value} {w' : World} (ht : P.underlying t = some (.slice e)) (hi : (P.info? e).map (fun i => (i.zero, i.size, i.bytes)) = some (some z, K, bytes)) (hz : z.cells.size = K) (hK : 0 < K)
  (hown : OwnK w base e K (.slice p 0 0) 0 []) (hr : Rd w q news) (hm : news.length = m * K) (hq : q = none → m = 0 ∧ c = 0) (h1 : ∀ u ∈ news, u.oneCell' = true) (hb : m * bytes ≤ 140737488355328) (h63 : m ≤ 9223372036854775807)
  (hrun : (Builtin.append_ #[t, t] ty #[.slice p 0 0, .slice q m c]).run P w = .ok V w') : Only [] w w' := by
 obtain ⟨i, hi, hz0, hz1, hz2⟩ := info_partsK hi
 cases q with
 | none =>
  obtain ⟨rfl, rfl⟩ := hq rfl; rw [run_append_owned_none (P := P) w base t ty e i K ht hi _ 0 [] hown] at hrun; simp only [Result.ok.injEq] at hrun; rw [← hrun.2]; exact Only.refl _ _
 | some a =>
  have hc := hr.cells
  rcases hown.2 with ⟨e1, -⟩ | ⟨g, capp, cur, e1, hg, hh, h2, h3, h4, h5⟩
  ·obtain rfl : p = none := by simpa using e1
   by_cases h0 : m = 0
   ·subst h0
    have hrun2 : (Builtin.append_ #[t, t] ty #[.slice none 0 0, .slice (some a) 0 c]).run P w = .ok (.slice none 0 0) w := by
     simp [Builtin.append_, run_underlying ht, sizeOf, typeInfo, hi, Builtin.lenOf, Builtin.firstCells, loadCells, loadCellsFrom]
    rw [hrun2] at hrun; simp only [Result.ok.injEq] at hrun; rw [← hrun.2]; exact Only.refl _ _
   ·have h := run_append_nil (P := P) w t ty e i z ht hi hz0 a m c news (by rw [hz1]; exact hm) hc (by omega) (by omega) (by rw [hz2]; omega); rw [h] at hrun; simp only [Result.ok.injEq] at hrun; rw [← hrun.2]; exact (Only.drew w).trans0 (Only.alloc _ _)
  ·obtain ⟨rfl, rfl⟩ : p = some ⟨g, 0, none⟩ ∧ 0 = capp := by simpa using e1
   by_cases h0 : m = 0
   ·subst h0; have hn : news = [] := List.eq_nil_of_length_eq_zero (by simpa using hm); subst hn; have hcur : cur = #[] := (by rw [Nat.zero_mul] at h4; exact Array.eq_empty_of_size_eq_zero h4); subst hcur; have h := run_append_room (P := P) w t ty e i ht hi g 0 0 #[] hh a 0 c [] (by simp) hc h1 (Nat.le_refl _) (by simp); rw [h] at hrun; simp only [Result.ok.injEq] at hrun; rw [← hrun.2]; refine Only.same (g := g) (Only.setRow _ _ _) fun _ => ?_; have r : Row w g e [] := hh; have := r.setRow []; have e3 : (w.setRow g #[]).heap[g]? = w.heap[g]? := Eq.trans this hh.symm
    simpa using e3
   ·have hv := hown.view; have h := run_append_grow (P := P) w t ty e i z ht hi hz0 ⟨g, 0, none⟩ 0 0 [] (by simp) (by simp) a m c news (by rw [hz1]; exact hm) hc (by omega) (by omega) (by rw [hz2]; exact growslice_fits (by omega) (by rw [Nat.zero_add]; exact hb)); rw [h] at hrun; simp only [Result.ok.injEq] at hrun; rw [← hrun.2]; exact (Only.drew w).trans0 (Only.alloc _ _)
end Go.Proofs.Ytfeglnpmpgipiaa
end
section
set_option linter.unusedVariables false
set_option maxRecDepth 100000
namespace Go.Proofs.Ytfeglnpmpgipiaa
open Go.RowKit
section
variable {P : Program} {ops : Array Oper} {R : World → World → Prop} {w0 : World} {a0 : Act}
structure ROInv (ops : Array Oper) (R : World → World → Prop) (w0 : World) (a0 : Act) (T : List (Value → World → Prop)) (k : Nat) (a : Act) (w : World) : Prop where
 later : R w0 w
 defers : a.defers = a0.defers
 size : a.tmps.size = a0.tmps.size
 same : ∀ t, (∀ (i : Nat) (o : Oper), ops[i]? = some o → i < k → o.dst ≠ some t) → a.tmps.getD t undef = a0.tmps.getD t undef
 told : ∀ (i : Nat) (o : Oper) d, ops[i]? = some o → i < k → o.dst = some d → (T.getD i (fun _ _ => False)) (a.tmps.getD d undef) w
theorem ro_list {Q : Exit → Act → World → Prop} {T : List (Value → World → Prop)} {plan : List (List (Tmp × Option Nat))} (hplan : planOk ops plan = true) (htrans : ∀ a b c, R a b → R b c → R a c) (hrefl : ∀ w, R w w)
  (hdst : ∀ (i : Nat) (o : Oper) d, ops[i]? = some o → o.dst = some d → d < a0.tmps.size)
  (hstep : ∀ (k : Nat) (o : Oper), ops[k]? = some o → ∃ S, T[k]? = some S ∧ Stable R S ∧ ∀ a w, R w0 w → factsOf T a0 a w (plan.getD k []) → RGStep P ops R o S a w)
  (hend : ∀ a w, R w0 w → a.defers = a0.defers → a.tmps.size = a0.tmps.size → (∀ t, (∀ (i : Nat) (o : Oper), ops[i]? = some o → o.dst ≠ some t) → a.tmps.getD t undef = a0.tmps.getD t undef) →
   (∀ (i : Nat) (o : Oper) d, ops[i]? = some o → o.dst = some d → (T.getD i (fun _ _ => False)) (a.tmps.getD d undef) w) → Q .normal a w) :
  ∀ (l : List Oper) (k : Nat) a w, ops.toList.drop k = l → ROInv ops R w0 a0 T k a w → wpList P ops Q l a w
 | [], k, a, w, hl, hI => by
  have hk : ops.size ≤ k := (by simpa using hl); refine wpList_nil (hend a w hI.later hI.defers hI.size (fun t ht => hI.same t (fun i o ho _ => ht i o ho)) (fun i o d ho hd => hI.told i o d ho ?_ hd)); have := (Array.getElem?_eq_some_iff.1 ho).1; omega
 | o :: l, k, a, w, hl, hI => by
  have ho : ops[k]? = some o := by
   have h0 : (ops.toList.drop k)[0]? = some o := (by rw [hl]; rfl); rw [List.getElem?_drop, Nat.add_zero, Array.getElem?_toList] at h0; exact h0
  have hlt := (Array.getElem?_eq_some_iff.1 ho).1
  have hl' : ops.toList.drop (k + 1) = l := by
   have : (ops.toList.drop k).drop 1 = l := (by rw [hl]; rfl); rw [List.drop_drop] at this; exact this
  have hp := hplan; simp only [planOk, Bool.and_eq_true, beq_iff_eq, List.all_eq_true, List.mem_range] at hp; obtain ⟨hpl, hpk⟩ := hp; have hk := hpk k hlt; rw [ho] at hk; simp only [Bool.and_eq_true, List.all_eq_true, List.mem_range] at hk; obtain ⟨⟨hback, hfs⟩, hdis⟩ := hk; obtain ⟨S, hS, hst, hrun⟩ := hstep k o ho
  have hbk : ∀ (i : Nat) (x : Oper), ops[i]? = some x → waitsFor x k = true → k < i := by
   intro i x hx hw; have hi := hpk i (Array.getElem?_eq_some_iff.1 hx).1; rw [hx] at hi; simp only [Bool.and_eq_true] at hi; have h1 := Array.all_eq_true'.1 hi.1.1; unfold waitsFor at hw; rw [List.any_eq_true] at hw; obtain ⟨e, he, hb⟩ := hw; have h2 := h1 e (by simpa using he); simp only [Bool.and_eq_true, beq_iff_eq] at hb; rw [hb.1, hb.2] at h2
   simpa using h2
  have hfacts : factsOf T a0 a w (plan.getD k []) := by
   have key : ∀ fs : List (Tmp × Option Nat), (∀ x ∈ fs, factOk ops k o x = true) → factsOf T a0 a w fs := by
    intro fs
    induction fs with
    | nil => intro _; trivial
    | cons x fs ih =>
     intro hx; have h0 := hx x (by simp); have ih' := ih (fun y hy => hx y (List.mem_cons_of_mem _ hy)); obtain ⟨t, i⟩ := x
     cases i with
     | none =>
      refine ⟨hI.same t (fun i x hxi hik => ?_), ih'⟩; simp only [factOk, List.all_eq_true, List.mem_range] at h0; have h1 := h0 i (Array.getElem?_eq_some_iff.1 hxi).1; rw [hxi] at h1; simp only [Bool.or_eq_true, beq_iff_eq, bne_iff_ne] at h1
      rcases h1 with h1 | h1 | h1
      ·omega
      ·exact h1
      ·have := hbk i x hxi h1; omega
     | some i =>
      simp only [factOk, Bool.and_eq_true, decide_eq_true_eq] at h0; obtain ⟨⟨h1, h2⟩, h3⟩ := h0; refine ⟨?_, ih'⟩; have hlti : i < ops.size := (by omega); rw [Array.getElem?_eq_getElem hlti] at h3; exact hI.told i _ t (Array.getElem?_eq_getElem hlti) h1 (by simpa using h3)
   exact key _ (by simpa using hfs)
  have hget : T.getD k (fun _ _ => False) = S := by rw [List.getD_eq_getElem?_getD, hS]; rfl
  have hnext : ∀ v w', S v w' → R w w' → ROInv ops R w0 a0 T (k + 1) (a.put o.dst v) w' := by
   intro v w' hv hR; refine ⟨htrans _ _ _ hI.later hR, by rw [put_defers]; exact hI.defers, by rw [put_size]; exact hI.size, fun t ht => ?_, fun i x d hx hik hd => ?_⟩
   ·rw [put_tmps _ _ _ _ (ht k o ho (by omega))]; exact hI.same t (fun i x hx hi => ht i x hx (by omega))
   ·by_cases hik' : i = k
    ·subst hik'; rw [ho] at hx
     cases hx
     rw [hget, hd, put_at _ _ _ (by rw [hI.size]; exact hdst i o d ho hd)]; exact hv
    ·have hne : o.dst ≠ some d := by
      intro e; have h1 := hdis i (Array.getElem?_eq_some_iff.1 hx).1; rw [hx] at h1; simp only [Bool.or_eq_true, beq_iff_eq, bne_iff_ne] at h1
      rcases h1 with h1 | h1 | h1
      ·exact hik' h1
      ·rw [hd] at h1; cases h1
      ·exact h1 (by rw [hd, e])
     rw [put_tmps _ _ _ _ hne]; obtain ⟨S', hS', hst', -⟩ := hstep i x hx; have hg' : T.getD i (fun _ _ => False) = S' := (by rw [List.getD_eq_getElem?_getD, hS']; rfl); have := hI.told i x d hx (by omega) hd; rw [hg'] at this ⊢; exact hst' _ _ _ this hR
  have hrec := fun a' w' h => ro_list hplan htrans hrefl hdst hstep hend l (k + 1) a' w' hl' h; have hR := hrun a w hI.later hfacts; unfold RGStep at hR; unfold wpList
  split
  ·rename_i hw
   rw [if_pos hw] at hR; refine .inl (Oper.wp_noexit ?_ hR); rintro a' w' ⟨v, rfl, hv, hR'⟩; exact hrec _ _ (hnext v w' hv hR')
  ·rename_i hw
   rw [if_neg hw] at hR; exact hrec _ _ (hnext undef w hR (hrefl w))
theorem wp_region_ro {id : Nat} {Q : Exit → Act → World → Prop} {l : List Oper} (R : World → World → Prop) (plan : List (List (Tmp × Option Nat))) (hplan : planOk l.toArray plan = true)
  (hrefl : ∀ w, R w w) (htrans : ∀ a b c, R a b → R b c → R a c)
  (hdst : (l.all fun o => match o.dst with | some d => decide (d < a0.tmps.size) | none => true) = true)
  (h : RG P l.toArray R w0 a0 Q l plan []) : (Code.region id l.toArray false).wp P Q a0 w0 := by
 refine wp_region_lit ?_; have hp := hplan; simp only [planOk, Bool.and_eq_true, beq_iff_eq, List.all_eq_true, List.mem_range] at hp; obtain ⟨hpl, hpk⟩ := hp
 obtain ⟨T, h1, h2, h3, h4⟩ := RG_extract l plan [] (fun k fs hk t i hm' => by
  have hk' : k < plan.length := (List.getElem?_eq_some_iff.1 hk).1; have := hpk k (by rw [← hpl]; exact hk'); rw [hpl] at hk'; rw [Array.getElem?_eq_getElem hk'] at this; simp only [Bool.and_eq_true, List.all_eq_true] at this; have := this.1.2 (t, some i) (by rw [List.getD_eq_getElem?_getD, hk]; exact hm'); simp only [factOk, Bool.and_eq_true, decide_eq_true_eq] at this
  simpa using this.1.1) h
 simp only [List.length_nil, Nat.zero_add] at h2 h3; refine ro_list (ops := l.toArray) (T := T) (R := R) (w0 := w0) (a0 := a0) hplan htrans hrefl ?_ ?_ ?_ l 0 a0 w0 (by simp) ?_
 ·intro i o d ho hd
  have hm' : o ∈ l := by
   have : o ∈ l.toArray := Array.mem_of_getElem? ho
   simpa using this
  have := List.all_eq_true.1 hdst o hm'; rw [hd] at this
  simpa using this
 ·intro k o ho; obtain ⟨fs, S, e1, e2, e3, e4⟩ := h3 k o (by simpa using ho); exact ⟨S, e2, e3, by rw [List.getD_eq_getElem?_getD, e1]; exact e4⟩
 ·intro a w hR hd hs hsame htold; exact h4 a w hR hd hs hsame (told_all l.toArray.toList T l.length (fun i o d ho hd => htold i o d (by simpa using ho) hd) (by simp) h2)
 ·exact ⟨hrefl w0, rfl, rfl, fun _ _ => rfl, fun i o d _ hi _ => absurd hi (by omega)⟩
def WV (g : Bool) (v : Value) : Value → World → Prop := fun u _ => g = true → u = v
theorem WV.stable {R : World → World → Prop} (g : Bool) (v : Value) : Stable R (WV g v) := fun _ _ _ h _ => h
theorem rg_wv {E : List (Value → World → Prop) → Prop} {o : Oper} {l : List Oper} {fs : List (Tmp × Option Nat)} {plan : List (List (Tmp × Option Nat))} {T : List (Value → World → Prop)} (g : Bool) {v : Value}
  (h1 : ∀ a w, R w0 w → factsOf T a0 a w fs → RGStep P ops R o (WV g v) a w) (h2 : RG2 P ops R w0 a0 E l plan (WV g v :: T)) : RG2 P ops R w0 a0 E (o :: l) (fs :: plan) T := ⟨WV g v, WV.stable g v, h1, h2⟩
theorem rg_when {o : Oper} {S : Value → World → Prop} {a : Act} {w : World} {j : Nat} {want : Bool} {d : Nat} {g : Bool} (hg : o.guard = some (j, want)) (hd : (ops[j]?).bind (·.dst) = some d) (hb : a.tmps.getD d undef = .bool g)
  (h : g = want → ∀ K : Act → World → Prop, (∀ v w', S v w' → R w w' → K (a.put o.dst v) w') → o.wp P a w K (fun _ _ _ => False)) (hn : ¬ g = want → S undef w) : RGStep P ops R o S a w := by
 unfold RGStep
 by_cases e : g = want
 ·rw [if_pos (by subst e; simp [Region.wanted, hg, yielded_of hd hb])]; exact h e _ fun v w' hv hR => ⟨v, rfl, hv, hR⟩
 ·rw [if_neg (by simp only [Region.wanted, hg, yielded_of hd hb]; cases g <;> cases want <;> simp_all)]; exact hn e
theorem wp_region_ro2 {id : Nat} {Q : Exit → Act → World → Prop} {l : List Oper} {L : List Value} {ds : List Deferred} (R : World → World → Prop) (plan : List (List (Tmp × Option Nat))) (fin : List (Tmp × Nat)) (mask : List (Option Tmp))
  (hplan : (planOk l.toArray (backs 0 plan) && nearOk 0 plan && maskOk l 0 mask && endOk l fin) = true) (hmask : mask.length = L.length)
  (hrefl : ∀ w, R w w) (htrans : ∀ a b c, R a b → R b c → R a c)
  (hdst : (l.all fun o => match o.dst with | some d => decide (d < L.length) | none => true) = true)
  (h : RG2 P l.toArray R w0 ⟨L.toArray, ds⟩ (fun T => ∀ f w, R w0 w → factsE T f w fin → Q .normal ⟨(mergeT mask L f).toArray, ds⟩ w) l plan []) : (Code.region id l.toArray false).wp P Q ⟨L.toArray, ds⟩ w0 := by
 simp only [Bool.and_eq_true] at hplan; obtain ⟨⟨⟨h1, h2⟩, h3⟩, h4⟩ := hplan; refine wp_region_ro R (backs 0 plan) h1 hrefl htrans (by simpa using hdst) ?_; refine RG_of_RG2 (ops := l.toArray) ?_ l plan [] (by simp) h2 h; intro T hE hT a w hR hd hs hsame hall; have hT' : T.length = l.length := (by simpa using hT); have hf := hE _ w hR (factsE_of hT' (by simpa using hall) fin h4)
 have hmerge := merge_is (l := l) (a := a) mask L [] h3 hmask (by simpa using hs.symm) (fun t ht => by
  have := hsame t (fun i o ho => ht i o (by simpa using ho)); rw [this]
  simp [Array.getD_eq_getD_getElem?, List.getD_eq_getElem?_getD])
 rw [hmerge] at hf; simp only [List.length_nil, List.drop_zero] at hf; have e : a = ⟨a.tmps, ds⟩ := (by cases a; simp only at hd; rw [hd]); rw [e]; exact hf
end
end Go.Proofs.Ytfeglnpmpgipiaa
end
section
set_option linter.unusedVariables false
set_option maxRecDepth 100000
namespace Go.Proofs.Ytfeglnpmpgipiaa
open Go.RowKit
def dropK (kept : List Nat) (plan : List (List (Tmp × Option Nat))) : List (List (Tmp × Option Nat)) := plan.map fun fs => fs.filter fun x => match x.2 with | some i => !kept.contains i | none => true
theorem dropK_use (kept : List Nat) {ops : Array Oper} {plan : List (List (Tmp × Option Nat))} {i j k : Nat} {t : Tmp} (hk : (t, some i) ∈ plan.getD k []) (h : overK ops (dropK kept plan) i j = true) : k = j ∨ (ancs ops j).contains k = true := by
 have hg : (dropK kept plan).getD k [] = (plan.getD k []).filter fun x => match x.2 with | some i => !kept.contains i | none => true := by
  unfold dropK; rw [List.getD_eq_getElem?_getD, List.getD_eq_getElem?_getD, List.getElem?_map]
  cases plan[k]? <;> rfl
 by_cases hi : kept.contains i = true
 ·exfalso
  have hc : consOf (dropK kept plan) i = [] := by
   unfold consOf; apply List.filter_eq_nil_iff.2; intro m _ hm; obtain ⟨x, hx, hxe⟩ := List.any_eq_true.1 hm
   have hgm : (dropK kept plan).getD m [] = (plan.getD m []).filter fun x => match x.2 with | some i => !kept.contains i | none => true := by
    unfold dropK; rw [List.getD_eq_getElem?_getD, List.getD_eq_getElem?_getD, List.getElem?_map]
    cases plan[m]? <;> rfl
   rw [hgm] at hx; have h2 := (List.mem_filter.1 hx).2; rw [beq_iff_eq.1 hxe] at h2; dsimp only at h2; rw [hi] at h2
   cases h2
  unfold overK at h; rw [hc] at h
  cases h
 ·refine overK_use (t := t) ?_ h; rw [hg]; refine List.mem_filter.2 ⟨hk, ?_⟩; dsimp only
  simpa using hi
section
variable {P : Program} {ops : Array Oper} {pl po : List (List (Tmp × Option Nat))} {R : World → World → Prop} {Rs : Nat → World → World → Prop} {w0 : World} {a0 : Act} {T : List (Value → World → Prop)}
theorem rgu_any8 {Q : Exit → Act → World → Prop} (hplan : planOk ops pl = true) (hpo : ∀ i j k t, (t, some i) ∈ pl.getD k [] → overK ops po i j = true → k = j ∨ (ancs ops j).contains k = true) (htrans : ∀ a b c, R a b → R b c → R a c) (hrefl : ∀ w, R w w) (hsrefl : ∀ k w, Rs k w w)
  (hdst : ∀ (i : Nat) (o : Oper) d, ops[i]? = some o → o.dst = some d → d < a0.tmps.size)
  (hstep : ∀ (k : Nat) o, ops[k]? = some o → ∃ S, T[k]? = some S ∧ Stands5 ops po Rs k S ∧ ∀ a w, R w0 w → factsOf T a0 a w (pl.getD k []) → RGStep P ops (Rk5 R Rs k) o S a w)
  (hend : ∀ a w, R w0 w → a.defers = a0.defers → a.tmps.size = a0.tmps.size → (∀ t, (∀ (i : Nat) (o : Oper), ops[i]? = some o → o.dst ≠ some t) → a.tmps.getD t undef = a0.tmps.getD t undef) →
   (∀ (i : Nat) (o : Oper) d, ops[i]? = some o → o.dst = some d → neverOver ops po i = true → (T.getD i (fun _ _ => False)) (a.tmps.getD d undef) w) → (∀ (i : Nat) (o : Oper), ops[i]? = some o → neverOver ops po i = true → ∃ v, (T.getD i (fun _ _ => False)) v w) → Q .normal a w) :
  ∀ (fuel : Nat) (listed : Array Bool) (a : Act) (w : World), listed.size = ops.size → (listed.toList.filter (!·)).length ≤ fuel → RGUInv ops po R Rs w0 a0 T listed a w → wpAny P .any ops Q fuel listed a w := by
 simp only [planOk, Bool.and_eq_true, beq_iff_eq, List.all_eq_true, List.mem_range] at hplan; obtain ⟨hpl, hpk⟩ := hplan; have hop : ∀ (k : Nat) o, ops[k]? = some o → k < ops.size := fun k o h => (Array.getElem?_eq_some_iff.1 h).1
 have hall : ∀ (k : Nat) o, ops[k]? = some o → (∀ e ∈ o.after, Region.binds .any e = true → e.on < k) ∧ (∀ f ∈ pl.getD k [], factOk ops k o f = true) ∧
   (∀ (i : Nat) x, i ≠ k → ops[i]? = some x → ∀ d, x.dst = some d → o.dst ≠ some d) := by
  intro k o hk; have := hpk k (hop k o hk); simp only [hk, Bool.and_eq_true, List.all_eq_true, List.mem_range, Array.all_eq_true_iff_forall_mem] at this; obtain ⟨⟨h1, h2⟩, h3⟩ := this; refine ⟨fun e he hb => ?_, h2, fun i x hi hx d hd => ?_⟩
  ·have := h1 e he; simp only [hb, Bool.not_true, Bool.false_or, decide_eq_true_eq] at this; exact this
  ·have := h3 i (hop i x hx); simp only [hx, hd, Bool.or_eq_true, beq_iff_eq, hi, false_or, reduceCtorEq, bne_iff_ne, ne_eq] at this; exact fun e => this e.symm
 have hfull : ∀ (listed : Array Bool), listed.size = ops.size → Region.ready .any ops listed = [] → ∀ (i : Nat), listed.getD i true = true := by
  intro listed hs hr i
  induction i using Nat.strongRecOn with
  | _ i ih =>
   rcases Bool.eq_false_or_eq_true (listed.getD i true) with h | h
   ·exact h
   ·exfalso
    have hi : i < ops.size := by
     rcases Nat.lt_or_ge i ops.size with h' | h'
     ·exact h'
     ·rw [Array.getD_eq_getD_getElem?, Array.getElem?_eq_none (by omega)] at h; cases h
    have ho : ops[i]? = some ops[i] := Array.getElem?_eq_getElem hi
    have hm : i ∈ Region.ready .any ops listed := by
     unfold Region.ready; rw [List.mem_filter]; refine ⟨List.mem_range.2 hi, ?_⟩; rw [h, ho]; simp only [Bool.not_false, Bool.true_and, Option.map_some, Option.getD_some, Array.all_eq_true_iff_forall_mem, Bool.or_eq_true, Bool.not_eq_true']; intro e he
     by_cases hb : Region.binds .any e = true
     ·right
      have hlt := (hall i _ ho).1 e he hb; have := ih e.on hlt; rw [Array.getD_eq_getD_getElem?, Array.getElem?_eq_getElem (by omega)] at this ⊢; exact this
     ·left; simpa using hb
    rw [hr] at hm; cases hm
 have hfin : ∀ (listed : Array Bool) (a : Act) (w : World), (∀ (i : Nat), listed.getD i true = true) → RGUInv ops po R Rs w0 a0 T listed a w → Q .normal a w := fun listed a w hl h =>
  hend a w h.later h.defers h.size (fun t ht => h.same t (fun i o ho _ => ht i o ho)) (fun i o d ho hd hn => h.told i o d ho (hl i) hd (fun j _ _ _ => neverOver_all hn j)) (fun i o ho hn => h.done i o ho (hl i) (fun j _ _ _ => neverOver_all hn j))
 intro fuel
 induction fuel with
 | zero =>
  intro listed a w hs hf h
  have hl : ∀ (i : Nat), listed.getD i true = true := by
   intro i; rw [Array.getD_eq_getD_getElem?]
   cases hi : listed[i]? with
   | none => rfl
   | some b =>
    cases b with
    | true => rfl
    | false =>
     have hm : false ∈ listed.toList.filter (!·) := List.mem_filter.2 ⟨by rw [Array.mem_toList_iff]; exact Array.mem_of_getElem? hi, rfl⟩; have : listed.toList.filter (!·) = [] := List.eq_nil_of_length_eq_zero (by omega); rw [this] at hm; cases hm
  refine ⟨?_, hfin listed a w hl h⟩; unfold Region.ready; apply List.filter_eq_nil_iff.2; intro i _; rw [hl i]; simp
 | succ fuel ih =>
  intro listed a w hs hf h; refine ⟨fun hr => hfin listed a w (hfull listed hs hr) h, fun k hk => ?_⟩; unfold Region.ready at hk; rw [List.mem_filter] at hk; obtain ⟨hk1, hk2⟩ := hk; have hkl : k < ops.size := List.mem_range.1 hk1; have ho : ops[k]? = some ops[k] := Array.getElem?_eq_getElem hkl; generalize ops[k] = o at ho; rw [ho] at hk2; simp only [Bool.and_eq_true, Bool.not_eq_true', Option.map_some, Option.getD_some, Array.all_eq_true_iff_forall_mem, Bool.or_eq_true] at hk2; obtain ⟨hun, haft⟩ := hk2; obtain ⟨hon, hfs, hdd⟩ := hall k o ho; obtain ⟨S, hS, hst, hrun⟩ := hstep k o ho
  have hwait : ∀ i, waitsFor o i = true → listed.getD i true = true := by
   intro i hw; simp only [waitsFor, List.any_eq_true, Bool.and_eq_true, beq_iff_eq] at hw; obtain ⟨e, he, hb, rfl⟩ := hw; rw [Array.mem_toList_iff] at he; have h1 := haft e he; rw [hb] at h1; have h2 : listed.getD e.on false = true := (by simpa using h1); have h3 := hon e he hb; rw [Array.getD_eq_getD_getElem?, Array.getElem?_eq_getElem (by omega)] at h2 ⊢; exact h2
  have hfacts : ∀ fs, (∀ f ∈ fs, factOk ops k o f = true) → (∀ f ∈ fs, f ∈ pl.getD k []) → factsOf T a0 a w fs := by
   intro fs
   induction fs with
   | nil => intro _ _; exact trivial
   | cons f fs ihf =>
    intro hf hin; have hrest := ihf (fun g hg => hf g (List.mem_cons_of_mem _ hg)) (fun g hg => hin g (List.mem_cons_of_mem _ hg)); have hf0 := hf f (by simp); obtain ⟨t, x⟩ := f
    cases x with
    | none =>
     refine ⟨h.same t (fun i x hx hl hd => ?_), hrest⟩; simp only [factOk, List.all_eq_true, List.mem_range] at hf0; have h1 := hf0 i (hop i x hx); have hik : i ≠ k := (by rintro rfl; rw [hun] at hl; cases hl); simp only [hx, hd, Bool.or_eq_true, beq_iff_eq, hik, false_or, bne_self_eq_false, Bool.false_eq_true] at h1; have := h.closed i x k hx hl h1; rw [hun] at this; cases this
    | some i =>
     simp only [factOk, Bool.and_eq_true, decide_eq_true_eq] at hf0; obtain ⟨⟨_, hw⟩, hd⟩ := hf0
     cases hx : ops[i]? with
     | none => rw [hx] at hd; cases hd
     | some x =>
      rw [hx] at hd; refine ⟨h.told i x t hx (hwait i hw) (by simpa using hd) (fun j y hy hlj => ?_), hrest⟩
      rcases Bool.eq_false_or_eq_true (overK ops po i j) with ho2 | ho2
      ·exfalso
       rcases hpo _ _ _ _ (hin (t, some i) (by simp)) ho2 with e | e
       ·subst e; rw [hun] at hlj; cases hlj
       ·have h3 := ancs_sound ops j listed hlj ⟨y, hy⟩ h.closed k (by simpa using e); rw [hun] at h3; cases h3
      ·exact ho2
  have hgo := hrun a w h.later (hfacts _ hfs (fun f hf => hf))
  have hnext : ∀ v w', S v w' → Rk5 R Rs k w w' → wpAny P .any ops Q fuel (listed.setIfInBounds k true) (a.put o.dst v) w' := by
   intro v w' hv hRk; have hR := hRk.1
   have hstand : ∀ (i : Nat) (x : Oper), ops[i]? = some x → listed.getD i true = true → i ≠ k → overK ops po i k = false → ∀ u, (T.getD i (fun _ _ => False)) u w → (T.getD i (fun _ _ => False)) u w' := by
    intro i x hx hl2 hik hov u h1; obtain ⟨S', hS', hst', _⟩ := hstep i x hx; rw [List.getD_eq_getElem?_getD, hS'] at h1 ⊢; refine hst' k (fun e => hik e.symm) ?_ hov _ _ _ h1 hRk.2
    rcases Bool.eq_false_or_eq_true ((ancs ops i).contains k) with h2 | h2
    ·have h3 := ancs_sound ops i listed hl2 ⟨x, hx⟩ h.closed k (by simpa using h2); rw [hun] at h3; cases h3
    ·exact h2
   have hks : k < listed.size := by omega
   have hclosed : ∀ (i : Nat) (x : Oper) j, ops[i]? = some x → (listed.setIfInBounds k true).getD i true = true → waitsFor x j = true → (listed.setIfInBounds k true).getD j true = true := by
    intro i x j hx hl hw
    rcases getD_true_set hl with rfl | hl2
    ·rw [ho] at hx; cases hx; have := hwait j hw
     by_cases e : i = j
     ·subst e; rw [Array.getD_eq_getD_getElem?, Array.getElem?_setIfInBounds_self_of_lt hks]; rfl
     ·rw [Array.getD_eq_getD_getElem?, Array.getElem?_setIfInBounds_ne e, ← Array.getD_eq_getD_getElem?]; exact this
    ·have := h.closed i x j hx hl2 hw
     by_cases e : k = j
     ·subst e; rw [Array.getD_eq_getD_getElem?, Array.getElem?_setIfInBounds_self_of_lt hks]; rfl
     ·rw [Array.getD_eq_getD_getElem?, Array.getElem?_setIfInBounds_ne e, ← Array.getD_eq_getD_getElem?]; exact this
   have hk1 : (listed.setIfInBounds k true).getD k true = true := by rw [Array.getD_eq_getD_getElem?, Array.getElem?_setIfInBounds_self_of_lt hks]; rfl
   have hmono : ∀ j, listed.getD j true = true → (listed.setIfInBounds k true).getD j true = true := fun j hj => by
    by_cases e : k = j
    ·subst e; exact hk1
    ·rw [Array.getD_eq_getD_getElem?, Array.getElem?_setIfInBounds_ne e, ← Array.getD_eq_getD_getElem?]; exact hj
   refine ih _ _ _ (by simpa using hs) ?_ ⟨htrans _ _ _ h.later hR, by rw [put_defers, h.defers], by rw [put_size, h.size], ?_, hclosed, ?_, ?_⟩
   ·have hlt : ((listed.setIfInBounds k true).toList.filter (!·)).length < (listed.toList.filter (!·)).length := by
     have hk2 : listed.toList[k]? = some false := by
      rw [Array.getD_eq_getD_getElem?, Array.getElem?_eq_getElem hks] at hun; simp only [Option.getD_some] at hun; rw [Array.getElem?_toList, Array.getElem?_eq_getElem hks, hun]
     rw [Array.toList_setIfInBounds]; exact filter_set_lt _ _ hk2
    omega
   ·intro t ht; have h1 : o.dst ≠ some t := ht k o ho (by rw [Array.getD_eq_getD_getElem?, Array.getElem?_setIfInBounds_self_of_lt hks]; rfl); rw [put_tmps _ _ _ _ h1]; refine h.same t (fun i x hx hl => ht i x hx ?_)
    by_cases e : k = i
    ·subst e; rw [Array.getD_eq_getD_getElem?, Array.getElem?_setIfInBounds_self_of_lt hks]; rfl
    ·rw [Array.getD_eq_getD_getElem?, Array.getElem?_setIfInBounds_ne e, ← Array.getD_eq_getD_getElem?]; exact hl
   ·intro i x d hx hl hd hal
    rcases getD_true_set hl with rfl | hl2
    ·rw [ho] at hx; cases hx; rw [hd, put_at _ _ _ (by rw [h.size]; exact hdst i o d ho hd)]; rw [List.getD_eq_getElem?_getD, hS]; exact hv
    ·have hik : i ≠ k := (by rintro rfl; rw [hun] at hl2; cases hl2); rw [put_tmps _ _ _ _ (hdd i x hik hx d hd)]; exact hstand i x hx hl2 hik (hal k o ho hk1) _ (h.told i x d hx hl2 hd (fun j y hy hj => hal j y hy (hmono j hj)))
   ·intro i x hx hl hal
    rcases getD_true_set hl with rfl | hl2
    ·exact ⟨v, by rw [List.getD_eq_getElem?_getD, hS]; exact hv⟩
    ·have hik : i ≠ k := (by rintro rfl; rw [hun] at hl2; cases hl2); obtain ⟨u, hu⟩ := h.done i x hx hl2 (fun j y hy hj => hal j y hy (hmono j hj)); exact ⟨u, hstand i x hx hl2 hik (hal k o ho hk1) u hu⟩
  unfold wpOp; rw [ho]; unfold RGStep at hgo; dsimp only
  split
  ·rename_i hw
   rw [if_pos hw] at hgo; exact .inl (Oper.wp_noexit (fun a' w' ⟨v, e, hv, hR⟩ => by rw [e]; exact hnext v w' hv hR) hgo)
  ·rename_i hw
   rw [if_neg hw] at hgo; exact hnext undef w hgo ⟨hrefl w, hsrefl _ w⟩
theorem wp_region_rgu8 {id : Nat} {Q : Exit → Act → World → Prop} {l : List Oper} (R : World → World → Prop) (Rs : Nat → World → World → Prop) (plan : List (List (Tmp × Option Nat))) (po : List (List (Tmp × Option Nat))) (hplan : planOk l.toArray plan = true) (hpo : ∀ i j k t, (t, some i) ∈ plan.getD k [] → overK l.toArray po i j = true → k = j ∨ (ancs l.toArray j).contains k = true)
  (hm : P.follows .mixedOrders = true) (hrefl : ∀ w, R w w) (htrans : ∀ a b c, R a b → R b c → R a c) (hsrefl : ∀ k w, Rs k w w) (hdrew : R w0 w0.drew)
  (hdst : (l.all fun o => match o.dst with | some d => decide (d < a0.tmps.size) | none => true) = true)
  (h : RGU P l.toArray po R Rs w0 a0 Q l plan []) : (Code.region id l.toArray true).wp P Q a0 w0 := by
 refine wp_region_any hm ?_; have hp := hplan; simp only [planOk, Bool.and_eq_true, beq_iff_eq, List.all_eq_true, List.mem_range] at hp; obtain ⟨hpl, hpk⟩ := hp; have hop : ∀ (k : Nat) o, l.toArray[k]? = some o → k < l.toArray.size := fun k o h => (Array.getElem?_eq_some_iff.1 h).1
 obtain ⟨T, h1, h2, h3, h4⟩ := RGU_extract l plan [] (fun k fs hk t i hm' => by
  have hk' : k < plan.length := (List.getElem?_eq_some_iff.1 hk).1; have := hpk k (by rw [← hpl]; exact hk'); rw [hpl] at hk'; rw [Array.getElem?_eq_getElem hk'] at this; simp only [Bool.and_eq_true, List.all_eq_true] at this; have := this.1.2 (t, some i) (by rw [List.getD_eq_getElem?_getD, hk]; exact hm'); simp only [factOk, Bool.and_eq_true, decide_eq_true_eq] at this
  simpa using this.1.1) h
 simp only [List.length_nil, Nat.zero_add] at h2 h3; refine rgu_any8 (T := T) (pl := plan) (po := po) (R := R) (Rs := Rs) (w0 := w0) (a0 := a0) hplan hpo htrans hrefl hsrefl ?_ ?_ ?_ _ _ _ _ (by simp) (by simp) ?_
 ·intro i o d ho hd
  have hm' : o ∈ l := by
   have : o ∈ l.toArray := Array.mem_of_getElem? ho
   simpa using this
  have := List.all_eq_true.1 hdst o hm'; rw [hd] at this
  simpa using this
 ·intro k o ho; obtain ⟨fs, S, e1, e2, e3, e4⟩ := h3 k o (by simpa using ho); exact ⟨S, e2, e3, by rw [List.getD_eq_getElem?_getD, e1]; exact e4⟩
 ·intro a w hR hd hs hsame htold hdone; exact h4 a w hR hd hs hsame htold hdone
 ·refine ⟨hdrew, rfl, rfl, fun _ _ => rfl, fun i o k ho hl _ => ?_, fun i o d ho hl _ _ => ?_, fun i o ho hl _ => ?_⟩
  ·have := hop i o ho; simp only [List.size_toArray] at this
   simp [this] at hl
  ·have := hop i o ho; simp only [List.size_toArray] at this
   simp [this] at hl
  ·have := hop i o ho; simp only [List.size_toArray] at this
   simp [this] at hl
theorem wp_region_rg8 {id : Nat} {Q : Exit → Act → World → Prop} {l : List Oper} {L : List Value} {ds : List Deferred} (R : World → World → Prop) (Rs : Nat → World → World → Prop) (kept : List Nat) (plan : List (List (Tmp × Option Nat))) (fin : List (Tmp × Nat)) (mask : List (Option Tmp))
  (hplan : (planOk l.toArray (backs 0 plan) && nearOk 0 plan && maskOk l 0 mask && endOk l fin && endsOk l.toArray (dropK kept (backs 0 plan)) l.length fin) = true) (hmask : mask.length = L.length)
  (hm : P.follows .mixedOrders = true) (hrefl : ∀ w, R w w) (htrans : ∀ a b c, R a b → R b c → R a c) (hsrefl : ∀ k w, Rs k w w) (hdrew : R w0 w0.drew)
  (hdst : (l.all fun o => match o.dst with | some d => decide (d < L.length) | none => true) = true)
  (h : RG2U P l.toArray (dropK kept (backs 0 plan)) R Rs w0 ⟨L.toArray, ds⟩ (fun T => ∀ f w, R w0 w → factsE T f w fin → Q .normal ⟨(mergeT mask L f).toArray, ds⟩ w) l plan []) : (Code.region id l.toArray true).wp P Q ⟨L.toArray, ds⟩ w0 := by
 simp only [Bool.and_eq_true] at hplan; obtain ⟨⟨⟨⟨h1, h2⟩, h3⟩, h4⟩, h5⟩ := hplan; refine wp_region_rgu8 R Rs (backs 0 plan) (dropK kept (backs 0 plan)) h1 (fun i j k t hk ho => dropK_use kept hk ho) hm hrefl htrans hsrefl hdrew (by simpa using hdst) ?_; refine RGU_of_RG2U (ops := l.toArray) ?_ l plan [] (by simp) h2 h; intro T hE hT a w hR hd hs hsame hall hdone; have hT' : T.length = l.length := (by simpa using hT); have hf := hE _ w hR (factsE_of5 hT' hall fin h4 h5)
 have hmerge := merge_is (l := l) (a := a) mask L [] h3 hmask (by simpa using hs.symm) (fun t ht => by
  have := hsame t (fun i o ho => ht i o (by simpa using ho)); rw [this]
  simp [Array.getD_eq_getD_getElem?, List.getD_eq_getElem?_getD])
 rw [hmerge] at hf; simp only [List.length_nil, List.drop_zero] at hf; have e : a = ⟨a.tmps, ds⟩ := (by cases a; simp only at hd; rw [hd]); rw [e]; exact hf
end
end Go.Proofs.Ytfeglnpmpgipiaa
end
