/- Appending to an empty slice without room: a new block, nothing old turns. -/
import Derived.Test.YtfoplbolbjcggaaDoorOwn
set_option linter.unusedVariables false
set_option maxRecDepth 100000
namespace Go.Proofs.YtfoplbolbjcggaaDoor
open Go.RowKit

theorem Only.same {w w' : World} {g : Nat} (h : Only [g] w w') (hs : g < w.heap.size → w'.heap[g]? = w.heap[g]?) : Only [] w w' :=
  ⟨h.os, h.tape, h.output, h.size, fun k hk _ => by
    by_cases e : k = g
    · subst e; exact hs hk
    · exact h.block k hk (by simpa using e)⟩

/-- append to an empty slice of our own that has no room -/
theorem append_fresh {P : Program} (w : World) {t ty e : TypeId} {z : Value} {bytes base m c : Nat} {p q : Option Addr} {news : List Value} (ht : P.underlying t = some (.slice e)) (hi : (P.info? e).map (fun i => (i.zero, i.size, i.bytes)) = some (some z, 1, bytes)) (hz : z.cells = #[z])
    (hown : Own w base e (.slice p 0 0) []) (hr : Rd w q news) (hm : news.length = m) (hq : q = none → m = 0 ∧ c = 0) (h1 : ∀ u ∈ news, u.oneCell' = true) (hb : m * bytes ≤ 140737488355328) (h63 : m ≤ 9223372036854775807) (hbase : base ≤ w.heap.size) :
    ∃ p' cap' w', (Builtin.append_ #[t, t] ty #[.slice p 0 0, .slice q m c]).run P w = .ok (.slice p' m cap') w' ∧ Own w' base e (.slice p' m cap') news ∧ Only [] w w' := by
  obtain ⟨p', cap', w', h2, h3, h4, h5⟩ := append_owned2 (P := P) w (t := t) (ty := ty) ht hi hz hown hr hm hq h1 (by rw [Nat.zero_add]; exact hb) (by rw [Nat.zero_add]; exact h63) hbase
  rw [Nat.zero_add] at h2 h3
  rw [List.nil_append] at h3
  refine ⟨p', cap', w', h2, h3, ?_⟩
  rcases h5 with ⟨rfl, rfl⟩ | ⟨_, h5⟩
  · obtain ⟨_, hl, _, hle, _, _⟩ := h3.view
    obtain rfl : m = 0 := by omega
    obtain rfl : news = [] := List.eq_nil_of_length_eq_zero hl
    rcases hown.cases with ⟨e1, _⟩ | ⟨g, cap, rest, e1, hg, r, hc, _⟩
    · obtain rfl : p' = none := by simpa using e1
      exact h4.mono (by simp [blk])
    · obtain ⟨rfl, -, rfl⟩ : p' = some ⟨g, 0, none⟩ ∧ True ∧ 0 = cap := by simpa using e1
      obtain rfl : rest = [] := List.eq_nil_of_length_eq_zero (by simpa using hc)
      refine Only.same (g := g) (by simpa [blk] using h4) fun _ => ?_
      rcases h3.cases with ⟨e2, _⟩ | ⟨g', cap', rest', e2, _, r', hc', _⟩
      · simp at e2
      · obtain ⟨rfl, -, rfl⟩ : g = g' ∧ True ∧ 0 = cap' := by simpa using e2
        obtain rfl : rest' = [] := List.eq_nil_of_length_eq_zero (by simpa using hc')
        exact Eq.trans r' r.symm
  · exact h5
/-- a region's append whose run is known -/
theorem rg_append {P : Program} {o : Oper} {a : Act} {K : Act → World → Prop} {w w' : World} {s x : Operand} {t t' : TypeId} {sv xv v : Value}
    (ho : o.op = .call { callee := .builtin .append, args := #[s, x], argTypes := #[t, t'] }) (hs : a.eval s = sv) (hx : a.eval x = xv)
    (hr : (Builtin.append_ #[t, t'] o.type #[sv, xv]).run P w = .ok v w') (h : K (a.put o.dst v) w') : o.wp P a w K (fun _ _ _ => False) := by
  unfold Oper.wp execOp
  simp only [ho, resolve, invoke, builtin, Sem.run_bind, Sem.run_pure, Result.andThen_ok, List.map_toArray, List.map_cons, List.map_nil, hs, hx, hr]
  exact h
/-- one of two -/
def CaseP (c A B : Prop) : Prop := (c → A) ∧ (¬ c → B)
theorem CaseP.yes {c A B : Prop} (h : CaseP c A B) (hc : c) : A := h.1 hc
theorem CaseP.no {c A B : Prop} (h : CaseP c A B) (hc : ¬ c) : B := h.2 hc
theorem CaseP.ofYes {c A B : Prop} (hc : c) (h : A) : CaseP c A B := ⟨fun _ => h, fun n => absurd hc n⟩
theorem CaseP.ofNo {c A B : Prop} (hc : ¬ c) (h : B) : CaseP c A B := ⟨fun n => absurd n hc, fun _ => h⟩

/-- an empty slice of our own, without room -/
def Own0 (base : Nat) : Value → World → Prop := fun v w => ∃ p, v = .slice p 0 0 ∧ Own w base 5 (.slice p 0 0) []
theorem Own0.stable (base : Nat) {w w' : World} {v : Value} (h : Own0 base v w) (ho : Only [] w w') : Own0 base v w' := by
  obtain ⟨p, h1, h2⟩ := h
  exact ⟨p, h1, h2.only0 ho⟩
end Go.Proofs.YtfoplbolbjcggaaDoor
