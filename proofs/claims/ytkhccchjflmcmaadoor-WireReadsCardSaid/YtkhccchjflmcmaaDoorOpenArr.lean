/- Arrays of two among a law's arguments, opened. -/
import Derived.Test.YtkhccchjflmcmaaDoorOpenS
set_option linter.unusedVariables false
namespace Go.Proofs.YtkhccchjflmcmaaDoor
open Go.ChangeShapes Go.WideShapes Go.ChangeAt Go.RowKit

section
variable {H : Type} {enc : TypeId × Value → H} {P : Program}
theorem okWide_array {w : World} {r : Reach} {base : Nat} {t e : TypeId} {n : Nat} {v : Value} (ht : P.underlying t = some (.array n e)) (h : Value.okWide P w r base t v) : ∃ cs, v = .agg cs ∧ cs.size = P.cellsOf t := by
  simp only [Value.okWide, ht] at h
  obtain ⟨cs, h1, h2, _⟩ := h
  exact ⟨cs, h1, h2⟩
/-- an array of two one-cell elements, by value -/
theorem open_arr2 {w : World} {base : Nat} {spare : Nat → Bool} {held : Bool} {r : Reach} {b0 : Nat} {t e : TypeId} {v : Value} {d : DataW H} {p : List MemPlace} (ht : P.underlying t = some (.array 2 e)) (hce : P.cellsOf e = 1) (hC : P.cellsOf t = 2)
    (hv : Value.okWide P w r b0 t v) (h : DataW.Trod enc P w base spare held t v d p) :
    ∃ (v0 v1 : Value) (y0 y1 : DataW H × List MemPlace) (n : Nat), v = .agg #[v0, v1] ∧ d = .agg [y0.1, y1.1] ∧
      DataW.trod enc P w base spare held n e [v0] = some y0 ∧ DataW.trod enc P w base spare held n e [v1] = some y1 := by
  obtain ⟨cs, rfl, hsz⟩ := okWide_array ht hv
  obtain ⟨l⟩ := cs
  obtain ⟨c0, c1, rfl⟩ : ∃ c0 c1, l = [c0, c1] := by
    have : l.length = 2 := by simpa using hsz.trans hC
    match l, this with
    | [a, b], _ => exact ⟨a, b, rfl⟩
  obtain ⟨fuel, hf⟩ := h
  obtain ⟨xs, m, _, hx, _, hl, hel⟩ := DataW.trod_array ht hf
  have h0 := hel 0 (by omega)
  have h1 := hel 1 (by omega)
  match xs, hl, hx, h0, h1 with
  | [y0, y1], _, hx, h0, h1 =>
    rw [hce] at h0 h1
    simp only [Prod.mk.injEq] at hx
    exact ⟨c0, c1, y0, y1, m, rfl, hx.1, h0, h1⟩
theorem fits_arr {t e : TypeId} {n : Nat} {parts : List (DataW H)} (hu : P.underlying t = some (.array n e)) (h : Fits P t (.agg parts)) {d : DataW H} (hd : d ∈ parts) : Fits P e d := by
  intro k hk
  refine h k ?_
  simp only [DataW.weights, hu]
  exact weightsAll_mem hk hd
theorem bulk_arr {parts : List (DataW H)} {d : DataW H} (hd : d ∈ parts) : Rows.uptoBulk d ≤ Rows.uptoBulk (.agg parts : DataW H) := by
  have := bulk_mem hd
  simp only [Rows.uptoBulk]; omega
end
end Go.Proofs.YtkhccchjflmcmaaDoor
