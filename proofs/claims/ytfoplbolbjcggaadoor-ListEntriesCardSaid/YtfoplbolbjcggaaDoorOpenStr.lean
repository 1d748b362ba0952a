/- Strings among what came in. -/
import Derived.Test.YtfoplbolbjcggaaDoorOpens
set_option linter.unusedVariables false
set_option maxRecDepth 100000
namespace Go.Proofs.YtfoplbolbjcggaaDoor
open Go.ChangeShapes Go.WideShapes Go.ChangeAt Go.RowKit Go.Deep Go.Joins

section
variable {H : Type} {enc : TypeId × Value → H}
theorem open_str {P : Program} {w : World} {base : Nat} {spare : Nat → Bool} {held : Bool} {fuel : Nat} {t : TypeId} {v : Value} {x : DataW H × List MemPlace} (ht : P.underlying t = some .string)
    (h : DataW.trod enc P w base spare held fuel t [v] = some x) (hf : Fits P t x.1) : ∃ xs : List UInt8, v = .string ⟨xs.toArray⟩ ∧ xs.length ≤ 140737488351232 ∧ xs.length + 1 ≤ Rows.uptoBulk x.1 := by
  obtain ⟨s, hc, hx, _⟩ := DataW.trod_string ht h
  refine ⟨s.data.toList, by simpa using hc, hf s.data.toList.length (by rw [hx]; simp [DataW.weights]), by rw [hx]; simp [Rows.uptoBulk]⟩
end
end Go.Proofs.YtfoplbolbjcggaaDoor
