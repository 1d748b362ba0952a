/- What the laws of lists need of what came in: a slice of strings read, the library's variable MaxLen. -/
import Derived.Test.YtfoplbolbjcggaaDoorOpenStrs
import Derived.Test.YtfoplbolbjcggaaDoorListPagesW
import Derived.Shelf.Vars
set_option linter.unusedVariables false
set_option maxRecDepth 100000
namespace Go.Proofs.YtfoplbolbjcggaaDoor
open Go.RowKit

theorem Strs.rd {w : World} {p : Option Addr} {ks : List Bs} (h : Strs w p ks) : Rd w p (strs ks) := by
  cases ks with
  | nil => exact Rd.nil _ _
  | cons k l =>
    obtain ⟨b, off, rfl, -, -⟩ := h 0 k rfl
    refine .inr ⟨b, off, rfl, fun j v hv => ?_⟩
    unfold strs at hv
    rw [List.getElem?_map] at hv
    cases hj : (k :: l)[j]? with
    | none => rw [hj] at hv; cases hv
    | some s =>
      rw [hj] at hv
      cases hv
      obtain ⟨b', off', e, -, hc⟩ := h j s hj
      cases e
      exact hc
theorem Strs.len {w : World} {p : Option Addr} {ks : List Bs} (h : Strs w p ks) : ∀ k ∈ ks, k.length ≤ 140737488351232 := fun k hk => by
  obtain ⟨j, hj⟩ := List.mem_iff_getElem?.1 hk
  obtain ⟨_, _, _, h1, _⟩ := h j k hj
  exact h1
theorem maxLen_shaped {w : World} (h : w.ShapedOpen Tryd.prog) : ∃ m, w.cell? ⟨18, 0, none⟩ = some (.int .i64 m) :=
  cell_of_shapedOpen_int (P := Tryd.prog) (zero := #[.int .i64 0]) (t := 3) h (by decide +kernel) (by kernel_rfl) rfl (by kernel_rfl) (by kernel_rfl) Tryd.underlying3
end Go.Proofs.YtfoplbolbjcggaaDoor
