/- Slices of strings among what came in. -/
import Derived.Test.YtfoplbolbjcggaaDoorOpenStr
set_option linter.unusedVariables false
set_option maxRecDepth 100000
namespace Go.Proofs.YtfoplbolbjcggaaDoor
open Go.ChangeShapes Go.WideShapes Go.ChangeAt Go.RowKit Go.Deep Go.Joins

section
variable {H : Type} {enc : TypeId × Value → H}
/-- a slice of strings -/
def Strs (w : World) (p : Option Addr) (ss : List (List UInt8)) : Prop :=
  ∀ (j : Nat) s, ss[j]? = some s → ∃ b off, p = some ⟨b, off, none⟩ ∧ s.length ≤ 140737488351232 ∧ w.cell? ⟨b, off + j, none⟩ = some (.string ⟨s.toArray⟩)
theorem Strs.only0 {w w' : World} {p : Option Addr} {os : List (List UInt8)} (h : Strs w p os) (ho : Only [] w w') : Strs w' p os := by
  intro j o hj
  obtain ⟨b, off, h1, h2, h3⟩ := h j o hj
  exact ⟨b, off, h1, h2, ho.cell h3 (by simp)⟩
theorem open_strs {w : World} {fuel : Nat} {v : Value} {x : DataW H × List MemPlace} (h : DataW.trod enc Tryd.prog w 0 (fun _ => true) true fuel 33 [v] = some x) (hf : Fits Tryd.prog 33 x.1) :
    ∃ p n cp, ∃ os : List (List UInt8), v = .slice p n cp ∧ os.length = n ∧ n ≤ cp ∧ cp * 16 ≤ reachBytes ∧ (p = none → n = 0 ∧ cp = 0) ∧ (os.map fun o => o.length + 1).sum ≤ Rows.uptoBulk x.1 ∧ Strs w p os := by
  have hb : Tryd.prog.bytesOf 9 = 16 := by kernel_rfl
  obtain ⟨p, n, cp, os, rfl, hl, hn, hcp, hp, hw, hne, hos⟩ := open_elems (α := List UInt8) 1 (fun o cs => cs = [.string ⟨o.toArray⟩] ∧ o.length ≤ 140737488351232) (fun o => o.length + 1) Tryd.underlying33 (by kernel_rfl) (by omega) (by
    intro k cs y hlen hy hfy
    match cs, hlen with
    | [c0], _ =>
      obtain ⟨xs, rfl, hx, hbk⟩ := open_str Tryd.underlying9 hy hfy
      exact ⟨xs, ⟨rfl, hx⟩, hbk⟩) h hf
  refine ⟨p, n, cp, os, rfl, hl, hn, by rw [hb] at hcp; exact hcp, hp, hw, ?_⟩
  intro j o hj
  have h0 : 0 < n := by
    have := (List.getElem?_eq_some_iff.1 hj).1
    omega
  obtain ⟨a, rfl⟩ : ∃ a, p = some a := by
    cases p with
    | none => have := (hp rfl).1; omega
    | some a => exact ⟨a, rfl⟩
  obtain ⟨b, off, rfl⟩ := hne a rfl h0
  obtain ⟨cs, ⟨rfl, hok⟩, _, hc⟩ := hos j o b off hj rfl
  have := hc 0 (by omega)
  rw [Nat.mul_one, Nat.add_zero] at this
  exact ⟨b, off, rfl, hok, this⟩
end
end Go.Proofs.YtfoplbolbjcggaaDoor
