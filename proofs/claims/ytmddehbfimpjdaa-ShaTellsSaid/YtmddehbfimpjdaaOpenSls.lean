/- Slices of slices of bytes among what came in. -/
import Derived.Test.YtmddehbfimpjdaaOpenS
set_option linter.unusedVariables false
namespace Go.Proofs.Ytmddehbfimpjdaa
open Go.ChangeShapes Go.WideShapes Go.ChangeAt Go.RowKit Go.Deep Go.Joins

section
variable {H : Type} {enc : TypeId × Value → H}
/-- one slice of bytes -/
structure Sl where
  p : Option Addr
  m : Nat
  c : Nat
  bs : List UInt8
  deriving Inhabited
def Sl.v (o : Sl) : Value := .slice o.p o.m o.c
def Sl.Ok (w : World) (o : Sl) : Prop := o.bs.length = o.m ∧ o.m ≤ o.c ∧ o.c ≤ 140737488351232 ∧ (o.p = none → o.m = 0 ∧ o.c = 0) ∧ Rd w o.p (u8s o.bs)
theorem Sl.Ok.only0 {w w' : World} {o : Sl} (h : o.Ok w) (ho : Only [] w w') : o.Ok w' := ⟨h.1, h.2.1, h.2.2.1, h.2.2.2.1, h.2.2.2.2.only0 ho⟩
/-- a slice of them -/
def Sls (w : World) (p : Option Addr) (os : List Sl) : Prop :=
  ∀ (j : Nat) o, os[j]? = some o → ∃ b off, p = some ⟨b, off, none⟩ ∧ o.Ok w ∧ w.cell? ⟨b, off + j, none⟩ = some (.slice o.p o.m o.c)
theorem Sls.only0 {w w' : World} {p : Option Addr} {os : List Sl} (h : Sls w p os) (ho : Only [] w w') : Sls w' p os := by
  intro j o hj
  obtain ⟨b, off, h1, h2, h3⟩ := h j o hj
  exact ⟨b, off, h1, h2.only0 ho, ho.cell h3 (by simp)⟩
def slsWeight (os : List Sl) : Nat := (os.map fun o => o.m + 1).sum
theorem open_slices {w : World} {fuel : Nat} {v : Value} {x : DataW H × List MemPlace} (h : DataW.trod enc Try.prog w 0 (fun _ => true) true fuel 43 [v] = some x) (hf : Fits Try.prog 43 x.1) :
    ∃ p n cp, ∃ os : List Sl, v = .slice p n cp ∧ os.length = n ∧ n ≤ cp ∧ cp * 24 ≤ reachBytes ∧ (p = none → n = 0 ∧ cp = 0) ∧ slsWeight os ≤ Rows.uptoBulk x.1 ∧ Sls w p os := by
  have hb : Try.prog.bytesOf 22 = 24 := by kernel_rfl
  obtain ⟨p, n, cp, os, rfl, hl, hn, hcp, hp, hw, hne, hos⟩ := open_elems (α := Sl) 1 (fun o cs => cs = [.slice o.p o.m o.c] ∧ o.Ok w) (fun o => o.m + 1) Try.underlying43 (by kernel_rfl) (by omega) (by
    intro k cs y hlen hy hfy
    match cs, hlen with
    | [c0], _ =>
      obtain ⟨p, m, c, bs, rfl, e1, e2, e3, e4, e5⟩ := open_bytes Try.underlying22 Try.underlying5 (by kernel_rfl) (by kernel_rfl) hy hfy
      exact ⟨⟨p, m, c, bs⟩, ⟨rfl, e1, e2, e3, fun h => ⟨by have := e4 h; show m = 0; omega, e4 h⟩, e5⟩, bulk_slice Try.underlying22 hy⟩) h hf
  refine ⟨p, n, cp, os, rfl, hl, hn, by rw [hb] at hcp; exact hcp, hp, hw, ?_⟩
  intro j o hj
  have h0 : 0 < n := by
    have := (List.getElem?_eq_some_iff.1 hj).1
    omega
  obtain ⟨a, rfl⟩ : ∃ a, p = some a := by
    cases p with
    | none => have := (hp rfl).1; omega
    | some a => exact ⟨a, rfl⟩
  obtain ⟨b, off, rfl⟩ := hne a rfl h0
  obtain ⟨cs, ⟨rfl, hok⟩, _, hc⟩ := hos j o b off hj rfl
  have := hc 0 (by omega)
  rw [Nat.mul_one, Nat.add_zero] at this
  exact ⟨b, off, rfl, hok, this⟩
end
end Go.Proofs.Ytmddehbfimpjdaa
