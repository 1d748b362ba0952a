/- The scripts of chapter 3's laws, opened. -/
import Derived.Test.YtmddehbfimpjdaaOpenS
set_option linter.unusedVariables false
namespace Go.Proofs.Ytmddehbfimpjdaa
open Go.ChangeShapes Go.WideShapes Go.ChangeAt Go.RowKit Go.Deep Go.Joins

/-- one act -/
structure Op3 where
  kind : Int
  which : Int
  p : Option Addr
  m : Nat
  c : Nat
  bs : List UInt8
  deriving Inhabited

def Op3.cells (o : Op3) : List Value := [.int .i64 o.kind, .int .i64 o.which, .slice o.p o.m o.c]
/-- what an act's values are -/
def Op3.Ok (w : World) (o : Op3) : Prop :=
  (-9223372036854775808 ≤ o.kind ∧ o.kind ≤ 9223372036854775807) ∧ (-9223372036854775808 ≤ o.which ∧ o.which ≤ 9223372036854775807) ∧
  o.bs.length = o.m ∧ o.m ≤ o.c ∧ o.c ≤ 140737488351232 ∧ (o.p = none → o.m = 0 ∧ o.c = 0) ∧ Rd w o.p (u8s o.bs)
theorem Op3.Ok.only0 {w w' : World} {o : Op3} (h : o.Ok w) (ho : Only [] w w') : o.Ok w' := by
  obtain ⟨h1, h2, h4, h5, h6, h7, h8⟩ := h
  exact ⟨h1, h2, h4, h5, h6, h7, h8.only0 ho⟩

/-- the acts that a slice holds -/
def Acts (w : World) (p : Option Addr) (os : List Op3) : Prop :=
  ∀ (j : Nat) o, os[j]? = some o → ∃ b off, p = some ⟨b, off, none⟩ ∧ o.Ok w ∧ w.cell? ⟨b, off + j * 3, none⟩ = some (.int .i64 o.kind) ∧ w.cell? ⟨b, off + j * 3 + 1, none⟩ = some (.int .i64 o.which) ∧
    w.cell? ⟨b, off + j * 3 + 2, none⟩ = some (.slice o.p o.m o.c)
theorem Acts.only0 {w w' : World} {p : Option Addr} {os : List Op3} (h : Acts w p os) (ho : Only [] w w') : Acts w' p os := by
  intro j o hj
  obtain ⟨b, off, h1, h2, h3, h4, h5⟩ := h j o hj
  exact ⟨b, off, h1, h2.only0 ho, ho.cell h3 (by simp), ho.cell h4 (by simp), ho.cell h5 (by simp)⟩

def opsWeight (os : List Op3) : Nat := (os.map fun o => o.m + 1).sum

section
variable {H : Type} {enc : TypeId × Value → H}
theorem open_acts {w : World} {fuel : Nat} {v : Value} {x : DataW H × List MemPlace} (h : DataW.trod enc Try.prog w 0 (fun _ => true) true fuel 31 [v] = some x) (hf : Fits Try.prog 31 x.1) :
    ∃ p n cp, ∃ os : List Op3, v = .slice p n cp ∧ os.length = n ∧ n ≤ cp ∧ cp * 40 ≤ reachBytes ∧ (p = none → n = 0 ∧ cp = 0) ∧ opsWeight os ≤ Rows.uptoBulk x.1 ∧ Acts w p os := by
  have hb : Try.prog.bytesOf 37 = 40 := by kernel_rfl
  have hone : oneCellFields Try.prog #[_, _, _] = true := (by kernel_rfl : (match Try.prog.underlying 37 with | some (.struct fs) => oneCellFields Try.prog fs | _ => false) = true)
  obtain ⟨p, n, cp, os, rfl, hl, hn, hcp, hp, hw, hne, hos⟩ := open_elems (α := Op3) 3 (fun o cs => cs = o.cells ∧ o.Ok w) (fun o => o.m + 1) Try.underlying31 (by kernel_rfl) (by omega) (by
    intro k cs y hlen hy hfy
    obtain ⟨y0, y1, y2, k', hx, _, g0, g1, g2⟩ := trod_struct3 Try.underlying37 hy
    obtain ⟨q0, q1⟩ := hone_of hone 0 _ rfl
    obtain ⟨q2, q3⟩ := hone_of hone 1 _ rfl
    obtain ⟨q4, q5⟩ := hone_of hone 2 _ rfl
    match cs, hlen with
    | [c0, c1, c2], _ =>
      rw [hx] at hfy
      obtain ⟨a0, rfl, b0⟩ := open_i64 Try.underlying3 g0
      obtain ⟨a1, rfl, b1⟩ := open_i64 Try.underlying3 g1
      obtain ⟨p, m, c, bs, rfl, e1, e2, e3, e4, e5⟩ := open_bytes Try.underlying22 Try.underlying5 (by kernel_rfl) (by kernel_rfl) g2 (fits_field Try.underlying37 hfy (j := 2) rfl rfl)
      refine ⟨⟨a0, a1, p, m, c, bs⟩, ⟨rfl, b0, b1, e1, e2, e3, fun h => ⟨by have := e4 h; show m = 0; omega, e4 h⟩, e5⟩, ?_⟩
      have := bulk_slice Try.underlying22 g2
      rw [hx]
      show m + 1 ≤ _
      simp only [Rows.uptoBulk, Rows.uptoBulkAll]
      omega) h hf
  refine ⟨p, n, cp, os, rfl, hl, hn, by rw [hb] at hcp; exact hcp, hp, hw, ?_⟩
  intro j o hj
  have h0 : 0 < n := by
    have := (List.getElem?_eq_some_iff.1 hj).1
    omega
  obtain ⟨a, rfl⟩ : ∃ a, p = some a := by
    cases p with
    | none => have := (hp rfl).1; omega
    | some a => exact ⟨a, rfl⟩
  obtain ⟨b, off, rfl⟩ := hne a rfl h0
  obtain ⟨cs, ⟨rfl, hok⟩, _, hc⟩ := hos j o b off hj rfl
  exact ⟨b, off, rfl, hok, hc 0 (by omega), hc 1 (by omega), hc 2 (by omega)⟩
end
end Go.Proofs.Ytmddehbfimpjdaa
