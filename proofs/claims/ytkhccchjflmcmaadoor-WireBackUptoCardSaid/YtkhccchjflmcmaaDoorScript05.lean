/- The scripts of chapter 5's laws, opened. -/
import Derived.Test.YtkhccchjflmcmaaDoorOpenS
set_option linter.unusedVariables false
namespace Go.Proofs.YtkhccchjflmcmaaDoor
open Go.ChangeShapes Go.WideShapes Go.ChangeAt Go.RowKit Go.Deep Go.Joins

/-- one act -/
structure Op5 where
  kind : Int
  which : Int
  n : Int
  p : Option Addr
  m : Nat
  c : Nat
  bs : List UInt8
  deriving Inhabited

def Op5.cells (o : Op5) : List Value := [.int .i64 o.kind, .int .i64 o.which, .int .i64 o.n, .slice o.p o.m o.c]
/-- what an act's values are -/
def Op5.Ok (w : World) (o : Op5) : Prop :=
  (-9223372036854775808 ≤ o.kind ∧ o.kind ≤ 9223372036854775807) ∧ (-9223372036854775808 ≤ o.which ∧ o.which ≤ 9223372036854775807) ∧ (-9223372036854775808 ≤ o.n ∧ o.n ≤ 9223372036854775807) ∧
  o.bs.length = o.m ∧ o.m ≤ o.c ∧ o.c ≤ 140737488351232 ∧ (o.p = none → o.m = 0 ∧ o.c = 0) ∧ Rd w o.p (u8s o.bs)
theorem Op5.Ok.only0 {w w' : World} {o : Op5} (h : o.Ok w) (ho : Only [] w w') : o.Ok w' := by
  obtain ⟨h1, h2, h3, h4, h5, h6, h7, h8⟩ := h
  exact ⟨h1, h2, h3, h4, h5, h6, h7, h8.only0 ho⟩

/-- the acts that a slice holds -/
def Acts (w : World) (p : Option Addr) (os : List Op5) : Prop :=
  ∀ (j : Nat) o, os[j]? = some o → ∃ b off, p = some ⟨b, off, none⟩ ∧ o.Ok w ∧ w.cell? ⟨b, off + j * 4, none⟩ = some (.int .i64 o.kind) ∧ w.cell? ⟨b, off + j * 4 + 1, none⟩ = some (.int .i64 o.which) ∧
    w.cell? ⟨b, off + j * 4 + 2, none⟩ = some (.int .i64 o.n) ∧ w.cell? ⟨b, off + j * 4 + 3, none⟩ = some (.slice o.p o.m o.c)
theorem Acts.only0 {w w' : World} {p : Option Addr} {os : List Op5} (h : Acts w p os) (ho : Only [] w w') : Acts w' p os := by
  intro j o hj
  obtain ⟨b, off, h1, h2, h3, h4, h5, h6⟩ := h j o hj
  exact ⟨b, off, h1, h2.only0 ho, ho.cell h3 (by simp), ho.cell h4 (by simp), ho.cell h5 (by simp), ho.cell h6 (by simp)⟩

def opsWeight (os : List Op5) : Nat := (os.map fun o => o.m + 1).sum

section
variable {H : Type} {enc : TypeId × Value → H}
theorem open_acts {w : World} {fuel : Nat} {v : Value} {x : DataW H × List MemPlace} (h : DataW.trod enc Tryd.prog w 0 (fun _ => true) true fuel 33 [v] = some x) (hf : Fits Tryd.prog 33 x.1) :
    ∃ p n cp, ∃ os : List Op5, v = .slice p n cp ∧ os.length = n ∧ n ≤ cp ∧ cp * 48 ≤ reachBytes ∧ (p = none → n = 0 ∧ cp = 0) ∧ opsWeight os ≤ Rows.uptoBulk x.1 ∧ Acts w p os := by
  have hb : Tryd.prog.bytesOf 38 = 48 := by kernel_rfl
  have hone : oneCellFields Tryd.prog #[_, _, _, _] = true := (by kernel_rfl : (match Tryd.prog.underlying 38 with | some (.struct fs) => oneCellFields Tryd.prog fs | _ => false) = true)
  obtain ⟨p, n, cp, os, rfl, hl, hn, hcp, hp, hw, hne, hos⟩ := open_elems (α := Op5) 4 (fun o cs => cs = o.cells ∧ o.Ok w) (fun o => o.m + 1) Tryd.underlying33 (by kernel_rfl) (by omega) (by
    intro k cs y hlen hy hfy
    obtain ⟨y0, y1, y2, y3, k', hx, _, g0, g1, g2, g3⟩ := trod_struct4 Tryd.underlying38 hy
    obtain ⟨q0, q1⟩ := hone_of hone 0 _ rfl
    obtain ⟨q2, q3⟩ := hone_of hone 1 _ rfl
    obtain ⟨q4, q5⟩ := hone_of hone 2 _ rfl
    obtain ⟨q6, q7⟩ := hone_of hone 3 _ rfl
    match cs, hlen with
    | [c0, c1, c2, c3], _ =>
      rw [hx] at hfy
      obtain ⟨a0, rfl, b0⟩ := open_i64 Tryd.underlying3 g0
      obtain ⟨a1, rfl, b1⟩ := open_i64 Tryd.underlying3 g1
      obtain ⟨a2, rfl, b2⟩ := open_i64 Tryd.underlying3 g2
      obtain ⟨p, m, c, bs, rfl, e1, e2, e3, e4, e5⟩ := open_bytes Tryd.underlying26 Tryd.underlying5 (by kernel_rfl) (by kernel_rfl) g3 (fits_field Tryd.underlying38 hfy (j := 3) rfl rfl)
      refine ⟨⟨a0, a1, a2, p, m, c, bs⟩, ⟨rfl, b0, b1, b2, e1, e2, e3, fun h => ⟨by have := e4 h; show m = 0; omega, e4 h⟩, e5⟩, ?_⟩
      have := bulk_slice Tryd.underlying26 g3
      rw [hx]
      show m + 1 ≤ _
      simp only [Rows.uptoBulk, Rows.uptoBulkAll]
      omega) h hf
  refine ⟨p, n, cp, os, rfl, hl, hn, by rw [hb] at hcp; exact hcp, hp, hw, ?_⟩
  intro j o hj
  have h0 : 0 < n := by
    have := (List.getElem?_eq_some_iff.1 hj).1
    omega
  obtain ⟨a, rfl⟩ : ∃ a, p = some a := by
    cases p with
    | none => have := (hp rfl).1; omega
    | some a => exact ⟨a, rfl⟩
  obtain ⟨b, off, rfl⟩ := hne a rfl h0
  obtain ⟨cs, ⟨rfl, hok⟩, _, hc⟩ := hos j o b off hj rfl
  exact ⟨b, off, rfl, hok, hc 0 (by omega), hc 1 (by omega), hc 2 (by omega), hc 3 (by omega)⟩
end
end Go.Proofs.YtkhccchjflmcmaaDoor
