/- The scripts of chapter 14's laws, opened. -/
import Derived.Test.YtlgcclhepegggaaDoorOpenS
set_option linter.unusedVariables false
set_option maxRecDepth 100000
namespace Go.Proofs.YtlgcclhepegggaaDoor
open Go.ChangeShapes Go.WideShapes Go.ChangeAt Go.RowKit Go.Deep Go.Joins

/-- one act -/
structure Op14 where
  kind : Int
  which : Int
  fr : Int
  to : Int
  n : Int
  p : Option Addr
  m : Nat
  c : Nat
  bs : List UInt8
  deriving Inhabited

def Op14.cells (o : Op14) : List Value := [.int .i64 o.kind, .int .i64 o.which, .int .i64 o.fr, .int .i64 o.to, .int .i64 o.n, .slice o.p o.m o.c]
/-- what an act's values are -/
def Op14.Ok (w : World) (o : Op14) : Prop :=
  (-9223372036854775808 ≤ o.kind ∧ o.kind ≤ 9223372036854775807) ∧ (-9223372036854775808 ≤ o.which ∧ o.which ≤ 9223372036854775807) ∧ (-9223372036854775808 ≤ o.fr ∧ o.fr ≤ 9223372036854775807) ∧ (-9223372036854775808 ≤ o.to ∧ o.to ≤ 9223372036854775807) ∧ (-9223372036854775808 ≤ o.n ∧ o.n ≤ 9223372036854775807) ∧
  o.bs.length = o.m ∧ o.m ≤ o.c ∧ o.c ≤ 140737488351232 ∧ (o.p = none → o.m = 0 ∧ o.c = 0) ∧ Rd w o.p (u8s o.bs)
theorem Op14.Ok.only0 {w w' : World} {o : Op14} (h : o.Ok w) (ho : Only [] w w') : o.Ok w' := by
  obtain ⟨h1, h2, h3, h4, h5, h6, h7, h8, h9, h10⟩ := h
  exact ⟨h1, h2, h3, h4, h5, h6, h7, h8, h9, h10.only0 ho⟩

/-- the acts that a slice holds -/
def Acts14 (w : World) (p : Option Addr) (os : List Op14) : Prop :=
  ∀ (j : Nat) o, os[j]? = some o → ∃ b off, p = some ⟨b, off, none⟩ ∧ o.Ok w ∧ w.cell? ⟨b, off + j * 6, none⟩ = some (.int .i64 o.kind) ∧ w.cell? ⟨b, off + j * 6 + 1, none⟩ = some (.int .i64 o.which) ∧
    w.cell? ⟨b, off + j * 6 + 2, none⟩ = some (.int .i64 o.fr) ∧ w.cell? ⟨b, off + j * 6 + 3, none⟩ = some (.int .i64 o.to) ∧ w.cell? ⟨b, off + j * 6 + 4, none⟩ = some (.int .i64 o.n) ∧ w.cell? ⟨b, off + j * 6 + 5, none⟩ = some (.slice o.p o.m o.c)
theorem Acts14.only0 {w w' : World} {p : Option Addr} {os : List Op14} (h : Acts14 w p os) (ho : Only [] w w') : Acts14 w' p os := by
  intro j o hj
  obtain ⟨b, off, h1, h2, h3, h4, h5, h6, h7, h8⟩ := h j o hj
  exact ⟨b, off, h1, h2.only0 ho, ho.cell h3 (by simp), ho.cell h4 (by simp), ho.cell h5 (by simp), ho.cell h6 (by simp), ho.cell h7 (by simp), ho.cell h8 (by simp)⟩

def opsWeight14 (os : List Op14) : Nat := (os.map fun o => o.m + 1).sum

section
variable {H : Type} {enc : TypeId × Value → H}
theorem trod_six {P : Program} {w : World} {base : Nat} {spare : Nat → Bool} {held : Bool} {t : TypeId} {f0 f1 f2 f3 f4 f5 : Field} {fuel : Nat} {cs : List Value} {x : DataW H × List MemPlace} (ht : P.underlying t = some (.struct #[f0, f1, f2, f3, f4, f5])) (h : DataW.trod enc P w base spare held fuel t cs = some x) :
    ∃ y0 y1 y2 y3 y4 y5 n, x = (.agg [y0.1, y1.1, y2.1, y3.1, y4.1, y5.1], y0.2 ++ (y1.2 ++ (y2.2 ++ (y3.2 ++ (y4.2 ++ y5.2))))) ∧ DataW.trod enc P w base spare held n f0.type ((cs.drop f0.offset).take (P.cellsOf f0.type)) = some y0 ∧
      DataW.trod enc P w base spare held n f1.type ((cs.drop f1.offset).take (P.cellsOf f1.type)) = some y1 ∧ DataW.trod enc P w base spare held n f2.type ((cs.drop f2.offset).take (P.cellsOf f2.type)) = some y2 ∧
      DataW.trod enc P w base spare held n f3.type ((cs.drop f3.offset).take (P.cellsOf f3.type)) = some y3 ∧ DataW.trod enc P w base spare held n f4.type ((cs.drop f4.offset).take (P.cellsOf f4.type)) = some y4 ∧ DataW.trod enc P w base spare held n f5.type ((cs.drop f5.offset).take (P.cellsOf f5.type)) = some y5 := by
  obtain ⟨xs, n, _, rfl, hl, hlen, hf⟩ := DataW.trod_struct ht h
  match xs, hlen with
  | [y0, y1, y2, y3, y4, y5], _ => exact ⟨y0, y1, y2, y3, y4, y5, n, by simp, by simpa using hf 0 f0 rfl, by simpa using hf 1 f1 rfl, by simpa using hf 2 f2 rfl, by simpa using hf 3 f3 rfl, by simpa using hf 4 f4 rfl, by simpa using hf 5 f5 rfl⟩
theorem open_acts14 {w : World} {fuel : Nat} {v : Value} {x : DataW H × List MemPlace} (h : DataW.trod enc Tryd.prog w 0 (fun _ => true) true fuel 22 [v] = some x) (hf : Fits Tryd.prog 22 x.1) :
    ∃ p n cp, ∃ os : List Op14, v = .slice p n cp ∧ os.length = n ∧ n ≤ cp ∧ cp * 64 ≤ reachBytes ∧ (p = none → n = 0 ∧ cp = 0) ∧ opsWeight14 os ≤ Rows.uptoBulk x.1 ∧ Acts14 w p os := by
  have hb : Tryd.prog.bytesOf 29 = 64 := by kernel_rfl
  have hone : oneCellFields Tryd.prog #[_, _, _, _, _, _] = true := (by kernel_rfl : (match Tryd.prog.underlying 29 with | some (.struct fs) => oneCellFields Tryd.prog fs | _ => false) = true)
  obtain ⟨p, n, cp, os, rfl, hl, hn, hcp, hp, hw, hne, hos⟩ := open_elems (α := Op14) 6 (fun o cs => cs = o.cells ∧ o.Ok w) (fun o => o.m + 1) Tryd.underlying22 (by kernel_rfl) (by omega) (by
    intro k cs y hlen hy hfy
    obtain ⟨y0, y1, y2, y3, y4, y5, k', hx, g0, g1, g2, g3, g4, g5⟩ := trod_six Tryd.underlying29 hy
    obtain ⟨q0, q1⟩ := hone_of hone 0 _ rfl
    obtain ⟨q2, q3⟩ := hone_of hone 1 _ rfl
    obtain ⟨q4, q5⟩ := hone_of hone 2 _ rfl
    obtain ⟨q6, q7⟩ := hone_of hone 3 _ rfl
    obtain ⟨q8, q9⟩ := hone_of hone 4 _ rfl
    obtain ⟨q10, q11⟩ := hone_of hone 5 _ rfl
    match cs, hlen with
    | [c0, c1, c2, c3, c4, c5], _ =>
      rw [hx] at hfy
      obtain ⟨a0, rfl, b0⟩ := open_i64 Tryd.underlying3 g0
      obtain ⟨a1, rfl, b1⟩ := open_i64 Tryd.underlying3 g1
      obtain ⟨a2, rfl, b2⟩ := open_i64 Tryd.underlying3 g2
      obtain ⟨a3, rfl, b3⟩ := open_i64 Tryd.underlying3 g3
      obtain ⟨a4, rfl, b4⟩ := open_i64 Tryd.underlying3 g4
      obtain ⟨p, m, c, bs, rfl, e1, e2, e3, e4, e5⟩ := open_bytes Tryd.underlying27 Tryd.underlying5 (by kernel_rfl) (by kernel_rfl) g5 (fits_field Tryd.underlying29 hfy (j := 5) rfl rfl)
      refine ⟨⟨a0, a1, a2, a3, a4, p, m, c, bs⟩, ⟨rfl, b0, b1, b2, b3, b4, e1, e2, e3, fun h => ⟨by have := e4 h; show m = 0; omega, e4 h⟩, e5⟩, ?_⟩
      have := bulk_slice Tryd.underlying27 g5
      rw [hx]
      show m + 1 ≤ _
      simp only [Rows.uptoBulk, Rows.uptoBulkAll]
      omega) h hf
  refine ⟨p, n, cp, os, rfl, hl, hn, by rw [hb] at hcp; exact hcp, hp, hw, ?_⟩
  intro j o hj
  have h0 : 0 < n := by
    have := (List.getElem?_eq_some_iff.1 hj).1
    omega
  obtain ⟨a, rfl⟩ : ∃ a, p = some a := by
    cases p with
    | none => have := (hp rfl).1; omega
    | some a => exact ⟨a, rfl⟩
  obtain ⟨b, off, rfl⟩ := hne a rfl h0
  obtain ⟨cs, ⟨rfl, hok⟩, _, hc⟩ := hos j o b off hj rfl
  exact ⟨b, off, rfl, hok, hc 0 (by omega), hc 1 (by omega), hc 2 (by omega), hc 3 (by omega), hc 4 (by omega), hc 5 (by omega)⟩
end
end Go.Proofs.YtlgcclhepegggaaDoor
