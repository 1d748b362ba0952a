/- Stamps and slips among what came in, opened. -/
import Derived.Test.YtfoplbolbjcggaaDoorOpens
import Derived.Test.YtfoplbolbjcggaaDoorFrameMath
set_option linter.unusedVariables false
set_option maxRecDepth 100000
namespace Go.Proofs.YtfoplbolbjcggaaDoor
open Go.ChangeShapes Go.WideShapes Go.ChangeAt Go.RowKit Go.Deep Go.Joins
variable {H : Type} {enc : TypeId × Value → H} {w : World} {base : Nat} {spare : Nat → Bool} {held : Bool}

theorem trod_stamp {fuel : Nat} {cs : List Value} {x : DataW H × List MemPlace} (hl : cs.length = 5) (h : DataW.trod enc Tryd.prog w base spare held fuel 67 cs = some x) : ∃ s : Stp, cs = stCells s := by
  match cs, hl with
  | [c0, c1, c2, c3, c4], _ =>
    obtain ⟨xs, n, _, rfl, hl, hlen, hf⟩ := DataW.trod_struct Tryd.underlying67 h
    have hlen' : xs.length = 3 := hlen
    match xs, hlen' with
    | [y0, y1, y2], _ =>
      have h0 := hf 0 _ rfl
      have h1 := hf 1 _ rfl
      have h2 := hf 2 _ rfl
      have k3 : Tryd.prog.cellsOf 65 = 3 := by kernel_rfl
      have k1 : Tryd.prog.cellsOf 3 = 1 := by kernel_rfl
      simp [k3, k1] at h0 h1 h2
      obtain ⟨ys, m, _, rfl, _, hlen2, hg⟩ := DataW.trod_struct Tryd.underlying65 h0
      have hlen2' : ys.length = 3 := hlen2
      match ys, hlen2' with
      | [z0, z1, z2], _ =>
        have g0 := hg 0 _ rfl
        have g1 := hg 1 _ rfl
        have g2 := hg 2 _ rfl
        simp [k1] at g0 g1 g2
        obtain ⟨a0, rfl, _⟩ := open_i64 Tryd.underlying3 g0
        obtain ⟨a1, rfl, _⟩ := open_i64 Tryd.underlying3 g1
        obtain ⟨a2, rfl, _⟩ := open_i64 Tryd.underlying3 g2
        obtain ⟨a3, rfl, _⟩ := open_i64 Tryd.underlying3 h1
        obtain ⟨a4, rfl, _⟩ := open_i64 Tryd.underlying3 h2
        exact ⟨⟨a0, a1, a2, a3, a4⟩, rfl⟩
theorem open_stamp {r : Reach} {b0 : Nat} {v : Value} {d : DataW H} {p : List MemPlace} (hv : Value.okWide Tryd.prog w r b0 67 v) (h : DataW.Trod enc Tryd.prog w base spare held 67 v d p) : ∃ s : Stp, v = stV s := by
  obtain ⟨cs, rfl, hsz⟩ := okWide_struct Tryd.underlying67 hv
  obtain ⟨fuel, hf⟩ := h
  obtain ⟨s, hs⟩ := trod_stamp (cs := cs.toList) (by rw [Array.length_toList, hsz]; kernel_rfl) hf
  refine ⟨s, ?_⟩
  unfold stV
  congr 1
  apply Array.toList_inj.1
  exact hs
theorem open_slip {r : Reach} {b0 : Nat} {v : Value} {d : DataW H} {p : List MemPlace} (hv : Value.okWide Tryd.prog w r b0 69 v) (h : DataW.Trod enc Tryd.prog w base spare held 69 v d p) :
    ∃ (s : Stp) (v1 v2 v3 : Value) (y0 y1 y2 y3 : DataW H × List MemPlace) (n : Nat), v = .agg #[.int .i64 s.node, .int .i64 s.boot, .int .i64 s.seq, .int .i64 s.shard, .int .i64 s.size, v1, v2, v3] ∧ d = .agg [y0.1, y1.1, y2.1, y3.1] ∧
      DataW.trod enc Tryd.prog w base spare held n 22 [v1] = some y1 ∧ DataW.trod enc Tryd.prog w base spare held n 3 [v2] = some y2 ∧ DataW.trod enc Tryd.prog w base spare held n 5 [v3] = some y3 := by
  obtain ⟨cs, rfl, hsz⟩ := okWide_struct Tryd.underlying69 hv
  obtain ⟨fuel, hf⟩ := h
  have hc : Tryd.prog.cellsOf 69 = 8 := by kernel_rfl
  rw [hc] at hsz
  obtain ⟨l⟩ := cs
  match l, hsz with
  | [c0, c1, c2, c3, c4, v1, v2, v3], _ =>
    obtain ⟨xs, n, _, hx, hl, hlen, hf⟩ := DataW.trod_struct Tryd.underlying69 hf
    have hlen' : xs.length = 4 := hlen
    match xs, hlen' with
    | [y0, y1, y2, y3], _ =>
      have h0 := hf 0 _ rfl
      have h1 := hf 1 _ rfl
      have h2 := hf 2 _ rfl
      have h3 := hf 3 _ rfl
      have k5 : Tryd.prog.cellsOf 67 = 5 := by kernel_rfl
      have k1 : Tryd.prog.cellsOf 3 = 1 := by kernel_rfl
      have kb : Tryd.prog.cellsOf 22 = 1 := by kernel_rfl
      have ku : Tryd.prog.cellsOf 5 = 1 := by kernel_rfl
      simp [k5, k1, kb, ku, Value.cells] at h0 h1 h2 h3
      obtain ⟨s, hs⟩ := trod_stamp (by rfl) h0
      simp only [Prod.mk.injEq] at hx
      simp only [stCells, List.cons.injEq, and_true] at hs
      obtain ⟨rfl, rfl, rfl, rfl, rfl⟩ := hs
      exact ⟨s, v1, v2, v3, y0, y1, y2, y3, n, rfl, by simpa using hx.1, h1, h2, h3⟩
end Go.Proofs.YtfoplbolbjcggaaDoor
