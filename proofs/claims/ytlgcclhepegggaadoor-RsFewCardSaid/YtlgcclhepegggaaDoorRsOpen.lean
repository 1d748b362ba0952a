/- Slices of ints, of shards, among what came in. -/
import Derived.Test.YtlgcclhepegggaaDoorOpenAgg5
import Derived.Test.YtlgcclhepegggaaDoorRsShards
set_option linter.unusedVariables false
set_option maxRecDepth 100000
namespace Go.Proofs.YtlgcclhepegggaaDoor
open Go.ChangeShapes Go.WideShapes Go.ChangeAt Go.RowKit Go.Deep Go.Joins

section
variable {H : Type} {enc : TypeId × Value → H}
def i64s (ns : List Int) : List Value := ns.map fun n => .int .i64 n
theorem open_ints {w : World} {fuel : Nat} {v : Value} {x : DataW H × List MemPlace} (h : DataW.trod enc Tryd.prog w 0 (fun _ => true) true fuel 26 [v] = some x) (hf : Fits Tryd.prog 26 x.1) :
    ∃ p n cp, ∃ ns : List Int, v = .slice p n cp ∧ ns.length = n ∧ n ≤ cp ∧ cp * 8 ≤ reachBytes ∧ (p = none → n = 0 ∧ cp = 0) ∧ n ≤ Rows.uptoBulk x.1 ∧ Rd w p (i64s ns) ∧ ∀ a ∈ ns, -9223372036854775808 ≤ a ∧ a ≤ 9223372036854775807 := by
  have hb : Tryd.prog.bytesOf 3 = 8 := by kernel_rfl
  obtain ⟨p, n, cp, os, rfl, hl, hn, hcp, hp, hw, hne, hos⟩ := open_elems (α := Int) 1 (fun o cs => cs = [.int .i64 o] ∧ (-9223372036854775808 ≤ o ∧ o ≤ 9223372036854775807)) (fun o => 1) Tryd.underlying26 (by kernel_rfl) (by omega) (by
    intro k cs y hlen hy hfy
    match cs, hlen with
    | [c0], _ =>
      obtain ⟨a, rfl, b⟩ := open_i64 Tryd.underlying3 hy
      exact ⟨a, ⟨rfl, b⟩, bulk_one _⟩) h hf
  have hrange : ∀ a ∈ os, -9223372036854775808 ≤ a ∧ a ≤ 9223372036854775807 := by
    intro a ha
    obtain ⟨j, hj⟩ := List.getElem?_of_mem ha
    have h0 : 0 < n := by
      have := (List.getElem?_eq_some_iff.1 hj).1
      omega
    obtain ⟨q, rfl⟩ : ∃ q, p = some q := by
      cases p with
      | none => have := (hp rfl).1; omega
      | some q => exact ⟨q, rfl⟩
    obtain ⟨b, off, rfl⟩ := hne q rfl h0
    obtain ⟨cs, ⟨rfl, hok⟩, _, hc⟩ := hos j a b off hj rfl
    exact hok
  refine ⟨p, n, cp, os, rfl, hl, hn, by rw [hb] at hcp; exact hcp, hp, ?_, ?_, hrange⟩
  · have : ∀ l : List Int, (l.map fun _ => 1).sum = l.length := fun l => by induction l with | nil => rfl | cons a l ih => simp only [List.map_cons, List.sum_cons, ih, List.length_cons]; omega
    rw [this, hl] at hw
    exact hw
  · by_cases h0 : n = 0
    · left; unfold i64s; rw [List.map_eq_nil_iff]; exact List.eq_nil_of_length_eq_zero (hl.trans h0)
    · obtain ⟨q, rfl⟩ : ∃ q, p = some q := by
        cases p with
        | none => have := (hp rfl).1; omega
        | some q => exact ⟨q, rfl⟩
      obtain ⟨b, off, rfl⟩ := hne q rfl (by omega)
      right
      refine ⟨b, off, rfl, fun j v hj => ?_⟩
      unfold i64s at hj
      rw [List.getElem?_map] at hj
      cases ho : os[j]? with
      | none => rw [ho] at hj; simp at hj
      | some a =>
        rw [ho] at hj
        obtain rfl : v = .int .i64 a := by simpa using hj.symm
        obtain ⟨cs, ⟨rfl, hok⟩, _, hc⟩ := hos j a b off ho rfl
        have := hc 0 (by omega)
        rwa [Nat.mul_one, Nat.add_zero] at this

def shWeight (L : List Sh) : Nat := (L.map fun o => o.xs.length + 1).sum
theorem open_shards {w : World} {fuel : Nat} {v : Value} {x : DataW H × List MemPlace} (h : DataW.trod enc Tryd.prog w 0 (fun _ => true) true fuel 75 [v] = some x) (hf : Fits Tryd.prog 75 x.1) :
    ∃ p n cp, ∃ os : List Sh, v = .slice p n cp ∧ os.length = n ∧ n ≤ cp ∧ cp * 32 ≤ reachBytes ∧ (p = none → n = 0 ∧ cp = 0) ∧ shWeight os ≤ Rows.uptoBulk x.1 ∧ Shards w p os := by
  have hb : Tryd.prog.bytesOf 80 = 32 := by kernel_rfl
  have hone : oneCellFields Tryd.prog #[_, _] = true := (by kernel_rfl : (match Tryd.prog.underlying 80 with | some (.struct fs) => oneCellFields Tryd.prog fs | _ => false) = true)
  obtain ⟨p, n, cp, os, rfl, hl, hn, hcp, hp, hw, hne, hos⟩ := open_elems (α := Sh) 2 (fun o cs => cs = o.cells ∧ o.Ok w) (fun o => o.xs.length + 1) Tryd.underlying75 (by kernel_rfl) (by omega) (by
    intro k cs y hlen hy hfy
    obtain ⟨y0, y1, k', hx, _, g0, g1⟩ := trod_struct2 Tryd.underlying80 hy
    obtain ⟨q0, q1⟩ := hone_of hone 0 _ rfl
    obtain ⟨q2, q3⟩ := hone_of hone 1 _ rfl
    match cs, hlen with
    | [c0, c1], _ =>
      rw [hx] at hfy
      obtain ⟨a0, rfl, b0⟩ := open_i64 Tryd.underlying3 g0
      obtain ⟨p, m, c, bs, rfl, e1, e2, e3, e4, e5⟩ := open_bytes Tryd.underlying27 Tryd.underlying5 (by kernel_rfl) (by kernel_rfl) g1 (fits_field Tryd.underlying80 hfy (j := 1) rfl rfl)
      subst e1
      refine ⟨⟨a0, p, c, bs⟩, ⟨rfl, b0, e5, fun h => ⟨by have := e4 h; show bs.length = 0; omega, e4 h⟩, e2, e3⟩, ?_⟩
      have := bulk_slice Tryd.underlying27 g1
      rw [hx]
      show bs.length + 1 ≤ _
      simp only [Rows.uptoBulk, Rows.uptoBulkAll]
      omega) h hf
  refine ⟨p, n, cp, os, rfl, hl, hn, by rw [hb] at hcp; exact hcp, hp, hw, ?_⟩
  intro j o hj
  have h0 : 0 < n := by
    have := (List.getElem?_eq_some_iff.1 hj).1
    omega
  obtain ⟨a, rfl⟩ : ∃ a, p = some a := by
    cases p with
    | none => have := (hp rfl).1; omega
    | some a => exact ⟨a, rfl⟩
  obtain ⟨b, off, rfl⟩ := hne a rfl h0
  obtain ⟨cs, ⟨rfl, hok⟩, _, hc⟩ := hos j o b off hj rfl
  exact ⟨b, off, rfl, hok, hc 0 (by omega), hc 1 (by omega)⟩
end
end Go.Proofs.YtlgcclhepegggaaDoor
