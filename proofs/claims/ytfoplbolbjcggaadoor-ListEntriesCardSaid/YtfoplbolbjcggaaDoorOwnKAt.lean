/- Where an appended row of K-cell elements lies. -/
import Derived.Test.YtfoplbolbjcggaaDoorOwnK
set_option linter.unusedVariables false
set_option maxRecDepth 100000
namespace Go.Proofs.YtfoplbolbjcggaaDoor
open Go.RowKit

theorem appendK_at {P : Program} (w : World) {t ty e : TypeId} {z : Value} {bytes base K n cap m c N cap' : Nat} {p q p' : Option Addr} {vs news : List Value} {w' : World} (ht : P.underlying t = some (.slice e)) (hi : (P.info? e).map (fun i => (i.zero, i.size, i.bytes)) = some (some z, K, bytes)) (hz : z.cells.size = K) (hK : 0 < K)
    (hown : OwnK w base e K (.slice p n cap) n vs) (hr : Rd w q news) (hm : news.length = m * K) (hq : q = none → m = 0 ∧ c = 0) (h1 : ∀ u ∈ news, u.oneCell' = true) (hb : (n + m) * bytes ≤ 140737488355328) (h63 : n + m ≤ 9223372036854775807)
    (hrun : (Builtin.append_ #[t, t] ty #[.slice p n cap, .slice q m c]).run P w = .ok (.slice p' N cap') w') : p' = p ∨ ∃ g, p' = some ⟨g, 0, none⟩ ∧ w.heap.size ≤ g := by
  obtain ⟨i, hi, hz0, hz1, hz2⟩ := info_partsK hi
  cases q with
  | none =>
    obtain ⟨rfl, rfl⟩ := hq rfl
    rw [run_append_owned_none (P := P) w base t ty e i K ht hi _ n vs hown] at hrun
    simp only [Result.ok.injEq, Value.slice.injEq] at hrun
    exact .inl hrun.1.1.symm
  | some a =>
    have hc := hr.cells
    rcases hown.2 with ⟨e1, rfl⟩ | ⟨g, capp, cur, e1, hg, hh, h2, h3, h4, h5⟩
    · obtain ⟨rfl, -, rfl⟩ : p = none ∧ 0 = 0 ∧ cap = 0 := by simpa using e1
      by_cases h0 : m = 0
      · subst h0
        have hrun2 : (Builtin.append_ #[t, t] ty #[.slice none 0 0, .slice (some a) 0 c]).run P w = .ok (.slice none 0 0) w := by
          simp [Builtin.append_, run_underlying ht, sizeOf, typeInfo, hi, Builtin.lenOf, Builtin.firstCells, loadCells, loadCellsFrom]
        rw [hrun2] at hrun
        simp only [Result.ok.injEq, Value.slice.injEq] at hrun
        exact .inl hrun.1.1.symm
      · have h := run_append_nil (P := P) w t ty e i z ht hi hz0 a m c news (by rw [hz1]; exact hm) hc (by omega) (by omega) (by rw [hz2]; rw [Nat.zero_add] at hb; omega)
        rw [h] at hrun
        simp only [Result.ok.injEq, Value.slice.injEq] at hrun
        exact .inr ⟨_, hrun.1.1.symm, Nat.le_refl _⟩
    · obtain ⟨rfl, -, rfl⟩ : p = some ⟨g, 0, none⟩ ∧ n = n ∧ cap = capp := by simpa using e1
      by_cases hfit : n + m ≤ cap
      · have h := run_append_room (P := P) w t ty e i ht hi g n cap cur hh a m c news (by rw [hz1]; exact hm) hc h1 hfit (by rw [hz1, h4, hm, ← Nat.add_mul]; exact Nat.mul_le_mul_right K hfit)
        rw [h] at hrun
        simp only [Result.ok.injEq, Value.slice.injEq] at hrun
        exact .inl hrun.1.1.symm
      · have hv := hown.view
        have h := run_append_grow (P := P) w t ty e i z ht hi hz0 ⟨g, 0, none⟩ n cap vs (by rw [hz1]; exact hv.2.1) hv.2.2.1.cells a m c news (by rw [hz1]; exact hm) hc (by omega) (by omega) (by rw [hz2]; exact growslice_fits (by omega) hb)
        rw [h] at hrun
        simp only [Result.ok.injEq, Value.slice.injEq] at hrun
        exact .inr ⟨_, hrun.1.1.symm, Nat.le_refl _⟩
theorem appendK_only0 {P : Program} (w : World) {t ty e : TypeId} {z : Value} {bytes base K m c : Nat} {p q : Option Addr} {news : List Value} {V : Value} {w' : World} (ht : P.underlying t = some (.slice e)) (hi : (P.info? e).map (fun i => (i.zero, i.size, i.bytes)) = some (some z, K, bytes)) (hz : z.cells.size = K) (hK : 0 < K)
    (hown : OwnK w base e K (.slice p 0 0) 0 []) (hr : Rd w q news) (hm : news.length = m * K) (hq : q = none → m = 0 ∧ c = 0) (h1 : ∀ u ∈ news, u.oneCell' = true) (hb : m * bytes ≤ 140737488355328) (h63 : m ≤ 9223372036854775807)
    (hrun : (Builtin.append_ #[t, t] ty #[.slice p 0 0, .slice q m c]).run P w = .ok V w') : Only [] w w' := by
  obtain ⟨i, hi, hz0, hz1, hz2⟩ := info_partsK hi
  cases q with
  | none =>
    obtain ⟨rfl, rfl⟩ := hq rfl
    rw [run_append_owned_none (P := P) w base t ty e i K ht hi _ 0 [] hown] at hrun
    simp only [Result.ok.injEq] at hrun
    rw [← hrun.2]; exact Only.refl _ _
  | some a =>
    have hc := hr.cells
    rcases hown.2 with ⟨e1, -⟩ | ⟨g, capp, cur, e1, hg, hh, h2, h3, h4, h5⟩
    · obtain rfl : p = none := by simpa using e1
      by_cases h0 : m = 0
      · subst h0
        have hrun2 : (Builtin.append_ #[t, t] ty #[.slice none 0 0, .slice (some a) 0 c]).run P w = .ok (.slice none 0 0) w := by
          simp [Builtin.append_, run_underlying ht, sizeOf, typeInfo, hi, Builtin.lenOf, Builtin.firstCells, loadCells, loadCellsFrom]
        rw [hrun2] at hrun
        simp only [Result.ok.injEq] at hrun
        rw [← hrun.2]; exact Only.refl _ _
      · have h := run_append_nil (P := P) w t ty e i z ht hi hz0 a m c news (by rw [hz1]; exact hm) hc (by omega) (by omega) (by rw [hz2]; omega)
        rw [h] at hrun
        simp only [Result.ok.injEq] at hrun
        rw [← hrun.2]; exact (Only.drew w).trans0 (Only.alloc _ _)
    · obtain ⟨rfl, rfl⟩ : p = some ⟨g, 0, none⟩ ∧ 0 = capp := by simpa using e1
      by_cases h0 : m = 0
      · subst h0
        have hn : news = [] := List.eq_nil_of_length_eq_zero (by simpa using hm)
        subst hn
        have hcur : cur = #[] := by rw [Nat.zero_mul] at h4; exact Array.eq_empty_of_size_eq_zero h4
        subst hcur
        have h := run_append_room (P := P) w t ty e i ht hi g 0 0 #[] hh a 0 c [] (by simp) hc h1 (Nat.le_refl _) (by simp)
        rw [h] at hrun
        simp only [Result.ok.injEq] at hrun
        rw [← hrun.2]
        refine Only.same (g := g) (Only.setRow _ _ _) fun _ => ?_
        have r : Row w g e [] := hh
        have := r.setRow []
        have e3 : (w.setRow g #[]).heap[g]? = w.heap[g]? := Eq.trans this hh.symm
        simpa using e3
      · have hv := hown.view
        have h := run_append_grow (P := P) w t ty e i z ht hi hz0 ⟨g, 0, none⟩ 0 0 [] (by simp) (by simp) a m c news (by rw [hz1]; exact hm) hc (by omega) (by omega) (by rw [hz2]; exact growslice_fits (by omega) (by rw [Nat.zero_add]; exact hb))
        rw [h] at hrun
        simp only [Result.ok.injEq] at hrun
        rw [← hrun.2]; exact (Only.drew w).trans0 (Only.alloc _ _)
end Go.Proofs.YtfoplbolbjcggaaDoor
