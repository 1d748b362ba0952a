/- One byte of a frame's blocks changed, in plain Lean. -/
import Derived.Test.YtfoplbolbjcggaaDoorGetBody
set_option linter.unusedVariables false
set_option maxRecDepth 100000
namespace Go.Proofs.YtfoplbolbjcggaaDoor
open Go.RowKit

theorem drop_set_lt {α : Type} (l : List α) (i k : Nat) (a : α) (h : i < k) : (l.set i a).drop k = l.drop k := by
  rw [List.drop_set, if_pos h]
theorem drop_set_ge {α : Type} (l : List α) (i k : Nat) (a : α) (h : k ≤ i) : (l.set i a).drop k = (l.drop k).set (i - k) a := by
  rw [List.drop_set, if_neg (by omega)]
theorem take_set_ge {α : Type} (l : List α) (i k : Nat) (a : α) (h : k ≤ i) : (l.set i a).take k = l.take k := by
  rw [List.take_set, List.set_eq_of_length_le (by rw [List.length_take]; omega)]
theorem take_set_ne {α : Type} (l : List α) (i k : Nat) (a b : α) (h : i < k) (hb : l[i]? = some b) (hne : b ≠ a) : (l.set i a).take k ≠ l.take k := by
  intro e
  have := congrArg (fun x => x[i]?) e
  simp only [List.getElem?_take, if_pos h] at this
  rw [hb, List.getElem?_set, if_pos rfl] at this
  by_cases h2 : i < l.length
  · rw [if_pos h2] at this
    exact hne (Option.some.inj this).symm
  · rw [if_neg h2] at this; cases this
/-- a block of what Get gives -/
theorem out_blk (N : Nat) (rest : List UInt8) (hl : rest.length = N + 32 * nbB N) : ∀ (m : Nat), m ≤ nbB N → ∀ j, j < m → ((outB' N rest m).drop (32 * j)).take 32 = blkB N rest j
  | 0, _, j, hj => absurd hj (Nat.not_lt_zero _)
  | m + 1, hm, j, hj => by
    have hlen := outB'_length hl m (by omega)
    obtain ⟨g1, g2, g3, g4⟩ := gone_step (N := N) (i := m) (by omega)
    have hb := (blkB_length hl (i := m) (by omega)).1
    rw [outB'_succ]
    by_cases h : j < m
    · obtain ⟨f1, f2, f3, f4⟩ := gone_step (N := N) (i := j) (by omega)
      have hin := out_blk N rest hl m (by omega) j h
      rw [List.drop_append_of_le_length (by rw [hlen, g1]; omega), List.take_append_of_le_length (by rw [List.length_drop, hlen, g1]; omega)]
      exact hin
    · obtain rfl : j = m := by omega
      rw [List.drop_left' (by rw [hlen, g1]), List.take_of_length_le (by rw [hb]; omega)]
/-- have two lists blocks that are unlike and have one digest -/
def Met (a b : List UInt8) : Prop := ∃ j, j < nblk a ∧ j < nblk b ∧ chunk a j ≠ chunk b j ∧ shaB (chunk a j) = shaB (chunk b j)
theorem slip_found (xs : List UInt8) (i : Nat) (y to : UInt8) (hy : (bodyB xs)[i]? = some y) (hne : y ≠ to) (hok : ∀ j, j < nbB xs.length → okB xs.length ((bodyB xs).set i to) j) :
    outB' xs.length ((bodyB xs).set i to) (nbB xs.length) ≠ xs ∧ Met (outB' xs.length ((bodyB xs).set i to) (nbB xs.length)) xs := by
  have hil : i < (bodyB xs).length := (List.getElem?_eq_some_iff.1 hy).1
  have hbl := body_length xs
  obtain ⟨N, hN⟩ : ∃ N, xs.length = N := ⟨_, rfl⟩
  obtain ⟨rest, hrest⟩ : ∃ rest, (bodyB xs).set i to = rest := ⟨_, rfl⟩
  have hrl : rest.length = N + 32 * nbB N := by rw [← hrest, List.length_set, hbl, hN]
  have hj : i / 64 < nbB N := by
    rw [hN] at hbl
    unfold nbB at hbl ⊢
    omega
  obtain ⟨j, hje⟩ : ∃ j, i / 64 = j := ⟨_, rfl⟩
  rw [hje] at hj
  have hjx : j < nblk xs := by rw [← nbB_blk, hN]; exact hj
  obtain ⟨g1, g2, g3, g4⟩ := gone_step (N := N) (i := j) hj
  have hpos : posB N j = 64 * j := by unfold posB; rw [g1]; omega
  have hbb := blk_body xs hjx
  have hb1 := blkB_length hrl hj
  have hb0 := blkB_length (N := N) (rest := bodyB xs) (by rw [hbl, hN]) hj
  rw [hN] at hbb
  obtain ⟨z, hz⟩ : ∃ z, min 32 (N - gone N j) = z := ⟨_, rfl⟩
  rw [hz] at hb1 hb0
  have hokj := hok j (by rw [hN]; exact hj)
  rw [hrest, hN] at hokj ⊢
  unfold okB at hokj
  have hgz : gone N j + z ≤ N := by omega
  by_cases hi : i < posB N j + z
  · have hdig : digB N rest j = shaB (chunk xs j) := by
      rw [← hbb.2, ← hrest]
      unfold digB
      rw [hz, drop_set_lt _ _ _ _ hi]
    have hblk : blkB N rest j ≠ chunk xs j := by
      rw [← hbb.1, ← hrest]
      unfold blkB
      rw [hz, drop_set_ge _ _ _ _ (by omega)]
      exact take_set_ne _ _ _ _ y (by omega) (by rw [List.getElem?_drop, show posB N j + (i - posB N j) = i by omega]; exact hy) hne
    have hout : chunk (outB' N rest (nbB N)) j = blkB N rest j := out_blk N rest hrl (nbB N) (Nat.le_refl _) j hj
    have hol : (outB' N rest (nbB N)).length = N := by rw [outB'_length hrl _ (Nat.le_refl _), gone_end]
    refine ⟨fun e => ?_, j, by unfold nblk; rw [hol]; exact hj, hjx, by rw [hout]; exact hblk, by rw [hout, hokj, hdig]⟩
    rw [e] at hout
    exact hblk hout.symm
  · exfalso
    have hblk : blkB N rest j = chunk xs j := by
      rw [← hbb.1, ← hrest]
      unfold blkB
      rw [hz, drop_set_ge _ _ _ _ (by omega), take_set_ge _ _ _ _ (by omega)]
    have hdig : digB N rest j ≠ shaB (chunk xs j) := by
      rw [← hbb.2, ← hrest]
      unfold digB
      rw [hz, drop_set_ge _ _ _ _ (by omega)]
      refine take_set_ne _ _ _ _ y ?_ (by rw [List.getElem?_drop, show posB N j + z + (i - (posB N j + z)) = i by omega]; exact hy) hne
      have hin : i < posB N j + z + 32 := by
        rw [hpos] at hi ⊢
        rw [hN] at hbl
        unfold nbB at hj hbl
        omega
      omega
    rw [hblk] at hokj
    exact hdig hokj.symm
end Go.Proofs.YtfoplbolbjcggaaDoor
