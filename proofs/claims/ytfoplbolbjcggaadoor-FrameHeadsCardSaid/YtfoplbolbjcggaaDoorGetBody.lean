/- What Get reads of the blocks that Put wrote. -/
import Derived.Test.YtfoplbolbjcggaaDoorGetMath
set_option linter.unusedVariables false
set_option maxRecDepth 100000
namespace Go.Proofs.YtfoplbolbjcggaaDoor
open Go.RowKit

theorem nbB_blk (xs : List UInt8) : nbB xs.length = nblk xs := rfl
theorem body_take (xs : List UInt8) : ∀ (i : Nat), i ≤ nblk xs → (((blks xs).take i).flatMap body1).length = posB xs.length i
  | 0, _ => by simp [posB, gone]
  | i + 1, h => by
    rw [blks_take xs (by omega), List.flatMap_append, List.length_append, body_take xs i (by omega), List.flatMap_singleton, body1_length, chunk_length]
    have := (gone_step (N := xs.length) (i := i) (by rw [nbB_blk]; omega))
    rw [this.2.2.2, this.1]
    omega
theorem body_split (xs : List UInt8) {i : Nat} (h : i < nblk xs) : bodyB xs = ((blks xs).take i).flatMap body1 ++ (chunk xs i ++ shaB (chunk xs i) ++ ((blks xs).drop (i + 1)).flatMap body1) := by
  unfold bodyB
  conv => lhs; rw [blks_split xs h]
  rw [List.flatMap_append, List.flatMap_cons]
  rfl
theorem blk_body (xs : List UInt8) {i : Nat} (h : i < nblk xs) : blkB xs.length (bodyB xs) i = chunk xs i ∧ digB xs.length (bodyB xs) i = shaB (chunk xs i) := by
  have hl := body_take xs i (by omega)
  have hz : min 32 (xs.length - gone xs.length i) = (chunk xs i).length := by
    rw [chunk_length, (gone_step (N := xs.length) (i := i) (by rw [nbB_blk]; omega)).1]
  have hd : (bodyB xs).drop (posB xs.length i) = chunk xs i ++ (shaB (chunk xs i) ++ ((blks xs).drop (i + 1)).flatMap body1) := by
    rw [body_split xs h, ← hl, List.drop_left' rfl, List.append_assoc]
  constructor
  · unfold blkB
    rw [hd, hz]
    exact List.take_left' rfl
  · unfold digB
    rw [hz, ← List.drop_drop, hd, List.drop_left' rfl]
    exact List.take_left' (shaB_len _)
theorem body_ok (xs : List UInt8) : ∀ i, i < nbB xs.length → okB xs.length (bodyB xs) i := fun i h => by
  rw [nbB_blk] at h
  unfold okB
  rw [(blk_body xs h).1, (blk_body xs h).2]
theorem body_length (xs : List UInt8) : (bodyB xs).length = xs.length + 32 * nbB xs.length := by
  have := body_take xs (nblk xs) (Nat.le_refl _)
  rw [List.take_of_length_le (by rw [blks_length]; exact Nat.le_refl _)] at this
  show ((blks xs).flatMap body1).length = _
  rw [this]
  unfold posB
  rw [← nbB_blk, gone_end]
  omega
theorem body_out (xs : List UInt8) : ∀ i, i ≤ nblk xs → outB' xs.length (bodyB xs) i = xs.take (32 * i)
  | 0, _ => by simp [outB']
  | i + 1, h => by
    rw [outB'_succ, body_out xs i (by omega), (blk_body xs (by omega)).1]
    unfold chunk
    rw [show 32 * (i + 1) = 32 * i + 32 by omega, List.take_add]
theorem body_all (xs : List UInt8) : outB' xs.length (bodyB xs) (nbB xs.length) = xs := by
  rw [nbB_blk, body_out xs _ (Nat.le_refl _)]
  exact List.take_of_length_le (by unfold nblk; omega)
end Go.Proofs.YtfoplbolbjcggaaDoor
