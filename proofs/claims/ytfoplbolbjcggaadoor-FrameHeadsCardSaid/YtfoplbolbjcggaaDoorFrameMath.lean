/- Frames in plain Lean: stamps, heads, blocks with digests. -/
import Derived.Test.YtfoplbolbjcggaaDoorBlocksW
import Derived.Test.YtfoplbolbjcggaaDoorWires
import Derived.Test.YtfoplbolbjcggaaDoorShaMath
set_option linter.unusedVariables false
set_option maxRecDepth 100000
namespace Go.Proofs.YtfoplbolbjcggaaDoor
open Go.RowKit

structure Stp where
  node : Int
  boot : Int
  seq : Int
  shard : Int
  size : Int
  deriving DecidableEq
def stIds (s : Stp) : Array Value := #[.int .i64 s.node, .int .i64 s.boot, .int .i64 s.seq]
def stV (s : Stp) : Value := .agg #[.int .i64 s.node, .int .i64 s.boot, .int .i64 s.seq, .int .i64 s.shard, .int .i64 s.size]
def stCells (s : Stp) : List Value := [.int .i64 s.node, .int .i64 s.boot, .int .i64 s.seq, .int .i64 s.shard, .int .i64 s.size]
structure stOk (s : Stp) : Prop where
  n0 : 0 ≤ s.node
  n1 : s.node < 16
  b0 : 0 ≤ s.boot
  b1 : s.boot ≤ 1099511627776
  q0 : 0 ≤ s.seq
  q1 : s.seq ≤ 1099511627776
  h0 : 0 ≤ s.shard
  h1 : s.shard < 16
  z0 : 0 ≤ s.size
  z1 : s.size ≤ 1024
instance (s : Stp) : Decidable (stOk s) :=
  if h : 0 ≤ s.node ∧ s.node < 16 ∧ 0 ≤ s.boot ∧ s.boot ≤ 1099511627776 ∧ 0 ≤ s.seq ∧ s.seq ≤ 1099511627776 ∧ 0 ≤ s.shard ∧ s.shard < 16 ∧ 0 ≤ s.size ∧ s.size ≤ 1024 then
    isTrue ⟨h.1, h.2.1, h.2.2.1, h.2.2.2.1, h.2.2.2.2.1, h.2.2.2.2.2.1, h.2.2.2.2.2.2.1, h.2.2.2.2.2.2.2.1, h.2.2.2.2.2.2.2.2.1, h.2.2.2.2.2.2.2.2.2⟩
  else isFalse fun k => h ⟨k.n0, k.n1, k.b0, k.b1, k.q0, k.q1, k.h0, k.h1, k.z0, k.z1⟩
/-- the numbers of a head -/
def headNs (s : Stp) (n : Nat) : List Nat := [1, s.node.toNat, s.boot.toNat, s.seq.toNat, s.shard.toNat, s.size.toNat, n]
def headB (s : Stp) (n : Nat) : List UInt8 := (headNs s n).flatMap nb
/-- what stands ahead of the blocks -/
def topB (s : Stp) (n : Nat) : List UInt8 := nb ((headB s n).length + 4) ++ sealB (headB s n)
def body1 (b : Nat × List UInt8) : List UInt8 := b.2 ++ shaB b.2
def bodyB (xs : List UInt8) : List UInt8 := (blks xs).flatMap body1
def frameB (s : Stp) (xs : List UInt8) : List UInt8 := topB s xs.length ++ bodyB xs

theorem headNs_lt {s : Stp} {n : Nat} (h : stOk s) (hn : n ≤ 1099511627776) : ∀ x ∈ headNs s n, x ≤ 1099511627776 := by
  intro x hx
  have := h.n1; have := h.b1; have := h.q1; have := h.h1; have := h.z1
  simp [headNs] at hx
  omega
theorem flat_nb_length : ∀ (l : List Nat), (∀ x ∈ l, x < 9223372036854775808) → (l.flatMap nb).length ≤ 9 * l.length
  | [], _ => by simp
  | x :: l, h => by
    rw [List.flatMap_cons, List.length_append, List.length_cons]
    have := nb_len9 x (h x (by simp))
    have := flat_nb_length l (fun y hy => h y (by simp [hy]))
    omega
theorem headB_length {s : Stp} {n : Nat} (h : stOk s) (hn : n ≤ 1099511627776) : (headB s n).length ≤ 63 := by
  have := flat_nb_length (headNs s n) (fun x hx => by have := headNs_lt h hn x hx; omega)
  simpa [headB, headNs] using this
theorem topB_length {s : Stp} {n : Nat} (h : stOk s) (hn : n ≤ 1099511627776) : (topB s n).length ≤ 68 := by
  have h1 := headB_length h hn
  unfold topB
  rw [List.length_append, sealB_length, nb_lo (by omega)]
  simp
  omega
theorem body1_length (b : Nat × List UInt8) : (body1 b).length = b.2.length + 32 := by unfold body1; rw [List.length_append, shaB_len]
theorem flat_body_le (l : List (Nat × List UInt8)) (h : ∀ b ∈ l, b.2.length ≤ 32) : (l.flatMap body1).length ≤ 64 * l.length := by
  induction l with
  | nil => simp
  | cons x l ih =>
    rw [List.flatMap_cons, List.length_append, body1_length, List.length_cons]
    have := h x (by simp)
    have := ih (fun b hb => h b (by simp [hb]))
    omega
theorem blks_small (xs : List UInt8) : ∀ b ∈ blks xs, b.2.length ≤ 32 := by
  intro b hb
  obtain ⟨i, _, rfl⟩ := List.mem_map.1 hb
  rw [chunk_length]; omega
theorem bodyB_length (xs : List UInt8) : (bodyB xs).length ≤ 64 * nblk xs := by
  have := flat_body_le (blks xs) (blks_small xs)
  rw [blks_length] at this
  exact this
end Go.Proofs.YtfoplbolbjcggaaDoor
