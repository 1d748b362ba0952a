/- What frame.Get does with what stands behind a head, in plain Lean. -/
import Derived.Test.YtfoplbolbjcggaaDoorFrameMath
import Derived.Test.YtfoplbolbjcggaaDoorOwn
set_option linter.unusedVariables false
set_option maxRecDepth 100000
namespace Go.Proofs.YtfoplbolbjcggaaDoor
open Go.RowKit

/-- how many bytes of a shard of N are gone behind i blocks, where block i begins, its bytes, its digest -/
def gone (N i : Nat) : Nat := min (32 * i) N
def posB (N i : Nat) : Nat := 32 * i + gone N i
def blkB (N : Nat) (rest : List UInt8) (i : Nat) : List UInt8 := (rest.drop (posB N i)).take (min 32 (N - gone N i))
def digB (N : Nat) (rest : List UInt8) (i : Nat) : List UInt8 := (rest.drop (posB N i + min 32 (N - gone N i))).take 32
def okB (N : Nat) (rest : List UInt8) (i : Nat) : Prop := shaB (blkB N rest i) = digB N rest i
def nbB (N : Nat) : Nat := (N + 31) / 32
def outB' (N : Nat) (rest : List UInt8) (i : Nat) : List UInt8 := (List.range i).flatMap (blkB N rest)
theorem outB'_succ (N : Nat) (rest : List UInt8) (i : Nat) : outB' N rest (i + 1) = outB' N rest i ++ blkB N rest i := by
  unfold outB'; rw [List.range_succ, List.flatMap_append]; simp
theorem gone_step {N i : Nat} (h : i < nbB N) : gone N i = 32 * i ∧ 32 * i < N ∧ gone N (i + 1) = gone N i + min 32 (N - gone N i) ∧ posB N (i + 1) = posB N i + min 32 (N - gone N i) + 32 := by
  unfold nbB at h
  unfold posB gone
  omega
theorem gone_end (N : Nat) : gone N (nbB N) = N := by unfold gone nbB; omega
theorem blkB_length {N : Nat} {rest : List UInt8} (hl : rest.length = N + 32 * nbB N) {i : Nat} (h : i < nbB N) : (blkB N rest i).length = min 32 (N - gone N i) ∧ (digB N rest i).length = 32 ∧ posB N i + min 32 (N - gone N i) + 32 ≤ rest.length := by
  obtain ⟨h1, h2, h3, h4⟩ := gone_step h
  have h5 : posB N i + min 32 (N - gone N i) + 32 ≤ rest.length := by
    rw [hl]
    unfold nbB at h ⊢
    unfold posB
    rw [h1]
    omega
  refine ⟨?_, ?_, h5⟩
  · unfold blkB; rw [List.length_take, List.length_drop]; omega
  · unfold digB; rw [List.length_take, List.length_drop]; omega
theorem outB'_length {N : Nat} {rest : List UInt8} (hl : rest.length = N + 32 * nbB N) : ∀ (i : Nat), i ≤ nbB N → (outB' N rest i).length = gone N i
  | 0, _ => by simp [outB', gone]
  | i + 1, h => by
    rw [outB'_succ, List.length_append, outB'_length hl i (by omega), (blkB_length hl (by omega)).1, (gone_step (by omega)).2.2.1]
/-- a pointer behind a cut -/
theorem cut_ptr {w : World} {r : Option Addr} {vs : List Value} {m c : Nat} (hr : r ≠ none) (h : Rd w r vs) (hc : c = m → vs.length ≤ m) : (if c = m then r else r.map fun x => x.add m) ≠ none ∧ Rd w (if c = m then r else r.map fun x => x.add m) (vs.drop m) := by
  by_cases e : c = m
  · rw [if_pos e]
    refine ⟨hr, ?_⟩
    rw [List.drop_of_length_le (hc e)]
    exact Rd.nil _ _
  · rw [if_neg e]
    refine ⟨fun hn => ?_, h.sub m⟩
    cases hrr : r with
    | none => exact hr hrr
    | some a => rw [hrr] at hn; cases hn
end Go.Proofs.YtfoplbolbjcggaaDoor
