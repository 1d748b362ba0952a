/- Plain laws of chapter 4: keyed digests. No program in sight. -/
import Derived.Test.YtmddehbfimpjdaaShaMath
set_option linter.unusedVariables false
namespace Go.Proofs.Ytmddehbfimpjdaa
open Go.RowKit

def keyB (xs : List UInt8) : List UInt8 := if 64 < xs.length then shaB xs else xs
def padB (xs : List UInt8) : List UInt8 := keyB xs ++ List.replicate (64 - (keyB xs).length) 0
def padW (xs : List UInt8) (x : UInt8) : List UInt8 := (padB xs).map (· ^^^ x)
/-- the code of a message under a key -/
def macB (key msg : List UInt8) : List UInt8 := shaB (padW key 92 ++ shaB (padW key 54 ++ msg))
theorem keyB_len (xs : List UInt8) : (keyB xs).length ≤ 64 := by
  unfold keyB
  split
  · rw [shaB_len]; omega
  · omega
theorem padB_len (xs : List UInt8) : (padB xs).length = 64 := by
  unfold padB; have := keyB_len xs; rw [List.length_append, List.length_replicate]; omega
theorem padW_len (xs : List UInt8) (x : UInt8) : (padW xs x).length = 64 := by unfold padW; rw [List.length_map, padB_len]
theorem macB_len (k m : List UInt8) : (macB k m).length = 32 := rfl
/-- a short key and noughts behind it -/
theorem padB_fill (xs : List UInt8) (k : Nat) (h : xs.length + k ≤ 64) : padB (xs ++ List.replicate k 0) = padB xs := by
  unfold padB keyB
  rw [if_neg (by rw [List.length_append, List.length_replicate]; omega), if_neg (by omega), List.append_assoc, List.replicate_append_replicate, List.length_append, List.length_replicate]
  congr 2; omega
theorem macB_fill (xs m : List UInt8) (k : Nat) (h : xs.length + k ≤ 64) : macB (xs ++ List.replicate k 0) m = macB xs m := by
  unfold macB padW; rw [padB_fill xs k h]
/-- the row while it is turned -/
def xorR (P : List UInt8) (x : UInt8) (j : Nat) : List UInt8 := (P.map (· ^^^ x)).take j ++ P.drop j
theorem xorR_step {P : List UInt8} {x : UInt8} {j : Nat} {y : UInt8} (h : P[j]? = some y) : (xorR P x j)[j]? = some y ∧ (xorR P x j).set j (y ^^^ x) = xorR P x (j + 1) := by
  have hj := (List.getElem?_eq_some_iff.1 h).1
  have hl : ((P.map (· ^^^ x)).take j).length = j := by rw [List.length_take, List.length_map]; omega
  have hz : (P.map (· ^^^ x))[j]? = some (y ^^^ x) := by rw [List.getElem?_map, h]; rfl
  have hd : P.drop j = y :: P.drop (j + 1) := by
    rw [List.drop_eq_getElem_cons hj]
    have := List.getElem?_eq_getElem hj
    rw [h] at this
    rw [Option.some.inj this]
  unfold xorR
  constructor
  · rw [List.getElem?_append_right (by omega), hl, Nat.sub_self, hd]; rfl
  · rw [List.set_append_right _ _ (by omega), hl, Nat.sub_self, hd, List.set_cons_zero, List.take_add_one, hz]; simp
theorem xorR_full (P : List UInt8) (x : UInt8) (j : Nat) (h : P.length ≤ j) : xorR P x j = P.map (· ^^^ x) := by
  unfold xorR; rw [List.take_of_length_le (by rw [List.length_map]; exact h), List.drop_eq_nil_of_le h, List.append_nil]
theorem mac_fox : (macB [107, 101, 121] [84, 104, 101, 32, 113, 117, 105, 99, 107, 32, 98, 114, 111, 119, 110, 32, 102, 111, 120, 32, 106, 117, 109, 112, 115, 32, 111, 118, 101, 114, 32, 116, 104, 101, 32, 108, 97, 122, 121, 32, 100, 111, 103])[0]? = some 0xf7 ∧ (macB [107, 101, 121] [84, 104, 101, 32, 113, 117, 105, 99, 107, 32, 98, 114, 111, 119, 110, 32, 102, 111, 120, 32, 106, 117, 109, 112, 115, 32, 111, 118, 101, 114, 32, 116, 104, 101, 32, 108, 97, 122, 121, 32, 100, 111, 103])[1]? = some 0xbc ∧ (macB [107, 101, 121] [84, 104, 101, 32, 113, 117, 105, 99, 107, 32, 98, 114, 111, 119, 110, 32, 102, 111, 120, 32, 106, 117, 109, 112, 115, 32, 111, 118, 101, 114, 32, 116, 104, 101, 32, 108, 97, 122, 121, 32, 100, 111, 103])[31]? = some 0xd8 := by decide +kernel
end Go.Proofs.Ytmddehbfimpjdaa
