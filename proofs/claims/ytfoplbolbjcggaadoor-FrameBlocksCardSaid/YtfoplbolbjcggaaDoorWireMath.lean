/- Plain laws of a number's bytes. No program in sight. -/
import Derived.Test.YtfoplbolbjcggaaDoorBase
set_option linter.unusedVariables false
set_option maxRecDepth 100000
namespace Go.Proofs.YtfoplbolbjcggaaDoor
open Go.RowKit

/-- a number's bytes -/
def nb (n : Nat) : List UInt8 := if h : n < 128 then [UInt8.ofNat n] else UInt8.ofNat (n % 128 + 128) :: nb (n / 128)
termination_by n
decreasing_by omega
theorem nb_lo {n : Nat} (h : n < 128) : nb n = [UInt8.ofNat n] := by rw [nb, dif_pos h]
theorem nb_hi {n : Nat} (h : 128 ≤ n) : nb n = UInt8.ofNat (n % 128 + 128) :: nb (n / 128) := by rw [nb, dif_neg (by omega)]

theorem nb_pos (n : Nat) : 1 ≤ (nb n).length := by
  by_cases h : n < 128
  · rw [nb_lo h]; simp
  · rw [nb_hi (by omega)]; simp
theorem nb_len : ∀ (k n : Nat), n < 128 ^ (k + 1) → (nb n).length ≤ k + 1
  | 0, n, h => by rw [nb_lo (by simpa using h)]; simp
  | k + 1, n, h => by
    by_cases h1 : n < 128
    · rw [nb_lo h1]; simp
    · rw [nb_hi (by omega)]
      have := nb_len k (n / 128) (by rw [Nat.div_lt_iff_lt_mul (by omega)]; rw [Nat.pow_succ] at h; omega)
      simp; omega
theorem nb_len9 (n : Nat) (h : n < 9223372036854775808) : (nb n).length ≤ 9 := nb_len 8 n (by simpa using h)
theorem nb_mono : ∀ (b a : Nat), a ≤ b → (nb a).length ≤ (nb b).length := by
  intro b
  induction b using Nat.strongRecOn with
  | _ b ih =>
    intro a h
    by_cases ha : a < 128
    · rw [nb_lo ha]; exact nb_pos b
    · rw [nb_hi (by omega : 128 ≤ a), nb_hi (by omega : 128 ≤ b)]
      have := ih (b / 128) (by omega) (a / 128) (by omega)
      simp; omega
theorem nb_apart : ∀ (a b : Nat), a ≠ b → ∃ (i : Nat) (x y : UInt8), (nb a)[i]? = some x ∧ (nb b)[i]? = some y ∧ x ≠ y := by
  intro a
  induction a using Nat.strongRecOn with
  | _ a ih =>
    intro b h
    have e1 : ∀ k : Nat, k < 256 → (UInt8.ofNat k).toNat = k := fun k hk => by rw [UInt8.toNat_ofNat']; omega
    by_cases ha : a < 128 <;> by_cases hb : b < 128
    · refine ⟨0, _, _, by rw [nb_lo ha]; rfl, by rw [nb_lo hb]; rfl, fun e => h ?_⟩
      have := congrArg UInt8.toNat e
      rw [e1 _ (by omega), e1 _ (by omega)] at this
      exact this
    · refine ⟨0, _, _, by rw [nb_lo ha]; rfl, by rw [nb_hi (by omega)]; rfl, fun e => ?_⟩
      have := congrArg UInt8.toNat e
      rw [e1 _ (by omega), e1 _ (by omega)] at this
      omega
    · refine ⟨0, _, _, by rw [nb_hi (by omega)]; rfl, by rw [nb_lo hb]; rfl, fun e => ?_⟩
      have := congrArg UInt8.toNat e
      rw [e1 _ (by omega), e1 _ (by omega)] at this
      omega
    · by_cases hm : a % 128 = b % 128
      · obtain ⟨i, x, y, h1, h2, h3⟩ := ih (a / 128) (by omega) (b / 128) (by omega)
        exact ⟨i + 1, x, y, by rw [nb_hi (by omega)]; exact h1, by rw [nb_hi (by omega)]; exact h2, h3⟩
      · refine ⟨0, _, _, by rw [nb_hi (by omega)]; rfl, by rw [nb_hi (by omega)]; rfl, fun e => ?_⟩
        have := congrArg UInt8.toNat e
        rw [e1 _ (by omega), e1 _ (by omega)] at this
        omega
theorem nb_apart_take (a b : Nat) (h : a ≠ b) (k : Nat) (hk : k = if (nb b).length < (nb a).length then (nb b).length else (nb a).length) : (nb a).take k ≠ (nb b).take k := by
  obtain ⟨i, x, y, h1, h2, h3⟩ := nb_apart a b h
  intro e
  have l1 := (List.getElem?_eq_some_iff.1 h1).1
  have l2 := (List.getElem?_eq_some_iff.1 h2).1
  have hi : i < k := by rw [hk]; split <;> omega
  have := congrArg (·[i]?) e
  simp only [List.getElem?_take, hi, if_true, h1, h2] at this
  exact h3 (by simpa using this)

/-- an int's lower 63 bits -/
def mask63 (a : Int) : Nat := (BitVec.ofInt 64 a).toNat % 9223372036854775808
theorem mask63_lt (a : Int) : mask63 a < 9223372036854775808 := Nat.mod_lt _ (by omega)
theorem and_mask63 (a : Int) : bits .and .i64 a 9223372036854775807 = ((mask63 a : Nat) : Int) := by
  simp only [bits]
  show IntKind.i64.wrap (((BitVec.ofInt 64 a) &&& (BitVec.ofInt 64 ((9223372036854775807 : Nat) : Int))).toNat : Int) = _
  rw [BitVec.toNat_and, ofInt64_nat 9223372036854775807 (by omega), show (9223372036854775807 : Nat) = 2 ^ 63 - 1 from rfl, Nat.and_two_pow_sub_one_eq_mod]
  exact i64_wrap_nat _ (Nat.mod_lt _ (by omega))
end Go.Proofs.YtfoplbolbjcggaaDoor
