/- Plain laws of reading a number's bytes. No program in sight. -/
import Derived.Test.YtkhccchjflmcmaaDoorWireMath
set_option linter.unusedVariables false
namespace Go.Proofs.YtkhccchjflmcmaaDoor
open Go.RowKit

/-- the number that bytes say, the first one the least -/
def val7 : List UInt8 → Nat
  | [] => 0
  | c :: r => c.toNat % 128 + 128 * val7 r
theorem val7_lt : ∀ (cs : List UInt8), val7 cs < 128 ^ cs.length
  | [] => by simp [val7]
  | c :: r => by
    have := val7_lt r
    have h : c.toNat % 128 < 128 := Nat.mod_lt _ (by omega)
    simp only [val7, List.length_cons, Nat.pow_succ]
    omega
theorem val7_append : ∀ (cs : List UInt8) (c : UInt8), val7 (cs ++ [c]) = val7 cs + c.toNat % 128 * 128 ^ cs.length
  | [], c => by simp [val7]
  | x :: r, c => by
    simp only [List.cons_append, val7, val7_append r c, List.length_cons, Nat.pow_succ]
    rw [Nat.mul_add]
    have : 128 * (c.toNat % 128 * 128 ^ r.length) = c.toNat % 128 * (128 ^ r.length * 128) := by
      rw [Nat.mul_comm 128, Nat.mul_assoc]
    omega
theorem ofNat_eq (c : UInt8) (k : Nat) (h : k = c.toNat) : UInt8.ofNat k = c := by
  subst h; exact UInt8.toNat_inj.1 (by rw [UInt8.toNat_ofNat']; have := c.toNat_lt; omega)
theorem val7_pos : ∀ (cs : List UInt8) (c : UInt8), c.toNat < 128 → c.toNat ≠ 0 → 0 < val7 (cs ++ [c])
  | [], c, h, h0 => by simp [val7]; omega
  | x :: r, c, h, h0 => by
    have := val7_pos r c h h0
    simp only [List.cons_append, val7]; omega
theorem nb_val7 : ∀ (cs : List UInt8) (c : UInt8), (∀ x ∈ cs, 128 ≤ x.toNat) → c.toNat < 128 → (c.toNat ≠ 0 ∨ cs = []) → nb (val7 (cs ++ [c])) = cs ++ [c]
  | [], c, _, h, _ => by
    have e : val7 ([] ++ [c]) = c.toNat := by simp [val7]; omega
    rw [e, nb_lo h, ofNat_eq c _ rfl]; rfl
  | x :: r, c, hx, h, h0 => by
    have h1 := hx x (by simp)
    have h2 := x.toNat_lt
    have hc0 : c.toNat ≠ 0 := h0.resolve_right (by simp)
    have hp := val7_pos r c h hc0
    simp only [List.cons_append, val7]
    rw [nb_hi (by omega)]
    have e1 : (x.toNat % 128 + 128 * val7 (r ++ [c])) % 128 + 128 = x.toNat := by omega
    have e2 : (x.toNat % 128 + 128 * val7 (r ++ [c])) / 128 = val7 (r ++ [c]) := by omega
    rw [e1, e2, ofNat_eq x _ rfl, nb_val7 r c (fun y hy => hx y (by simp [hy])) h (.inl hc0)]
theorem nb_shape : ∀ (n : Nat), ∃ cs c, nb n = cs ++ [c] ∧ (∀ x ∈ cs, 128 ≤ x.toNat) ∧ c.toNat < 128 ∧ (c.toNat ≠ 0 ∨ cs = []) := by
  intro n
  induction n using Nat.strongRecOn with
  | _ n ih =>
    by_cases h : n < 128
    · exact ⟨[], UInt8.ofNat n, by rw [nb_lo h]; rfl, by simp, by rw [UInt8.toNat_ofNat']; omega, .inr rfl⟩
    · obtain ⟨cs, c, h1, h2, h3, h4⟩ := ih (n / 128) (by omega)
      refine ⟨UInt8.ofNat (n % 128 + 128) :: cs, c, by rw [nb_hi (by omega), h1]; rfl, ?_, h3, .inl ?_⟩
      · intro x hx
        rcases List.mem_cons.1 hx with rfl | hx
        · rw [UInt8.toNat_ofNat']; omega
        · exact h2 x hx
      · rcases h4 with h4 | h4
        · exact h4
        · subst h4
          intro h0
          by_cases h5 : n / 128 < 128
          · rw [nb_lo h5] at h1
            have := congrArg (fun l : List UInt8 => l.map UInt8.toNat) h1
            simp at this
            omega
          · rw [nb_hi (by omega)] at h1
            have hl := congrArg List.length h1
            have := nb_pos (n / 128 / 128)
            simp at hl
            rw [hl] at this
            simp at this
theorem val7_nb (n : Nat) : val7 (nb n) = n := by
  induction n using Nat.strongRecOn with
  | _ n ih =>
    by_cases h : n < 128
    · rw [nb_lo h]; simp [val7]; omega
    · rw [nb_hi (by omega)]
      simp only [val7, ih (n / 128) (by omega)]
      rw [UInt8.toNat_ofNat']; omega

/-- the bytes begin with the number n, in l bytes -/
def Says (xs : List UInt8) (n l : Nat) : Prop := n < 9223372036854775808 ∧ nb n = xs.take l ∧ l ≤ xs.length
theorem Says.len {xs : List UInt8} {n l : Nat} (h : Says xs n l) : l = (nb n).length := by rw [h.2.1, List.length_take]; have := h.2.2; omega
theorem Says.uniq {xs : List UInt8} {n l m k : Nat} (h : Says xs n l) (h2 : Says xs m k) : n = m ∧ l = k := by
  by_cases e : n = m
  · subst e; exact ⟨rfl, h.len.trans h2.len.symm⟩
  · exfalso
    obtain ⟨i, x, y, h3, h4, h5⟩ := nb_apart n m e
    rw [h.2.1] at h3
    rw [h2.2.1] at h4
    rw [List.getElem?_take] at h3 h4
    split at h3
    · split at h4
      · rw [h3] at h4; exact h5 (Option.some.inj h4)
      · cases h4
    · cases h3
/-- what stands at the first byte below 128 -/
theorem Says.at {xs : List UInt8} {n l : Nat} (h : Says xs n l) : ∃ i c, l = i + 1 ∧ i < 9 ∧ xs[i]? = some c ∧ c.toNat < 128 ∧ (c.toNat ≠ 0 ∨ i = 0) ∧ (∀ j x, j < i → xs[j]? = some x → 128 ≤ x.toNat) := by
  obtain ⟨cs, c, h1, h2, h3, h4⟩ := nb_shape n
  have h9 := nb_len9 n h.1
  have hl := h.len
  rw [h1] at hl h9
  simp at hl h9
  have ht : xs.take l = cs ++ [c] := by rw [← h.2.1, h1]
  refine ⟨cs.length, c, hl, by omega, ?_, h3, h4.imp id (fun e => by rw [e]; rfl), ?_⟩
  · have := congrArg (·[cs.length]?) ht
    simp only [List.getElem?_take, List.getElem?_append_right (Nat.le_refl _), Nat.sub_self] at this
    rw [if_pos (by omega)] at this
    simpa using this
  · intro j x hj hx
    have := congrArg (·[j]?) ht
    simp only [List.getElem?_take, List.getElem?_append_left hj] at this
    rw [if_pos (by omega), hx] at this
    exact h2 x (List.mem_of_getElem? this.symm)
/-- bytes of 128 and more, then one below -/
theorem says_of {xs : List UInt8} {i : Nat} {c : UInt8} (hi : i < 9) (hc : xs[i]? = some c) (h : c.toNat < 128) (h0 : c.toNat ≠ 0 ∨ i = 0) (hb : ∀ j x, j < i → xs[j]? = some x → 128 ≤ x.toNat) : Says xs (val7 (xs.take (i + 1))) (i + 1) := by
  have hl := (List.getElem?_eq_some_iff.1 hc).1
  have e : xs.take (i + 1) = xs.take i ++ [c] := by rw [List.take_add_one, hc]; rfl
  refine ⟨?_, ?_, by omega⟩
  · have := val7_lt (xs.take (i + 1))
    rw [List.length_take, Nat.min_eq_left (by omega)] at this
    have h2 : 128 ^ (i + 1) ≤ 128 ^ 9 := Nat.pow_le_pow_right (by omega) (by omega)
    have h3 : (128 : Nat) ^ 9 = 9223372036854775808 := by decide
    omega
  · rw [e]
    refine nb_val7 _ c ?_ h (h0.imp id (fun e => by subst e; rfl))
    intro x hx
    obtain ⟨j, hj⟩ := List.getElem?_of_mem hx
    rw [List.getElem?_take] at hj
    split at hj
    · exact hb j x (by assumption) hj
    · cases hj
end Go.Proofs.YtkhccchjflmcmaaDoor
