/- Plain laws of sums and seals: a sum with one byte changed is another sum. No program in sight but its sums. -/
import Derived.Test.YtkhccchjflmcmaaDoorSealW
set_option linter.unusedVariables false
namespace Go.Proofs.YtkhccchjflmcmaaDoor
open Go.RowKit

theorem wstep_inj {s t : UInt32} (h : s * 16777619 = t * 16777619) : s = t := by
  have h2 := congrArg (· * (899433627 : UInt32)) h
  simp only [UInt32.mul_assoc] at h2
  have e : (16777619 : UInt32) * 899433627 = 1 := by decide +kernel
  rw [e, UInt32.mul_one, UInt32.mul_one] at h2
  exact h2
theorem xor_inj {s t c : UInt32} (h : s ^^^ c = t ^^^ c) : s = t := by
  have h2 := congrArg (· ^^^ c) h
  simpa [UInt32.xor_assoc] using h2
theorem xor_inj2 {s c d : UInt32} (h : s ^^^ c = s ^^^ d) : c = d := by
  rw [UInt32.xor_comm s c, UInt32.xor_comm s d] at h
  exact xor_inj h
theorem wsum_inj : ∀ (xs : List UInt8) (s t : UInt32), wsum s xs = wsum t xs → s = t
  | [], s, t, h => h
  | c :: r, s, t, h => xor_inj (wstep_inj (wsum_inj r _ _ h))
theorem wsum_set : ∀ (xs : List UInt8) (s : UInt32) (i : Nat) (x to : UInt8), xs[i]? = some x → x ≠ to → wsum s (xs.set i to) ≠ wsum s xs
  | [], s, i, x, to, h, _ => by simp at h
  | c :: r, s, 0, x, to, h, hne => by
    simp only [List.getElem?_cons_zero, Option.some.injEq] at h
    subst h
    intro e
    have := xor_inj2 (wstep_inj (wsum_inj r _ _ e))
    exact hne (UInt8.toNat_inj.1 (by have := congrArg UInt32.toNat this; simpa using this.symm))
  | c :: r, s, i + 1, x, to, h, hne => by
    intro e
    exact wsum_set r _ i x to (by simpa using h) hne e
theorem sb_inj {s t : UInt32} (h : sb s = sb t) : s = t := by
  have h1 := s.toNat_lt
  have h2 := t.toNat_lt
  simp only [sb, List.cons.injEq, and_true] at h
  obtain ⟨e1, e2, e3, e4⟩ := h
  have f : ∀ a b : Nat, UInt8.ofNat a = UInt8.ofNat b → a % 256 = b % 256 := fun a b h => by
    have := congrArg UInt8.toNat h
    rwa [UInt8.toNat_ofNat', UInt8.toNat_ofNat'] at this
  have g1 := f _ _ e1
  have g2 := f _ _ e2
  have g3 := f _ _ e3
  have g4 := f _ _ e4
  exact UInt32.toNat_inj.1 (by omega)
theorem seal_slip (b : List UInt8) (i : Nat) (x to : UInt8) (hx : (sealB b)[i]? = some x) (hne : x ≠ to) : sealB (((sealB b).set i to).take b.length) ≠ (sealB b).set i to := by
  intro h
  by_cases hi : i < b.length
  · have e1 : ((sealB b).set i to) = b.set i to ++ sb (wsum 2166136261 b) := by
      rw [sealB, List.set_append]; simp [hi]
    have e2 : (((sealB b).set i to).take b.length) = b.set i to := by
      rw [e1, List.take_left' (by simp)]
    rw [e2, e1, sealB] at h
    have h3 := sb_inj (List.append_cancel_left h)
    have hbx : b[i]? = some x := by
      rw [sealB, List.getElem?_append_left hi] at hx; exact hx
    exact wsum_set b _ i x to hbx hne h3
  · have e2 : (((sealB b).set i to).take b.length) = b := by
      rw [List.take_set_of_le (by omega), sealB, List.take_left]
    rw [e2] at h
    have h3 := congrArg (·[i]?) h
    have hl := (List.getElem?_eq_some_iff.1 hx).1
    simp only [hx, List.getElem?_set_self hl] at h3
    exact hne (Option.some.inj h3)
theorem sealB_ok (b : List UInt8) : sealB ((sealB b).take b.length) = sealB b := by
  rw [show (sealB b).take b.length = b by rw [sealB, List.take_left]]
end Go.Proofs.YtkhccchjflmcmaaDoor
