/- The walk of mac.Same. -/
import Derived.Test.YtmddehbfimpjdaaOwn
import Derived.Test.YtmddehbfimpjdaaProg
import Derived.Test.YtmddehbfimpjdaaBase
set_option linter.unusedVariables false
namespace Go.Proofs.Ytmddehbfimpjdaa
open Go.RowKit

theorem or_zero (a b : UInt8) : a ||| b = 0 ↔ a = 0 ∧ b = 0 := by
  rw [← UInt8.toNat_inj, ← UInt8.toNat_inj, ← UInt8.toNat_inj, UInt8.toNat_or]
  show _ ||| _ = 0 ↔ _ = 0 ∧ _ = 0
  constructor
  · intro h
    have h1 := @Nat.left_le_or a.toNat b.toNat
    have h2 := @Nat.right_le_or a.toNat b.toNat
    omega
  · rintro ⟨h1, h2⟩
    rw [h1, h2]; rfl
theorem xor_zero (a b : UInt8) : a ^^^ b = 0 ↔ a = b := by
  constructor
  · intro h
    have h2 := congrArg (· ^^^ b) h
    simpa [UInt8.xor_assoc] using h2
  · rintro rfl; simp
theorem take_succ_eq (xs ys : List UInt8) (j : Nat) (x y : UInt8) (hx : xs[j]? = some x) (hy : ys[j]? = some y) : xs.take (j + 1) = ys.take (j + 1) ↔ xs.take j = ys.take j ∧ x = y := by
  have h1 := (List.getElem?_eq_some_iff.1 hx).1
  have h2 := (List.getElem?_eq_some_iff.1 hy).1
  rw [List.take_add_one, List.take_add_one, hx, hy]
  constructor
  · intro h
    have := List.append_inj h (by rw [List.length_take, List.length_take]; omega)
    exact ⟨this.1, by simpa using this.2⟩
  · rintro ⟨h, rfl⟩; rw [h]
set_option maxHeartbeats 2000000 in
theorem same_any (p q : Option Addr) (xs ys : List UInt8) (n m c d : Nat) (w : World) (hn : xs.length = n) (hm : ys.length = m) (hb : n ≤ 9223372036854775807) (hbm : m ≤ 9223372036854775807) (hx : Rd w p (u8s xs)) (hy : Rd w q (u8s ys)) :
    Calls Try.prog 27 #[.slice p n c, .slice q m d] w fun e w' => e = .returned (.bool (xs == ys)) ∧ Only [] w w' := by
  by_cases hnm : n = m
  · subst hnm
    go_enter Try.func27, Try.ntmps27
    go_wp2_with fail
    go_loopw [14, 5] (fun i a wr => ∃ (j : Nat) (x : UInt8), i = .int .i64 (j : Int) ∧ j ≤ n ∧ a = .int .u8 (x.toNat : Int) ∧ Hid (x = 0 ↔ xs.take j = ys.take j) ∧ Hid (Only [] w wr)) (fun i _ _ => n - (intOf i).toNat)
    case atStart => exact ⟨0, 0, rfl, by omega, rfl, Lib.hid (by simp), Lib.hid (Only.refl _ _)⟩
    case round =>
      obtain ⟨j, x, rfl, hj, rfl, Hx, Ho⟩ := hrel
      by_cases hlt : j < n
      · obtain ⟨b1, off1, rfl, hyc1⟩ := hx.bytes (by omega)
        obtain ⟨b2, off2, rfl, hyc2⟩ := hy.bytes (by omega)
        have hc1 := Ho.out.cell (hyc1 j (by omega)) (by simp)
        have hc2 := Ho.out.cell (hyc2 j (by omega)) (by simp)
        have h1 : xs[j]? = some xs[j] := List.getElem?_eq_getElem (by omega)
        have h2 : ys[j]? = some ys[j] := List.getElem?_eq_getElem (by omega)
        generalize xs[j] = a at hc1 h1
        generalize ys[j] = b at hc2 h2
        have hstep := take_succ_eq xs ys j a b h1 h2
        have hnew : (x ||| (a ^^^ b)) = 0 ↔ xs.take (j + 1) = ys.take (j + 1) := by rw [or_zero, xor_zero, Hx.out, hstep]
        have hxo := u8_xor_u8 a b
        have hor := u8_or_u8 x (a ^^^ b)
        generalize a ^^^ b = v at hnew hxo hor
        generalize x ||| v = z at hnew hor
        have hji : (j : Int) < (n : Int) := by omega
        have Hnew := Lib.hid hnew
        have Hn := Lib.hid hn
        have Hm := Lib.hid hm
        clear hyc1 hyc2 h1 h2 hstep hnew hx hy hn hm
        go_wp2_with fail
        go_quiet (fail)
        have hoq := Only.drewN wr nq
        have Ho2 := Lib.hid (Ho.out.trans0 hoq)
        clear Ho hoq
        go_wp2_with fail
        refine ⟨⟨j + 1, z, by go_num, by omega, rfl, Hnew, Ho2⟩, by simp [intOf]; omega⟩
      · obtain rfl : j = n := by omega
        have heq : (xs == ys) = ((x.toNat : Int) == 0) := by
          have h := Hx.out
          rw [List.take_of_length_le (by omega), List.take_of_length_le (by omega), ← UInt8.toNat_inj] at h
          rw [Bool.eq_iff_iff]
          simp only [beq_iff_eq]
          rw [← h]
          show x.toNat = 0 ↔ _
          omega
        have Heq := Lib.hid heq
        clear heq hx hy hn hm
        go_wp2_with fail
        go_ret
        exact ⟨by rw [Heq.out]; rfl, Ho.out⟩
  · have heq : (xs == ys) = false := by
      rw [Bool.eq_false_iff]
      intro h
      have := beq_iff_eq.1 h
      exact hnm (by rw [← hn, ← hm, this])
    have hd : ((n : Int) != (m : Int)) = true := by simp; omega
    have Heq := Lib.hid heq
    clear heq hx hy hn hm hnm
    go_enter Try.func27, Try.ntmps27
    go_wp2_with fail
    go_ret
    exact ⟨by rw [Heq.out]; rfl, Only.refl _ _⟩
end Go.Proofs.Ytmddehbfimpjdaa
