/- The walk of bollardref01.Mul. -/
import Derived.Test.YtlgcclhepegggaaDoorGfRest
import Derived.Test.YtlgcclhepegggaaDoorRefGfMath
set_option linter.unusedVariables false
namespace Go.Proofs.YtlgcclhepegggaaDoor
open Go.RowKit

theorem bit_u8 (a : UInt8) (k : Nat) {d : Bool} (h : a.toNat.testBit k = d) : bits .and .u8 ((a.toNat : Int) / 2 ^ k) 1 = (if d then 1 else 0) := by
  have hlt := a.toNat_lt
  have e : ((a.toNat : Int) / 2 ^ k) = ((a.toNat / 2 ^ k : Nat) : Int) := by simp
  have hq : a.toNat / 2 ^ k < 256 := Nat.lt_of_le_of_lt (Nat.div_le_self _ _) hlt
  rw [e, show (1 : Int) = ((1 : Nat) : Int) from rfl, u8_and_nat _ _ hq (by omega), nat_mask1]
  rw [Nat.testBit_eq_decide_div_mod_eq] at h
  subst h
  have := Nat.mod_two_eq_zero_or_one (a.toNat / 2 ^ k)
  rcases this with h | h <;> simp [h]
theorem bit_i64 (p k : Nat) {d : Bool} (hp : p < 9223372036854775808) (h : p.testBit k = d) : bits .and .i64 ((p : Int) / 2 ^ k) 1 = (if d then 1 else 0) := by
  have e : ((p : Int) / 2 ^ k) = ((p / 2 ^ k : Nat) : Int) := by simp
  have hq : p / 2 ^ k < 9223372036854775808 := Nat.lt_of_le_of_lt (Nat.div_le_self _ _) hp
  rw [e, i64_and1 _ hq]
  rw [Nat.testBit_eq_decide_div_mod_eq] at h
  subst h
  have := Nat.mod_two_eq_zero_or_one (p / 2 ^ k)
  rcases this with h | h <;> simp [h]
theorem wrap_pow (n : Nat) (h : n < 15) : wrap64 (2 ^ n) = ((2 ^ n : Nat) : Int) := by
  have h1 : 2 ^ n < 2 ^ 15 := Nat.pow_lt_pow_right (by omega) h
  have e : ((2 : Int) ^ n) = ((2 ^ n : Nat) : Int) := by simp
  rw [e]
  generalize 2 ^ n = x at h1 ⊢
  exact IntWalk.wrap64_in _ ⟨by omega, by omega⟩
theorem wrap_pow285 (n : Nat) (h : n < 7) : wrap64 (285 * 2 ^ n) = ((285 * 2 ^ n : Nat) : Int) := by
  have h1 : 2 ^ n < 2 ^ 7 := Nat.pow_lt_pow_right (by omega) h
  have e : ((2 : Int) ^ n) = ((2 ^ n : Nat) : Int) := by simp
  rw [e]
  generalize 2 ^ n = x at h1 ⊢
  rw [show ((285 * x : Nat) : Int) = 285 * (x : Int) by omega]
  exact IntWalk.wrap64_in _ ⟨by omega, by omega⟩
theorem byte_of (p : Nat) : (p : Int) % 256 = ((UInt8.ofNat p).toNat : Int) := by
  rw [UInt8.toNat_ofNat']; simp

theorem bsum_succ (f : Nat → Nat) {n y : Nat} {d : Bool} (h : y.testBit n = d) : bsum f (n + 1) y = if d then bsum f n y ^^^ f n else bsum f n y := by rw [bsum, h]

theorem refMul_any (a b : UInt8) (w : World) :
    Calls Tryd.prog 51 #[.int .u8 (a.toNat : Int), .int .u8 (b.toNat : Int)] w fun e w' => e = .returned (.int .u8 ((gmul a b).toNat : Int)) ∧ w = w' := by
  have ha := a.toNat_lt
  have hb := b.toNat_lt
  go_enter Tryd.func51, Tryd.ntmps51
  go_wp2_with fail
  go_loop [5, 6] (fun p i => ∃ (pp k : Nat), k ≤ 8 ∧ pp < 32768 ∧ Hid (pp = bsum (fun i => bsum (fun j => 2 ^ (i + j)) 8 b.toNat) k a.toNat) ∧ p = .int .i64 (pp : Int) ∧ i = .int .i64 (k : Int)) (fun _ i => 8 - (intOf i).toNat)
  case atStart => exact ⟨0, 0, by omega, by omega, Lib.hid rfl, rfl, rfl⟩
  case round =>
    obtain ⟨pp, k, hk, hp, H, rfl, rfl⟩ := hrel
    by_cases h8 : k < 8
    · obtain ⟨d, hd⟩ : ∃ d, a.toNat.testBit k = d := ⟨_, rfl⟩
      have e1 := bit_u8 a k hd
      have Hd := Lib.hid hd
      clear hd
      go_wp2_with fail
      go_loop [5, 7] (fun p i => ∃ (pq j : Nat), j ≤ 8 ∧ pq < 32768 ∧ Hid (pq = if d then pp ^^^ bsum (fun j => 2 ^ (k + j)) j b.toNat else pp) ∧ p = .int .i64 (pq : Int) ∧ i = .int .i64 (j : Int)) (fun _ i => 8 - (intOf i).toNat)
      case atStart => exact ⟨pp, 0, by omega, by omega, Lib.hid (by cases d <;> simp [bsum]), rfl, rfl⟩
      case round =>
        obtain ⟨pq, j, hj, hq, H2, rfl, rfl⟩ := hrel
        by_cases h9 : j < 8
        · obtain ⟨f, hf⟩ : ∃ f, b.toNat.testBit j = f := ⟨_, rfl⟩
          have e2 := bit_u8 b j hf
          have Hf := Lib.hid hf
          have e3 := wrap_pow (k + j) (by omega)
          have hlt : 2 ^ (k + j) < 2 ^ 15 := Nat.pow_lt_pow_right (by omega) (by omega)
          have e4 := i64_xor_nat pq (2 ^ (k + j)) (by omega) (by omega)
          have hx : pq ^^^ 2 ^ (k + j) < 2 ^ 15 := Nat.xor_lt_two_pow (by omega) hlt
          have E4 : Hid (bits .xor .i64 (pq : Int) (wrap64 (2 ^ (k + j))) = ((pq ^^^ 2 ^ (k + j) : Nat) : Int)) := by rw [e3]; exact e4
          have Hx := Lib.hid hx
          clear e3 e4 hf hlt hx
          cases d <;> cases f
          case true.true =>
            simp only [if_true] at e1 e2
            go_wp2_with fail
            go_round
            case rel => exact ⟨pq ^^^ 2 ^ (k + j), j + 1, by omega, Hx.out, Lib.hid (by rw [H2.out]; simp only [if_true, bsum, Hf.out]; rw [Nat.xor_assoc]), by rw [E4.out], by go_num⟩
            case measure => simp [intOf]; omega
          case true.false =>
            simp only [if_true, Bool.false_eq_true, if_false] at e1 e2
            go_wp2_with fail
            go_round
            case rel => exact ⟨pq, j + 1, by omega, hq, Lib.hid (by rw [H2.out]; simp only [if_true, bsum, Hf.out]; rfl), rfl, by go_num⟩
            case measure => simp [intOf]; omega
          all_goals
            simp only [Bool.false_eq_true, if_false] at e1
            go_wp2_with fail
            go_round
            case rel => exact ⟨pq, j + 1, by omega, hq, Lib.hid (by rw [H2.out]; rfl), rfl, by go_num⟩
            case measure => simp [intOf]; omega
        · obtain rfl : j = 8 := by omega
          go_wp2_with fail
          go_round
          case rel => exact ⟨pq, k + 1, by omega, hq, Lib.hid (by rw [bsum_succ _ Hd.out, ← H.out, H2.out]), rfl, by go_num⟩
          case measure => simp [intOf]; omega
    · obtain rfl : k = 8 := by omega
      have Hp : Hid (pp = polyMul a b) := H
      clear H
      go_wp2_with fail
      go_loop [5, 8] (fun p i => ∃ (pq m : Nat), m ≤ 7 ∧ pq < 32768 ∧ Hid (pq = redUp m (polyMul a b)) ∧ p = .int .i64 (pq : Int) ∧ i = .int .i64 ((14 - m : Nat) : Int)) (fun _ i => (intOf i).toNat)
      case atStart => exact ⟨pp, 0, by omega, hp, Hp, rfl, rfl⟩
      case round =>
        obtain ⟨pq, m, hm, hq, H2, rfl, rfl⟩ := hrel
        by_cases h9 : m < 7
        · obtain ⟨i, hi⟩ : ∃ i, 14 - m = i := ⟨_, rfl⟩
          have hi1 : 8 ≤ i := by omega
          have hi2 : i ≤ 14 := by omega
          have hm2 : m + i = 14 := by omega
          rw [hi]
          have Hi := Lib.hid hm2
          clear hi hm2
          obtain ⟨f, hf⟩ : ∃ f, pq.testBit i = f := ⟨_, rfl⟩
          have e2 := bit_i64 pq i (by omega) hf
          have Hf := Lib.hid hf
          clear hf
          cases f
          · simp only [Bool.false_eq_true, if_false] at e2
            go_wp2_with fail
            go_round
            case rel => exact ⟨pq, m + 1, by omega, hq, Lib.hid (by rw [redUp, ← H2.out, show 14 - m = i by have := Hi.out; omega, redS, Hf.out]; rfl), rfl, by rw [show 14 - (m + 1) = i - 1 by have := Hi.out; omega]; congr 1; omega⟩
            case measure => simp [intOf]; omega
          · simp only [if_true] at e2
            have hx : pq ^^^ 285 * 2 ^ (i - 8) < 2 ^ 15 := by
              have := redS_lt i pq (by omega) (by omega) hi1
              rwa [redS, Hf.out, if_pos rfl] at this
            have hlt : 2 ^ (i - 8) < 2 ^ 7 := Nat.pow_lt_pow_right (by omega) (by omega)
            have e4 := i64_xor_nat pq (285 * 2 ^ (i - 8)) (by omega) (by omega)
            have E4 : Hid (bits .xor .i64 (pq : Int) (wrap64 (285 * 2 ^ (i - 8))) = ((pq ^^^ 285 * 2 ^ (i - 8) : Nat) : Int)) := by rw [wrap_pow285 (i - 8) (by omega)]; exact e4
            have Hx := Lib.hid hx
            clear hx hlt e4
            go_wp2_with fail
            go_round
            case rel => exact ⟨pq ^^^ 285 * 2 ^ (i - 8), m + 1, by omega, Hx.out, Lib.hid (by rw [redUp, ← H2.out, show 14 - m = i by have := Hi.out; omega, redS, Hf.out]; rfl), by rw [E4.out], by rw [show 14 - (m + 1) = i - 1 by have := Hi.out; omega]; congr 1; omega⟩
            case measure => simp [intOf]; omega
        · obtain rfl : m = 7 := by omega
          go_wp2_with fail
          go_ret
          exact ⟨ret_of (by rw [byte_of, H2.out, refMul_is]), rfl⟩

theorem refMul_at {i j k : Int} (x y : UInt8) (hi : (x.toNat : Int) = i) (hj : (y.toNat : Int) = j) (hk : ((gmul x y).toNat : Int) = k) (w : World) :
    Calls Tryd.prog 51 #[.int .u8 i, .int .u8 j] w fun e w' => e = .returned (.int .u8 k) ∧ w = w' := by
  subst hi hj hk; exact refMul_any x y w

theorem nz_eq_false' {a : UInt8} (h : nz a = false) : a = 0 := by simpa [nz] using h
theorem inv_unique {a b : UInt8} (h : gmul a b = 1) : b = ginvZ a := by
  have ha : a ≠ 0 := by rintro rfl; rw [gmul_zero_left] at h; exact absurd h (by decide)
  rw [ginvZ_ne ha]
  have : gmul (ginv a) (gmul a b) = ginv a := by rw [h, gmul_one]
  rw [← gmul_assoc, gmul_comm (ginv a) a, gmul_inv ha, gmul_one_left] at this
  exact this

set_option maxRecDepth 100000 in
theorem refInv_any (a : UInt8) (w : World) :
    Calls Tryd.prog 65 #[.int .u8 (a.toNat : Int)] w fun e w' => e = .returned (.tuple #[.int .u8 ((ginvZ a).toNat : Int), .bool (nz a)]) ∧ w = w' := by
  go_enter Tryd.func65, Tryd.ntmps65
  go_wp2_with fail
  go_loop [4] (fun x => ∃ k : Nat, 1 ≤ k ∧ k ≤ 256 ∧ Hid (∀ j, 1 ≤ j → j < k → gmul a (UInt8.ofNat j) ≠ 1) ∧ x = .int .i64 (k : Int)) (fun x => 256 - (intOf x).toNat)
  case atStart => exact ⟨1, by omega, by omega, Lib.hid (by intro j h1 h2; omega), rfl⟩
  case round =>
    obtain ⟨k, hk1, hk2, H, rfl⟩ := hrel
    by_cases hlt : k < 256
    · have EK : Hid (((UInt8.ofNat k).toNat : Int) = (k : Int)) := Lib.hid (by rw [UInt8.toNat_ofNat']; omega)
      by_cases h1 : gmul a (UInt8.ofNat k) = 1
      · have H1 := Lib.hid h1
        clear h1
        go_wp2_with fail
        (with_reducible refine (refMul_at (k := 1) a (UInt8.ofNat k) rfl EK.out (by rw [H1.out]; decide +kernel) _).mono ?_)
        rintro e w' ⟨rfl, rfl⟩
        go_wp2_with fail
        go_ret2
        have e := inv_unique H1.out
        have ha : a ≠ 0 := by rintro rfl; have := H1.out; rw [gmul_zero_left] at this; exact absurd this (by decide)
        exact ⟨by rw [nz_true ha, ← e, EK.out]; rfl, rfl⟩
      · have h2 : (((gmul a (UInt8.ofNat k)).toNat : Int) == 1) = false := by
          simp only [beq_eq_false_iff_ne]; intro h; exact h1 (UInt8.toNat_inj.1 (by simp; omega))
        have H1 := Lib.hid h1
        clear h1
        go_wp2_with fail
        (with_reducible refine (refMul_at a (UInt8.ofNat k) rfl EK.out rfl _).mono ?_)
        rintro e w' ⟨rfl, rfl⟩
        go_wp2_with fail
        go_round
        case rel => exact ⟨k + 1, by omega, by omega, Lib.hid (by
          intro j hj1 hj2
          by_cases e : j = k
          · subst e; exact H1.out
          · exact H.out j hj1 (by omega)), by go_num⟩
        case measure => simp [intOf]; omega
    · obtain rfl : k = 256 := by omega
      go_wp2_with fail
      go_ret2
      have ha : a = 0 := by
        rcases Classical.em (a = 0) with h | h
        · exact h
        · exfalso
          have h2 := H.out (ginv a).toNat (by
            have := ginv_ne h
            have h3 : (ginv a).toNat ≠ 0 := fun e => this (UInt8.toNat_inj.1 (by simpa using e))
            omega) (ginv a).toNat_lt
          rw [UInt8.ofNat_toNat] at h2
          exact h2 (gmul_inv h)
      exact ⟨by rw [ha]; rfl, rfl⟩

end Go.Proofs.YtlgcclhepegggaaDoor
