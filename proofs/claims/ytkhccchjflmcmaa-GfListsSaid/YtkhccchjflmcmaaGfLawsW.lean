/- The walk of bollardlaw01.GfLaws. -/
import Derived.Test.YtkhccchjflmcmaaGfAlive
set_option linter.unusedVariables false
namespace Go.Proofs.Ytkhccchjflmcmaa
open Go.RowKit

theorem nz_tests {a : UInt8} {d : Bool} (h : nz a = d) : ((a.toNat : Int) == 0) = !d ∧ ((a.toNat : Int) != 0) = d := by
  cases d
  · have : a = 0 := by simpa [nz] using h
    subst this; exact ⟨rfl, rfl⟩
  · have : a ≠ 0 := by simpa [nz] using h
    have h2 : ((a.toNat : Int) == 0) = false := by
      simp only [beq_eq_false_iff_ne]; intro h3; exact this (UInt8.toNat_inj.1 (by simp; omega))
    exact ⟨h2, by simp [bne, h2]⟩
theorem nz_eq_false {a : UInt8} (h : nz a = false) : a = 0 := by simpa [nz] using h
theorem nz_eq_true {a : UInt8} (h : nz a = true) : a ≠ 0 := by simpa [nz] using h

theorem gmul_invZ {a : UInt8} (h : a ≠ 0) : gmul a (ginvZ a) = 1 := by rw [ginvZ_ne h, gmul_inv h]
theorem gdivZ (a : UInt8) {b : UInt8} (h : b ≠ 0) : gmul (gmul a b) (ginvZ b) = a := by rw [ginvZ_ne h, gdiv_mul h]
theorem cst {x y : UInt8} (h : x = y) : (x.toNat : Int) = (y.toNat : Int) := by rw [h]

set_option maxHeartbeats 1000000 in
theorem gfLaws_walk (a b c : UInt8) (w : World) :
    Calls Try.prog 3 #[.int .u8 (a.toNat : Int), .int .u8 (b.toNat : Int), .int .u8 (c.toNat : Int)] w fun e w' => e = .returned (.bool true) ∧ Only [] w w' := by
  obtain ⟨da, hda⟩ : ∃ d, nz a = d := ⟨_, rfl⟩
  obtain ⟨db, hdb⟩ : ∃ d, nz b = d := ⟨_, rfl⟩
  obtain ⟨ta1, ta2⟩ := nz_tests hda
  obtain ⟨tb1, tb2⟩ := nz_tests hdb
  have Ha := Lib.hid hda
  have Hb := Lib.hid hdb
  clear hda hdb
  go_enter Try.func3, Try.ntmps3
  go_wp2_with fail
  (with_reducible refine (gfAlive_any _).mono ?_)
  rintro e w1 ⟨rfl, o1⟩
  go_wp2_with fail
  (with_reducible refine (add_any a b _).mono ?_)
  rintro e w' ⟨rfl, rfl⟩
  go_wp2_with fail
  (with_reducible refine (add_at b a rfl rfl (cst (gadd_comm b a)) _).mono ?_)
  rintro e w' ⟨rfl, rfl⟩
  go_wp2_with fail
  (with_reducible refine (mul_any a b _).mono ?_)
  rintro e w' ⟨rfl, rfl⟩
  go_wp2_with fail
  (with_reducible refine (mul_at b a rfl rfl (cst (gmul_comm b a)) _).mono ?_)
  rintro e w' ⟨rfl, rfl⟩
  go_wp2_with fail
  (with_reducible refine (add_at (i := (a.toNat : Int)) (j := (a.toNat : Int)) (k := 0) a a rfl rfl (by rw [gadd_self]; decide +kernel) _).mono ?_)
  rintro e w' ⟨rfl, rfl⟩
  go_wp2_with fail
  (with_reducible refine (add_at (j := 0) a 0 rfl (by decide +kernel) (cst (gadd_zero a)) _).mono ?_)
  rintro e w' ⟨rfl, rfl⟩
  go_wp2_with fail
  (with_reducible refine (mul_at (j := 1) a 1 rfl (by decide +kernel) (cst (gmul_one a)) _).mono ?_)
  rintro e w' ⟨rfl, rfl⟩
  go_wp2_with fail
  (with_reducible refine (mul_at (j := 0) (k := 0) a 0 rfl (by decide +kernel) (by rw [gmul_zero_right]; decide +kernel) _).mono ?_)
  rintro e w' ⟨rfl, rfl⟩
  go_wp2_with fail
  (with_reducible refine (add_any a b _).mono ?_)
  rintro e w' ⟨rfl, rfl⟩
  go_wp2_with fail
  (with_reducible refine (add_any _ c _).mono ?_)
  rintro e w' ⟨rfl, rfl⟩
  go_wp2_with fail
  (with_reducible refine (add_any b c _).mono ?_)
  rintro e w' ⟨rfl, rfl⟩
  go_wp2_with fail
  (with_reducible refine (add_at a (gadd b c) rfl rfl (cst (gadd_assoc a b c).symm) _).mono ?_)
  rintro e w' ⟨rfl, rfl⟩
  go_wp2_with fail
  (with_reducible refine (mul_any a b _).mono ?_)
  rintro e w' ⟨rfl, rfl⟩
  go_wp2_with fail
  (with_reducible refine (mul_any _ c _).mono ?_)
  rintro e w' ⟨rfl, rfl⟩
  go_wp2_with fail
  (with_reducible refine (mul_any b c _).mono ?_)
  rintro e w' ⟨rfl, rfl⟩
  go_wp2_with fail
  (with_reducible refine (mul_at a (gmul b c) rfl rfl (cst (gmul_assoc a b c).symm) _).mono ?_)
  rintro e w' ⟨rfl, rfl⟩
  go_wp2_with fail
  (with_reducible refine (add_any b c _).mono ?_)
  rintro e w' ⟨rfl, rfl⟩
  go_wp2_with fail
  (with_reducible refine (mul_any a _ _).mono ?_)
  rintro e w' ⟨rfl, rfl⟩
  go_wp2_with fail
  (with_reducible refine (mul_any a b _).mono ?_)
  rintro e w' ⟨rfl, rfl⟩
  go_wp2_with fail
  (with_reducible refine (mul_any a c _).mono ?_)
  rintro e w' ⟨rfl, rfl⟩
  go_wp2_with fail
  (with_reducible refine (add_at (gmul a b) (gmul a c) rfl rfl (cst (gmul_gadd a b c).symm) _).mono ?_)
  rintro e w' ⟨rfl, rfl⟩
  go_wp2_with fail
  cases da <;> cases db
  · skip
    (with_reducible refine (inv_at a rfl rfl Ha.out _).mono ?_)
    rintro e w' ⟨rfl, rfl⟩
    go_wp2_with fail
    (with_reducible refine (mul_any a b _).mono ?_)
    rintro e w' ⟨rfl, rfl⟩
    go_wp2_with fail
    (with_reducible refine (div_at (gmul a b) b rfl rfl rfl Hb.out _).mono ?_)
    rintro e w' ⟨rfl, rfl⟩
    go_wp2_with fail
    go_ret
    exact ⟨rfl, o1⟩
  · skip
    (with_reducible refine (inv_at a rfl rfl Ha.out _).mono ?_)
    rintro e w' ⟨rfl, rfl⟩
    go_wp2_with fail
    (with_reducible refine (mul_any a b _).mono ?_)
    rintro e w' ⟨rfl, rfl⟩
    go_wp2_with fail
    (with_reducible refine (div_at (gmul a b) b rfl rfl (cst (gdivZ a (nz_eq_true Hb.out))) Hb.out _).mono ?_)
    rintro e w' ⟨rfl, rfl⟩
    go_wp2_with fail
    go_ret
    exact ⟨rfl, o1⟩
  · skip
    (with_reducible refine (inv_at a rfl rfl Ha.out _).mono ?_)
    rintro e w' ⟨rfl, rfl⟩
    go_wp2_with fail
    (with_reducible refine (mul_any a b _).mono ?_)
    rintro e w' ⟨rfl, rfl⟩
    go_wp2_with fail
    (with_reducible refine (div_at (gmul a b) b rfl rfl rfl Hb.out _).mono ?_)
    rintro e w' ⟨rfl, rfl⟩
    go_wp2_with fail
    (with_reducible refine (mul_at (k := 1) a _ rfl rfl (by rw [gmul_invZ (nz_eq_true Ha.out)]; decide +kernel) _).mono ?_)
    rintro e w' ⟨rfl, rfl⟩
    go_wp2_with fail
    go_ret
    exact ⟨rfl, o1⟩
  · skip
    (with_reducible refine (inv_at a rfl rfl Ha.out _).mono ?_)
    rintro e w' ⟨rfl, rfl⟩
    go_wp2_with fail
    (with_reducible refine (mul_any a b _).mono ?_)
    rintro e w' ⟨rfl, rfl⟩
    go_wp2_with fail
    (with_reducible refine (div_at (gmul a b) b rfl rfl (cst (gdivZ a (nz_eq_true Hb.out))) Hb.out _).mono ?_)
    rintro e w' ⟨rfl, rfl⟩
    go_wp2_with fail
    (with_reducible refine (mul_at (k := 1) a _ rfl rfl (by rw [gmul_invZ (nz_eq_true Ha.out)]; decide +kernel) _).mono ?_)
    rintro e w' ⟨rfl, rfl⟩
    go_wp2_with fail
    go_ret
    exact ⟨rfl, o1⟩
end Go.Proofs.Ytkhccchjflmcmaa
