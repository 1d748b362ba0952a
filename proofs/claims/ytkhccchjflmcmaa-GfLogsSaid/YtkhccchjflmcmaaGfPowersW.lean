/- The walks of bollardlaw01.GfPowers and GfLogs. -/
import Derived.Test.YtkhccchjflmcmaaGfLawsW
set_option linter.unusedVariables false
namespace Go.Proofs.Ytkhccchjflmcmaa
open Go.RowKit

theorem tmod40 (n : Int) : -1099511627776 < n.tmod 1099511627776 ∧ n.tmod 1099511627776 < 1099511627776 := by
  rw [Int.tmod_eq_emod]; split <;> omega

set_option maxHeartbeats 1000000 in
theorem gfPowers_walk (a : UInt8) (n m : Int) (hn : -9223372036854775808 ≤ n ∧ n ≤ 9223372036854775807) (hm : -9223372036854775808 ≤ m ∧ m ≤ 9223372036854775807) (w : World) :
    Calls Try.prog 4 #[.int .u8 (a.toNat : Int), .int .i64 n, .int .i64 m] w fun e w' => e = .returned (.bool true) ∧ Only [] w w' := by
  obtain ⟨da, hda⟩ : ∃ d, nz a = d := ⟨_, rfl⟩
  obtain ⟨ta1, ta2⟩ := nz_tests hda
  have Ha := Lib.hid hda
  obtain ⟨hn1, hn2⟩ := tmod40 n
  obtain ⟨hm1, hm2⟩ := tmod40 m
  have hl : glog a < 255 := by
    cases da
    · rw [nz_eq_false hda]; decide +kernel
    · exact glog_lt (nz_eq_true hda)
  have Hl := Lib.hid hl
  clear hda hn hm
  cases da
  · skip
    go_enter Try.func4, Try.ntmps4
    go_wp2_with fail
    (with_reducible refine (gfAlive_any _).mono ?_)
    rintro e w1 ⟨rfl, o1⟩
    go_wp2_with fail
    (with_reducible refine (log_at a rfl rfl Ha.out _).mono ?_)
    rintro e w' ⟨rfl, rfl⟩
    go_wp2_with fail
    (with_reducible refine (pow_at a 1 (by omega) (by omega) rfl (cst (gpowI_one a)) _).mono ?_)
    rintro e w' ⟨rfl, rfl⟩
    go_wp2_with fail
    (with_reducible refine (pow_at (k := 1) a 0 (by omega) (by omega) rfl (by rw [gpowI_zero]; decide +kernel) _).mono ?_)
    rintro e w' ⟨rfl, rfl⟩
    go_wp2_with fail
    go_ret
    exact ⟨rfl, o1⟩
  · have ha := nz_eq_true Ha.out
    have Hs := Lib.hid (cst (gpowI_add ha (n.tmod 1099511627776) (m.tmod 1099511627776)))
    have Hi := Lib.hid (cst (gpowI_add ha (n.tmod 1099511627776) (-(n.tmod 1099511627776))))
    have Ha2 := Lib.hid ha
    clear ha
    go_enter Try.func4, Try.ntmps4
    go_wp2_with fail
    (with_reducible refine (gfAlive_any _).mono ?_)
    rintro e w1 ⟨rfl, o1⟩
    go_wp2_with fail
    (with_reducible refine (log_at a rfl rfl Ha.out _).mono ?_)
    rintro e w' ⟨rfl, rfl⟩
    go_wp2_with fail
    (with_reducible refine (pow_at (i := 2) 2 _ (by omega) (by omega) (by decide +kernel) (cst ((gpowI_two Hl.out).trans (gexp_log Ha2.out))) _).mono ?_)
    rintro e w' ⟨rfl, rfl⟩
    go_wp2_with fail
    (with_reducible refine (pow_at a 1 (by omega) (by omega) rfl (cst (gpowI_one a)) _).mono ?_)
    rintro e w' ⟨rfl, rfl⟩
    go_wp2_with fail
    (with_reducible refine (pow_at (k := 1) a 0 (by omega) (by omega) rfl (by rw [gpowI_zero]; decide +kernel) _).mono ?_)
    rintro e w' ⟨rfl, rfl⟩
    go_wp2_with fail
    (with_reducible refine (pow_any a _ _ (by omega) (by omega)).mono ?_)
    rintro e w' ⟨rfl, rfl⟩
    go_wp2_with fail
    (with_reducible refine (pow_any a _ _ (by omega) (by omega)).mono ?_)
    rintro e w' ⟨rfl, rfl⟩
    go_wp2_with fail
    (with_reducible refine (mul_at _ _ rfl rfl Hs.out _).mono ?_)
    rintro e w' ⟨rfl, rfl⟩
    go_wp2_with fail
    (with_reducible refine (pow_any a _ _ (by omega) (by omega)).mono ?_)
    rintro e w' ⟨rfl, rfl⟩
    go_wp2_with fail
    (with_reducible refine (pow_any a _ _ (by omega) (by omega)).mono ?_)
    rintro e w' ⟨rfl, rfl⟩
    go_wp2_with fail
    (with_reducible refine (pow_any a _ _ (by omega) (by omega)).mono ?_)
    rintro e w' ⟨rfl, rfl⟩
    go_wp2_with fail
    (with_reducible refine (mul_at (k := 1) _ _ rfl rfl (by rw [Hi.out, Int.add_right_neg, gpowI_zero]; decide +kernel) _).mono ?_)
    rintro e w' ⟨rfl, rfl⟩
    go_wp2_with fail
    go_ret
    exact ⟨rfl, o1⟩

theorem glog_neg (a b : UInt8) (ha : a ≠ 0) (hb : b ≠ 0) : (((glog a : Int) == (glog b : Int)) == (((a.toNat : Int) == (b.toNat : Int)))) = true := by
  by_cases h : a = b
  · subst h; simp
  · have h1 : glog a ≠ glog b := fun hl => h (by rw [← gexp_log ha, hl, gexp_log hb])
    have h2 : a.toNat ≠ b.toNat := fun hl => h (UInt8.toNat_inj.1 hl)
    have e1 : ((glog a : Int) == (glog b : Int)) = false := by simp only [beq_eq_false_iff_ne]; omega
    have e2 : ((a.toNat : Int) == (b.toNat : Int)) = false := by simp only [beq_eq_false_iff_ne]; omega
    rw [e1, e2]; rfl

set_option maxHeartbeats 1000000 in
theorem gfLogs_walk (a b : UInt8) (w : World) :
    Calls Try.prog 5 #[.int .u8 (a.toNat : Int), .int .u8 (b.toNat : Int)] w fun e w' => e = .returned (.bool true) ∧ Only [] w w' := by
  obtain ⟨da, hda⟩ : ∃ d, nz a = d := ⟨_, rfl⟩
  obtain ⟨db, hdb⟩ : ∃ d, nz b = d := ⟨_, rfl⟩
  obtain ⟨ta1, ta2⟩ := nz_tests hda
  obtain ⟨tb1, tb2⟩ := nz_tests hdb
  have Ha := Lib.hid hda
  have Hb := Lib.hid hdb
  have Hm : Hid (nz (gmul a b) = (da && db)) := by
    cases da
    · rw [nz_eq_false hda, gmul_zero_left]; exact Lib.hid rfl
    · cases db
      · rw [nz_eq_false hdb, gmul_zero_right]; exact Lib.hid rfl
      · exact Lib.hid (nz_true (gmul_ne (nz_eq_true hda) (nz_eq_true hdb)))
  have hla : glog a < 255 := by
    cases da
    · rw [nz_eq_false hda]; decide +kernel
    · exact glog_lt (nz_eq_true hda)
  have hlb : glog b < 255 := by
    cases db
    · rw [nz_eq_false hdb]; decide +kernel
    · exact glog_lt (nz_eq_true hdb)
  clear hda hdb
  cases da <;> cases db
  case true.true =>
    have ht := glog_neg a b (nz_eq_true Ha.out) (nz_eq_true Hb.out)
    have hk : (glog (gmul a b) : Int) = ((glog a : Int) + (glog b : Int)) % 255 := by rw [glog_mul (nz_eq_true Ha.out) (nz_eq_true Hb.out)]; omega
    have Hk := Lib.hid hk
    clear hk
    go_enter Try.func5, Try.ntmps5
    go_wp2_with fail
    (with_reducible refine (gfAlive_any _).mono ?_)
    rintro e w1 ⟨rfl, o1⟩
    go_wp2_with fail
    (with_reducible refine (log_at a rfl rfl Ha.out _).mono ?_)
    rintro e w' ⟨rfl, rfl⟩
    go_wp2_with fail
    (with_reducible refine (log_at b rfl rfl Hb.out _).mono ?_)
    rintro e w' ⟨rfl, rfl⟩
    go_wp2_with fail
    (with_reducible refine (mul_any a b _).mono ?_)
    rintro e w' ⟨rfl, rfl⟩
    go_wp2_with fail
    (with_reducible refine (log_at _ rfl Hk.out Hm.out _).mono ?_)
    rintro e w' ⟨rfl, rfl⟩
    go_wp2_with fail
    go_ret
    exact ⟨rfl, o1⟩
  all_goals
    go_enter Try.func5, Try.ntmps5
    go_wp2_with fail
    (with_reducible refine (gfAlive_any _).mono ?_)
    rintro e w1 ⟨rfl, o1⟩
    go_wp2_with fail
    (with_reducible refine (log_at a rfl rfl Ha.out _).mono ?_)
    rintro e w' ⟨rfl, rfl⟩
    go_wp2_with fail
    (with_reducible refine (log_at b rfl rfl Hb.out _).mono ?_)
    rintro e w' ⟨rfl, rfl⟩
    go_wp2_with fail
    (with_reducible refine (mul_any a b _).mono ?_)
    rintro e w' ⟨rfl, rfl⟩
    go_wp2_with fail
    (with_reducible refine (log_at _ rfl rfl Hm.out _).mono ?_)
    rintro e w' ⟨rfl, rfl⟩
    go_wp2_with fail
    go_ret
    exact ⟨rfl, o1⟩
end Go.Proofs.Ytkhccchjflmcmaa
