/- The walk of bollardlaw01.alive; contracts at values that are given as numbers. -/
import Derived.Test.YtkhccchjflmcmaaGfRest
set_option linter.unusedVariables false
namespace Go.Proofs.Ytkhccchjflmcmaa
open Go.RowKit

theorem mul_at {i j k : Int} (x y : UInt8) (hi : (x.toNat : Int) = i) (hj : (y.toNat : Int) = j) (hk : ((gmul x y).toNat : Int) = k) (w : World) :
    Calls Try.prog 12 #[.int .u8 i, .int .u8 j] w fun e w' => e = .returned (.int .u8 k) ∧ w = w' := by
  subst hi hj hk; exact mul_any x y w
theorem add_at {i j k : Int} (x y : UInt8) (hi : (x.toNat : Int) = i) (hj : (y.toNat : Int) = j) (hk : ((gadd x y).toNat : Int) = k) (w : World) :
    Calls Try.prog 11 #[.int .u8 i, .int .u8 j] w fun e w' => e = .returned (.int .u8 k) ∧ w = w' := by
  subst hi hj hk; exact add_any x y w
theorem inv_at {i k : Int} {b : Bool} (x : UInt8) (hi : (x.toNat : Int) = i) (hk : ((ginvZ x).toNat : Int) = k) (hb : nz x = b) (w : World) :
    Calls Try.prog 13 #[.int .u8 i] w fun e w' => e = .returned (.tuple #[.int .u8 k, .bool b]) ∧ w = w' := by
  subst hi hk hb; exact inv_any x w
theorem div_at {i j k : Int} {b : Bool} (x y : UInt8) (hi : (x.toNat : Int) = i) (hj : (y.toNat : Int) = j) (hk : ((gmul x (ginvZ y)).toNat : Int) = k) (hb : nz y = b) (w : World) :
    Calls Try.prog 14 #[.int .u8 i, .int .u8 j] w fun e w' => e = .returned (.tuple #[.int .u8 k, .bool b]) ∧ w = w' := by
  subst hi hj hk hb; exact div_any x y w
theorem pow_at {i k : Int} (x : UInt8) (n : Int) (h0 : -9223372036854775808 ≤ n) (h1 : n ≤ 9223372036854775807) (hi : (x.toNat : Int) = i) (hk : ((gpowI x n).toNat : Int) = k) (w : World) :
    Calls Try.prog 16 #[.int .u8 i, .int .i64 n] w fun e w' => e = .returned (.int .u8 k) ∧ w = w' := by
  subst hi hk; exact pow_any x n w h0 h1
theorem log_at {i k : Int} {b : Bool} (x : UInt8) (hi : (x.toNat : Int) = i) (hk : (glog x : Int) = k) (hb : nz x = b) (w : World) :
    Calls Try.prog 15 #[.int .u8 i] w fun e w' => e = .returned (.tuple #[.int .i64 k, .bool b]) ∧ w = w' := by
  subst hi hk hb; exact log_any x w

theorem gfAlive_any (w : World) :
    Calls Try.prog 10 #[] w fun e w' => e = .returned (.bool true) ∧ Only [] w w' := by
  go_enter Try.func10, Try.ntmps10
  go_wp2_with fail
  (with_reducible refine (inv_at (k := 142) (b := true) 2 (by decide +kernel) (by decide +kernel) (by decide +kernel) _).mono ?_)
  rintro e w' ⟨rfl, rfl⟩
  go_wp2_with fail
  (with_reducible refine (mul_at (k := 29) 2 128 (by decide +kernel) (by decide +kernel) (by decide +kernel) _).mono ?_)
  rintro e w' ⟨rfl, rfl⟩
  go_wp2_with fail
  (with_reducible refine (mul_at (k := 9) 3 7 (by decide +kernel) (by decide +kernel) (by decide +kernel) _).mono ?_)
  rintro e w' ⟨rfl, rfl⟩
  go_wp2_with fail
  refine (dot_any _ _ [1, 2] [3, 4, 5] _ _ _ (by simp) (by simp) (Row.rd0 ((Row.new w 5 (u8s [1, 2])).only0 (Only.alloc _ _))) (Row.rd0 (Row.newAt _ 5 (u8s [3, 4, 5]) (by simp)))).mono ?_
  rintro e w' ⟨rfl, hd⟩
  have hv : gdot [1, 2] [3, 4, 5] = 11 := by decide +kernel
  rw [hv]
  go_wp2_with fail
  go_ret
  exact ⟨rfl, ((Only.alloc _ _).trans0 (Only.alloc _ _)).trans0 hd.only⟩
end Go.Proofs.Ytkhccchjflmcmaa
