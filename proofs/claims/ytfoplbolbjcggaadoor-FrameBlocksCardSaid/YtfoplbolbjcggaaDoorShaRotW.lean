/- The walks of sha.rot and math/bits.RotateLeft32. -/
import Derived.Test.YtfoplbolbjcggaaDoorProg
import Derived.Test.YtfoplbolbjcggaaDoorOwn
import Derived.Test.YtfoplbolbjcggaaDoorShaMath
import Derived.Test.YtfoplbolbjcggaaDoorBits
set_option linter.unusedVariables false
set_option maxRecDepth 100000
namespace Go.Proofs.YtfoplbolbjcggaaDoor
open Go.RowKit

theorem shl_nat (x : UInt32) (s : Nat) (h : s < 32) : ((x.toNat : Int) * 2 ^ s % 4294967296) = ((x <<< UInt32.ofNat s).toNat : Int) := by
  have e : (UInt32.ofNat s).toNat = s := by rw [UInt32.toNat_ofNat']; omega
  rw [UInt32.toNat_shiftLeft, e, Nat.mod_eq_of_lt h, Nat.shiftLeft_eq]
  rw [show ((2 : Int) ^ s) = ((2 ^ s : Nat) : Int) by simp, ← Int.natCast_mul]
  omega
theorem shr_nat (x : UInt32) (n : Nat) (h : n < 32) : ((x.toNat : Int) / 2 ^ n) = ((x >>> UInt32.ofNat n).toNat : Int) := by
  have e : (UInt32.ofNat n).toNat = n := by rw [UInt32.toNat_ofNat']; omega
  rw [UInt32.toNat_shiftRight, e, Nat.mod_eq_of_lt h, Nat.shiftRight_eq_div_pow]
  rw [show ((2 : Int) ^ n) = ((2 ^ n : Nat) : Int) by simp, ← Int.natCast_ediv]
theorem rotl_any (x : UInt32) (k : Int) (n s : Nat) (hns : n + s = 32) (hn : 0 < n) (hs0 : 0 < s) (hs : bits .and .u64 (IntKind.u64.wrap k) 31 = (s : Int)) (w : World) : Calls Tryd.prog 147 #[.int .u32 (x.toNat : Int), .int .i64 k] w fun e w' => e = .returned (.int .u32 ((rotr x (UInt32.ofNat n)).toNat : Int)) ∧ w = w' := by
  have h1 : (32 : Int) - (s : Int) = (n : Int) := by omega
  go_enter Tryd.func147, Tryd.ntmps147
  go_wp2_with fail
  go_ret
  refine ⟨congrArg (fun z => Ending.returned (.int .u32 z)) ?_, rfl⟩
  show bits .or .u32 _ _ = _
  rw [shl_nat x s (by omega), shr_nat x n (by omega), u32_or_u32]
  have e : (32 : UInt32) - UInt32.ofNat n = UInt32.ofNat s := by
    apply UInt32.toNat_inj.1
    rw [UInt32.toNat_sub, UInt32.toNat_ofNat', UInt32.toNat_ofNat', show (32 : UInt32).toNat = 32 from rfl]; omega
  unfold rotr
  rw [e, UInt32.or_comm]

/-- the turns that the digest makes -/
theorem rot_any (x : UInt32) (n : Nat) (hn : n = 2 ∨ n = 6 ∨ n = 7 ∨ n = 11 ∨ n = 13 ∨ n = 17 ∨ n = 18 ∨ n = 19 ∨ n = 22 ∨ n = 25) (v : Int) (hv : v = (n : Int)) (r : UInt32) (hr : rotr x (UInt32.ofNat n) = r) (w : World) : Calls Tryd.prog 137 #[.int .u32 (x.toNat : Int), .int .i64 v] w fun e w' => e = .returned (.int .u32 (r.toNat : Int)) ∧ w = w' := by
  have hs : bits .and .u64 (IntKind.u64.wrap (-v)) 31 = ((32 - n : Nat) : Int) := by
    subst hv
    rcases hn with rfl | rfl | rfl | rfl | rfl | rfl | rfl | rfl | rfl | rfl <;> decide +kernel
  have hrl := rotl_any x (-v) n (32 - n) (by omega) (by omega) (by omega) hs w
  rw [hr] at hrl
  have hb : -9223372036854775808 ≤ -v ∧ -v ≤ 9223372036854775807 := by omega
  clear hs hr hv hn
  go_enter Tryd.func137, Tryd.ntmps137
  go_wp2_with fail
  refine hrl.mono ?_
  rintro e w' ⟨rfl, rfl⟩
  go_wp2_with fail
  go_ret
  exact ⟨rfl, rfl⟩
end Go.Proofs.YtfoplbolbjcggaaDoor
