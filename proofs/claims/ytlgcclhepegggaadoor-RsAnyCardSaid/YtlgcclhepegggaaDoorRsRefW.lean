/- The walks of bollardref02.Factor, at. -/
import Derived.Test.YtlgcclhepegggaaDoorRsEncX
import Derived.Test.YtlgcclhepegggaaDoorRefGfW
set_option linter.unusedVariables false
set_option maxRecDepth 100000
namespace Go.Proofs.YtlgcclhepegggaaDoor
open Go.RowKit

theorem refFactor_any (k n j : Nat) (hk : k ≤ 16) (hn : n < 16) (hj : j < 16) (w : World) :
    Calls Tryd.prog 52 #[.int .i64 (k : Int), .int .i64 (n : Int), .int .i64 (j : Int)] w fun e w' => e = .returned (.int .u8 ((factor k n j).toNat : Int)) ∧ w = w' := by
  by_cases hnk : n < k
  · have hnki : (n : Int) < (k : Int) := by omega
    by_cases he : j = n
    · have hei : ((n : Int) == (j : Int)) = true := by simp [he]
      have hfac : factor k n j = 1 := by unfold factor; rw [if_pos hnk, if_pos he]
      rw [hfac]
      clear he hfac
      go_enter Tryd.func52, Tryd.ntmps52
      go_wp2_with fail
      go_ret
      exact ⟨rfl, rfl⟩
    · have hei : ((n : Int) == (j : Int)) = false := by simp; omega
      have hfac : factor k n j = 0 := by unfold factor; rw [if_pos hnk, if_neg he]
      rw [hfac]
      clear he hfac
      go_enter Tryd.func52, Tryd.ntmps52
      go_wp2_with fail
      go_ret
      exact ⟨rfl, rfl⟩
  · have hnki : ¬ (n : Int) < (k : Int) := by omega
    have hfac : factor k n j = ginvZ (UInt8.ofNat (n ^^^ j)) := by unfold factor; rw [if_neg hnk]
    have hx : bits .xor .i64 (n : Int) (j : Int) = ((n ^^^ j : Nat) : Int) := i64_xor_nat _ _ (by omega) (by omega)
    have hx16 : n ^^^ j < 16 := Nat.xor_lt_two_pow (n := 4) (by omega) (by omega)
    obtain ⟨x, hxe⟩ : ∃ x, x = n ^^^ j := ⟨_, rfl⟩
    rw [← hxe] at hx hx16 hfac
    have hxu : (x : Int) = ((UInt8.ofNat x).toNat : Int) := by rw [UInt8.toNat_ofNat']; omega
    have hwr : IntKind.u8.wrap (x : Int) = (x : Int) := IntWalk.u8_in _ (by omega)
    have hinv := refInv_any (UInt8.ofNat x) w
    rw [← hxu] at hinv
    rw [hfac]
    clear hxe hfac hxu
    generalize ginvZ (UInt8.ofNat x) = y at *
    generalize nz (UInt8.ofNat x) = b at *
    go_enter Tryd.func52, Tryd.ntmps52
    go_wp2_with fail
    (with_reducible refine (hinv).mono ?_)
    rintro e w' ⟨rfl, rfl⟩
    go_wp2_with fail
    go_ret
    exact ⟨rfl, rfl⟩

theorem refAt_any (p : Option Addr) (data : List UInt8) (n c size j b : Nat) (hn : data.length = n) (hb : n ≤ 1024) (hs : size ≤ 1024) (hj : j < 16) (hbs : b < size) (w : World) (hx : Rd w p (u8s data)) :
    Calls Tryd.prog 53 #[.slice p n c, .int .i64 (size : Int), .int .i64 (j : Int), .int .i64 (b : Int)] w fun e w' => e = .returned (.int .u8 ((data.getD (j * size + b) 0).toNat : Int)) ∧ w = w' := by
  obtain ⟨N, hN⟩ : ∃ N, N = j * size := ⟨_, rfl⟩
  have hNb : N ≤ 16 * 1024 := by rw [hN]; exact Nat.mul_le_mul (by omega) hs
  have hmul : (j : Int) * (size : Int) = (N : Int) := by rw [hN]; simp
  rw [← hN]
  have Hn := Lib.hid hn
  have Hx := Lib.hid hx
  clear hN hn hx
  by_cases h : N + b < n
  · obtain ⟨y, hy⟩ : ∃ y, data[N + b]? = some y := ⟨_, List.getElem?_eq_getElem (by rw [Hn.out]; exact h)⟩
    have hget : data.getD (N + b) 0 = y := getD_some 0 hy
    obtain ⟨bb, off, rfl, hc⟩ := u8_at Hx.out hy
    rw [hget]
    have hi : (N : Int) + (b : Int) < (n : Int) := by omega
    clear hy hget
    go_enter Tryd.func53, Tryd.ntmps53
    go_wp2_with fail
    go_ret
    exact ⟨rfl, rfl⟩
  · have hget : data.getD (N + b) 0 = 0 := getD_out 0 (by rw [Hn.out]; omega)
    rw [hget]
    have hi : ¬ (N : Int) + (b : Int) < (n : Int) := by omega
    clear hget
    go_enter Tryd.func53, Tryd.ntmps53
    go_wp2_with fail
    go_ret
    exact ⟨rfl, rfl⟩
end Go.Proofs.YtlgcclhepegggaaDoor
