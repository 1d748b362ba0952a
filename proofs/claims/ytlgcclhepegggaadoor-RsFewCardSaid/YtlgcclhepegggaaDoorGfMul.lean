/- The walks of gf.double and gf.Mul. -/
import Derived.Test.YtlgcclhepegggaaDoorProg
import Derived.Test.YtlgcclhepegggaaDoorBase
import Derived.Test.YtlgcclhepegggaaDoorGfMath
import Derived.WalkSpells
import Derived.WalkLawsBesides
namespace Go.Proofs.YtlgcclhepegggaaDoor
open Go.RowKit
theorem double_any (x : UInt8) (w : World) :
    Calls Tryd.prog 77 #[.int .i64 (x.toNat : Int)] w fun e w' => e = .returned (.int .i64 ((gdbl x).toNat : Int)) ∧ w = w' := by
  have hb := x.toNat_lt
  go_enter Tryd.func77, Tryd.ntmps77
  go_wp2
  · go_ret
    have h : (255 : Int) < ↑x.toNat * 2 := by assumption
    exact ⟨ret_of (by have := i64_xor_nat (x.toNat * 2) 285 (by omega) (by omega); rw [gdbl_hi x (by omega)] at this; simpa using this), rfl⟩
  · go_ret
    exact ⟨ret_of (by have := gdbl_lo x (by omega); omega), rfl⟩

theorem mul_any (a b : UInt8) (w : World) :
    Calls Tryd.prog 75 #[.int .u8 (a.toNat : Int), .int .u8 (b.toNat : Int)] w fun e w' => e = .returned (.int .u8 ((gmul a b).toNat : Int)) ∧ w = w' := by
  have ha := a.toNat_lt
  have hb := b.toNat_lt
  go_enter Tryd.func75, Tryd.ntmps75
  go_wp2
  go_loop [5, 6, 7] (fun out x y => ∃ (n yy : Nat) (o xx : UInt8), yy < 2 ^ n ∧ yy < 256 ∧ Hid (mulF n yy xx o = gmul a b) ∧ out = .int .i64 (o.toNat : Int) ∧ x = .int .i64 (xx.toNat : Int) ∧ y = .int .i64 (yy : Int)) (fun _ _ y => (intOf y).toNat)
  case atStart => exact ⟨8, b.toNat, 0, a, hb, hb, Lib.hid rfl, rfl, rfl, rfl⟩
  case round =>
    obtain ⟨n, yy, o, xx, hn, hy, H, rfl, rfl, rfl⟩ := hrel
    have ho := o.toNat_lt
    have hx := xx.toNat_lt
    by_cases h0 : 0 < yy
    · have e1 := i64_and1 yy (by omega)
      have e2 := i64_xor_nat o.toNat xx.toNat (by omega) (by omega)
      have E2 := Lib.hid e2
      clear e2
      go_wp2_with (go_at_call 77; refine (double_any _ _).mono ?_; rintro e w' ⟨rfl, rfl⟩)
      · have hc : ((yy : Int) % 2 == 1) = true := by assumption
        have hc' : yy % 2 = 1 := by have := eq_of_beq hc; omega
        go_round
        case rel => exact ⟨n - 1, yy / 2, o ^^^ xx, gdbl xx, half_lt h0 hn, by omega, Lib.hid (by rw [← H.out, mulF_step xx o h0 hn, if_pos hc']), by rw [E2.out, UInt8.toNat_xor], rfl, by go_num⟩
        case measure => simp [intOf]; omega
      · have hc : ((yy : Int) % 2 == 1) = false := by assumption
        have hc' : ¬ yy % 2 = 1 := by have := beq_eq_false_iff_ne.1 hc; omega
        go_round
        case rel => exact ⟨n - 1, yy / 2, o, gdbl xx, half_lt h0 hn, by omega, Lib.hid (by rw [← H.out, mulF_step xx o h0 hn, if_neg hc']), rfl, rfl, by go_num⟩
        case measure => simp [intOf]; omega
    · obtain rfl : yy = 0 := by omega
      go_wp2
      go_ret
      exact ⟨ret_of (by rw [← H.out, mulF_zero]), rfl⟩
end Go.Proofs.YtlgcclhepegggaaDoor
