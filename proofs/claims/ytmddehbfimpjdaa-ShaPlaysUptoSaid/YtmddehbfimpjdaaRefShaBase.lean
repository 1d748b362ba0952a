/- bollardref03: rot, k; the loops of Sum as codes of their own; plain laws. -/
import Derived.Test.YtmddehbfimpjdaaShaDigW
import Derived.Test.YtmddehbfimpjdaaOwnAt
import Derived.Great.BuildSlice
set_option linter.unusedVariables false
namespace Go.Proofs.Ytmddehbfimpjdaa
open Go.RowKit

/-- the loops of a code, in the order in which they open -/
def loopsOf : Code → List Code
  | .loop c => .loop c :: loopsOf c
  | .seq a b => loopsOf a ++ loopsOf b
  | .block _ c => loopsOf c
  | .scope c => loopsOf c
  | .cond _ a b => loopsOf a ++ loopsOf b
  | _ => []
noncomputable def refSumLoop (k : Nat) : Code := ((loopsOf ((Try.f20.body).getD .skip))[k]?).getD .skip

theorem or_add (a b i : Nat) (h : b < 2 ^ i) : a * 2 ^ i ||| b = a * 2 ^ i + b := by
  rw [← Nat.shiftLeft_eq, ← Nat.shiftLeft_add_eq_or_of_lt h]
theorem word_nat (a b c d : UInt8) : (word a b c d).toNat = a.toNat * 16777216 + b.toNat * 65536 + c.toNat * 256 + d.toNat := by
  have ha := a.toNat_lt
  have hb := b.toNat_lt
  have hc := c.toNat_lt
  have hd := d.toNat_lt
  have e24 : (a.toUInt32 <<< 24).toNat = a.toNat * 16777216 := by
    rw [UInt32.toNat_shiftLeft, show ((24 : UInt32).toNat % 32) = 24 from rfl, Nat.shiftLeft_eq, UInt8.toNat_toUInt32, Nat.mod_eq_of_lt (by omega)]
  have e16 : (b.toUInt32 <<< 16).toNat = b.toNat * 65536 := by
    rw [UInt32.toNat_shiftLeft, show ((16 : UInt32).toNat % 32) = 16 from rfl, Nat.shiftLeft_eq, UInt8.toNat_toUInt32, Nat.mod_eq_of_lt (by omega)]
  have e8 : (c.toUInt32 <<< 8).toNat = c.toNat * 256 := by
    rw [UInt32.toNat_shiftLeft, show ((8 : UInt32).toNat % 32) = 8 from rfl, Nat.shiftLeft_eq, UInt8.toNat_toUInt32, Nat.mod_eq_of_lt (by omega)]
  unfold word
  rw [UInt32.toNat_or, UInt32.toNat_or, UInt32.toNat_or, e24, e16, e8, UInt8.toNat_toUInt32]
  have h1 := or_add a.toNat (b.toNat * 65536) 24 (by omega)
  have h2 := or_add (a.toNat * 256 + b.toNat) (c.toNat * 256) 16 (by omega)
  have h3 := or_add (a.toNat * 65536 + b.toNat * 256 + c.toNat) d.toNat 8 (by omega)
  rw [show (2 : Nat) ^ 24 = 16777216 from rfl] at h1
  rw [show (2 : Nat) ^ 16 = 65536 from rfl] at h2
  rw [show (2 : Nat) ^ 8 = 256 from rfl] at h3
  rw [h1, show a.toNat * 16777216 + b.toNat * 65536 = (a.toNat * 256 + b.toNat) * 65536 by omega, h2, show (a.toNat * 256 + b.toNat) * 65536 + c.toNat * 256 = (a.toNat * 65536 + b.toNat * 256 + c.toNat) * 256 by omega, h3]
/-- a word put together byte by byte -/
def accW (f : Nat → UInt8) : Nat → UInt32
  | 0 => 0
  | i + 1 => accW f i * 256 + (f i).toUInt32
theorem accW_word (f : Nat → UInt8) : accW f 4 = word (f 0) (f 1) (f 2) (f 3) := by
  apply UInt32.toNat_inj.1
  rw [word_nat]
  have h0 := (f 0).toNat_lt
  have h1 := (f 1).toNat_lt
  have h2 := (f 2).toNat_lt
  have h3 := (f 3).toNat_lt
  simp only [accW, UInt32.toNat_add, UInt32.toNat_mul, UInt8.toNat_toUInt32, UInt32.toNat_zero, show (256 : UInt32).toNat = 256 from rfl]
  omega
theorem acc_cell (a : UInt32) (x : UInt8) : IntKind.u32.wrap (IntKind.u32.wrap ((a.toNat : Int) * 256) + IntKind.u32.wrap (x.toNat : Int)) = ((a * 256 + x.toUInt32).toNat : Int) := by
  have hx := x.toNat_lt
  have h1 := u32_mul_u32 a 256
  have e1 : IntKind.u32.wrap ((a.toNat : Int) * 256) = ((a * 256).toNat : Int) := by
    rw [← h1]; simp [IntKind.wrap, IntKind.bits, IntKind.signed]
  have e2 : IntKind.u32.wrap (x.toNat : Int) = ((x.toUInt32).toNat : Int) := by rw [UInt8.toNat_toUInt32]; exact u32_wrap_nat _ (by omega)
  rw [e1, e2, u32_add_cell]

theorem refRot_any (x : UInt32) (n : Nat) (hn : n = 2 ∨ n = 6 ∨ n = 7 ∨ n = 11 ∨ n = 13 ∨ n = 17 ∨ n = 18 ∨ n = 19 ∨ n = 22 ∨ n = 25) (v : Int) (hv : v = (n : Int)) (r : UInt32) (hr : rotr x (UInt32.ofNat n) = r) (w : World) : Calls Try.prog 34 #[.int .u32 (x.toNat : Int), .int .u64 v] w fun e w' => e = .returned (.int .u32 (r.toNat : Int)) ∧ w = w' := by
  have h1 := shr_nat x n (by omega)
  have h2 := shl_nat x (32 - n) (by omega)
  have e : (32 : UInt32) - UInt32.ofNat n = UInt32.ofNat (32 - n) := by
    apply UInt32.toNat_inj.1
    rw [UInt32.toNat_sub, UInt32.toNat_ofNat', UInt32.toNat_ofNat', show (32 : UInt32).toNat = 32 from rfl]; omega
  have h3 : bits .or .u32 ((x.toNat : Int) / 2 ^ n) ((x.toNat : Int) * 2 ^ (32 - n) % 4294967296) = (r.toNat : Int) := by
    rw [h1, h2, u32_or_u32, ← hr]; unfold rotr; rw [e]
  subst hv
  clear h1 h2 e hr
  have hn32 : n < 32 := by omega
  rcases hn with rfl | rfl | rfl | rfl | rfl | rfl | rfl | rfl | rfl | rfl <;>
  · skip
    go_enter Try.func34, Try.ntmps34
    go_wp2_with fail
    go_ret
    refine ⟨congrArg (fun z => Ending.returned (.int .u32 z)) ?_, rfl⟩
    simpa using h3
theorem infoU32 : (Try.prog.info? 57).map (fun i => (i.zero, i.size, i.bytes)) = some (some (.int .u32 0), 1, 4) := by kernel_rfl
set_option maxRecDepth 100000 in
theorem refK_any (j : Nat) (x : UInt32) (hx : shaK[j]? = some x) (ww : World) : Calls Try.prog 35 #[.int .i64 (j : Int)] ww fun e w' => e = .returned (.int .u32 (x.toNat : Int)) ∧ Only [] ww w' := by
  obtain ⟨ie, hie, hz0, hz1, hz2⟩ := info_parts infoU32
  have hj : j < 64 := (List.getElem?_eq_some_iff.1 hx).1
  have hji : (j : Int) < 64 := by omega
  have r := Row.new ww 57 (u32s shaK)
  have hc := r.cell (u32s_get hx)
  have ho : Only [] ww (ww.alloc (.cells (u32s shaK).toArray 57)) := Only.alloc _ _
  clear hx r
  go_enter Try.func35, Try.ntmps35
  go_wp2_with (first | ((with_reducible show wpList _ _ _ _ _ _); refine wpList_buildSlice rfl 59 57 64 _ rfl (u32s shaK).toArray ie (.int .u32 0) Try.underlying59 hie hz0 (by rw [hz1]; decide) (by rw [hz1]; decide) (by rw [hz1]; kernel_rfl) ?_))
  go_ret
  exact ⟨rfl, ho⟩
end Go.Proofs.Ytmddehbfimpjdaa
