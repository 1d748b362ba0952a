/- Plain laws of chapter 3: bytes as digits of base 16. No program in sight. -/
import Derived.Test.YtfoplbolbjcggaaDoorWires
import Derived.Lib.Bytealg
set_option linter.unusedVariables false
set_option maxRecDepth 100000
namespace Go.Proofs.YtfoplbolbjcggaaDoor
open Go.RowKit

def hexL : List UInt8 := [48, 49, 50, 51, 52, 53, 54, 55, 56, 57, 97, 98, 99, 100, 101, 102]
/-- the digit of a number below sixteen -/
def dg (n : Nat) : UInt8 := hexL.getD n 0
def hex2 (c : UInt8) : List UInt8 := [dg (c.toNat / 16), dg (c.toNat % 16)]
def hexB (xs : List UInt8) : List UInt8 := xs.flatMap hex2
/-- a digit's number, below nought if it is none -/
def dv (c : UInt8) : Int := Lib.indexByte hexL c
def unhexB : List UInt8 → Option (List UInt8)
  | [] => some []
  | [_] => none
  | a :: b :: r => if dv a < 0 ∨ dv b < 0 then none else (unhexB r).map (UInt8.ofNat (16 * (dv a).toNat + (dv b).toNat) :: ·)
theorem hexB_nil : hexB [] = [] := rfl
theorem hexB_app (xs ys : List UInt8) : hexB (xs ++ ys) = hexB xs ++ hexB ys := List.flatMap_append
theorem hexB_one (x : UInt8) : hexB [x] = hex2 x := by simp [hexB]
theorem hexB_len : ∀ xs : List UInt8, (hexB xs).length = 2 * xs.length
  | [] => rfl
  | x :: xs => by
    have := hexB_len xs
    have e : hexB (x :: xs) = hex2 x ++ hexB xs := rfl
    rw [e, List.length_append, this]; simp [hex2]; omega
theorem hexL_get {n : Nat} (h : n < 16) : hexL[n]? = some (dg n) := by
  unfold dg
  rw [List.getD_eq_getElem?_getD]
  have : n < hexL.length := h
  rw [List.getElem?_eq_getElem this]; rfl
theorem dv_dg : ∀ n, n < 16 → dv (dg n) = (n : Int) := by decide +kernel
theorem dv_lt : ∀ n, n < 256 → -1 ≤ dv (UInt8.ofNat n) ∧ dv (UInt8.ofNat n) < 16 ∧ (0 ≤ dv (UInt8.ofNat n) → dg (dv (UInt8.ofNat n)).toNat = UInt8.ofNat n) := by decide +kernel
theorem dv_all (c : UInt8) : -1 ≤ dv c ∧ dv c < 16 ∧ (0 ≤ dv c → dg (dv c).toNat = c) := by
  have := dv_lt c.toNat c.toNat_lt
  rwa [UInt8.ofNat_toNat] at this
/-- what was written as digits reads back -/
theorem unhex_hex : ∀ xs : List UInt8, unhexB (hexB xs) = some xs
  | [] => rfl
  | x :: xs => by
    have e : hexB (x :: xs) = dg (x.toNat / 16) :: dg (x.toNat % 16) :: hexB xs := rfl
    have h1 := dv_dg (x.toNat / 16) (by have := x.toNat_lt; omega)
    have h2 := dv_dg (x.toNat % 16) (by omega)
    rw [e, unhexB, h1, h2, if_neg (by omega), unhex_hex xs]
    simp only [Option.map_some, Option.some.injEq, List.cons.injEq, and_true]
    apply UInt8.toNat_inj.1
    rw [UInt8.toNat_ofNat']
    have := x.toNat_lt
    omega
/-- what reads was digits -/
theorem hex_unhex : ∀ (xs ys : List UInt8), unhexB xs = some ys → hexB ys = xs
  | [], ys, h => by simp [unhexB] at h; subst h; rfl
  | [_], ys, h => by simp [unhexB] at h
  | a :: b :: r, ys, h => by
    rw [unhexB] at h
    by_cases hc : dv a < 0 ∨ dv b < 0
    · rw [if_pos hc] at h; cases h
    · rw [if_neg hc] at h
      cases hr : unhexB r with
      | none => rw [hr] at h; cases h
      | some zs =>
        rw [hr] at h
        simp only [Option.map_some, Option.some.injEq] at h
        subst h
        have ih := hex_unhex r zs hr
        have ha := dv_all a
        have hb := dv_all b
        have e : ∀ (y : UInt8), hexB (y :: zs) = dg (y.toNat / 16) :: dg (y.toNat % 16) :: hexB zs := fun y => rfl
        rw [e, ih, UInt8.toNat_ofNat']
        rw [show (16 * (dv a).toNat + (dv b).toNat) % 2 ^ 8 / 16 = (dv a).toNat by omega, show (16 * (dv a).toNat + (dv b).toNat) % 2 ^ 8 % 16 = (dv b).toNat by omega, ha.2.2 (by omega), hb.2.2 (by omega)]
theorem unhex_len : ∀ (xs ys : List UInt8), unhexB xs = some ys → xs.length = 2 * ys.length := fun xs ys h => by
  rw [← hex_unhex xs ys h, hexB_len]
theorem ofInt8_nat (a : Nat) (ha : a < 256) : (BitVec.ofInt 8 (a : Int)).toNat = a := by
  rw [BitVec.toNat_ofInt]; simp; omega
theorem u8_and15 (x : UInt8) : bits .and .u8 (x.toNat : Int) 15 = ((x.toNat % 16 : Nat) : Int) := by
  have hx := x.toNat_lt
  have h : bits .and .u8 (x.toNat : Int) ((15 : Nat) : Int) = ((x.toNat &&& 15 : Nat) : Int) := by
    simp only [bits]
    show IntKind.u8.wrap (((BitVec.ofInt 8 (x.toNat : Int)) &&& (BitVec.ofInt 8 ((15 : Nat) : Int))).toNat : Int) = _
    rw [BitVec.toNat_and, ofInt8_nat x.toNat hx, ofInt8_nat 15 (by omega)]
    have : x.toNat &&& 15 < 256 := Nat.and_lt_two_pow (n := 8) _ (by omega)
    simp [IntKind.wrap, IntKind.bits, IntKind.signed]; omega
  rw [show (15 : Nat) = 2 ^ 4 - 1 from rfl, Nat.and_two_pow_sub_one_eq_mod] at h
  exact h
end Go.Proofs.YtfoplbolbjcggaaDoor
