/- The document's product of two elements (polynomials multiplied, then reduced) is the field's. No program in sight. -/
import Derived.Test.YtlgcclhepegggaaDoorGfMath
namespace Go.Proofs.YtlgcclhepegggaaDoor

/-- the sum of f over the bits of y below n -/
def bsum (f : Nat → Nat) : Nat → Nat → Nat
  | 0, _ => 0
  | n + 1, y => if y.testBit n then bsum f n y ^^^ f n else bsum f n y
def bsum8 (f : Nat → UInt8) : Nat → Nat → UInt8
  | 0, _ => 0
  | n + 1, y => if y.testBit n then bsum8 f n y ^^^ f n else bsum8 f n y
/-- one step of the reduction -/
def redS (i r : Nat) : Nat := if r.testBit i then r ^^^ (285 * 2 ^ (i - 8)) else r
def redUp : Nat → Nat → Nat
  | 0, p => p
  | m + 1, p => redS (14 - m) (redUp m p)
def polyMul (a b : UInt8) : Nat := bsum (fun i => bsum (fun j => 2 ^ (i + j)) 8 b.toNat) 8 a.toNat

theorem redS_xor (i x y : Nat) : redS i (x ^^^ y) = redS i x ^^^ redS i y := by
  unfold redS
  rw [Nat.testBit_xor]
  cases x.testBit i <;> cases y.testBit i <;> simp
  · ac_rfl
  · ac_rfl
  · rw [show (x ^^^ 285 * 2 ^ (i - 8)) ^^^ (y ^^^ 285 * 2 ^ (i - 8)) = (x ^^^ y) ^^^ (285 * 2 ^ (i - 8) ^^^ 285 * 2 ^ (i - 8)) by ac_rfl, Nat.xor_self, Nat.xor_zero]
theorem redUp_xor (m x y : Nat) : redUp m (x ^^^ y) = redUp m x ^^^ redUp m y := by
  induction m with
  | zero => rfl
  | succ m ih => simp only [redUp, ih, redS_xor]
theorem redUp_zero (m : Nat) : redUp m 0 = 0 := by
  have := redUp_xor m 0 0
  simpa using this
theorem redUp_bsum (m : Nat) (f : Nat → Nat) (n y : Nat) : redUp m (bsum f n y) = bsum (fun i => redUp m (f i)) n y := by
  induction n with
  | zero => exact redUp_zero m
  | succ n ih =>
    unfold bsum
    split
    · rw [redUp_xor, ih]
    · exact ih
theorem ofNat_xor (x y : Nat) : UInt8.ofNat (x ^^^ y) = UInt8.ofNat x ^^^ UInt8.ofNat y := by
  apply UInt8.toNat_inj.1
  rw [UInt8.toNat_xor]
  simp only [UInt8.toNat_ofNat']
  exact Nat.xor_mod_two_pow (n := 8)
theorem ofNat_bsum (f : Nat → Nat) (n y : Nat) : UInt8.ofNat (bsum f n y) = bsum8 (fun i => UInt8.ofNat (f i)) n y := by
  induction n with
  | zero => rfl
  | succ n ih =>
    unfold bsum bsum8
    split
    · rw [ofNat_xor, ih]
    · exact ih
theorem bsum8_congr {f g : Nat → UInt8} (n y : Nat) (h : ∀ i, i < n → f i = g i) : bsum8 f n y = bsum8 g n y := by
  induction n with
  | zero => rfl
  | succ n ih => unfold bsum8; rw [ih (fun i hi => h i (by omega)), h n (by omega)]
theorem exp_red : ∀ k, k < 15 → UInt8.ofNat (redUp 7 (2 ^ k)) = gexp k := by decide +kernel
theorem poly_red (a b : UInt8) : UInt8.ofNat (redUp 7 (polyMul a b)) = bsum8 (fun i => bsum8 (fun j => gexp (i + j)) 8 b.toNat) 8 a.toNat := by
  unfold polyMul
  rw [redUp_bsum, ofNat_bsum]
  refine bsum8_congr _ _ fun i hi => ?_
  rw [redUp_bsum, ofNat_bsum]
  exact bsum8_congr _ _ fun j hj => exp_red (i + j) (by omega)

/-- i times twice -/
def gdbls : Nat → UInt8 → UInt8
  | 0, x => x
  | n + 1, x => gdbls n (gdbl x)
theorem gdbls_xor (n : Nat) (x y : UInt8) : gdbls n (x ^^^ y) = gdbls n x ^^^ gdbls n y := by
  induction n generalizing x y with
  | zero => rfl
  | succ n ih => simp only [gdbls, gdbl_xor, ih]
theorem gdbls_zero (n : Nat) : gdbls n 0 = 0 := by have := gdbls_xor n 0 0; simpa using this
theorem gdbls_exp (n k : Nat) : gdbls n (gexp k) = gexp (n + k) := by
  induction n generalizing k with
  | zero => rw [Nat.zero_add]; rfl
  | succ n ih => rw [show n + 1 + k = n + (k + 1) by omega]; exact ih (k + 1)
theorem gdbls_bsum (m : Nat) (f : Nat → UInt8) (n y : Nat) : gdbls m (bsum8 f n y) = bsum8 (fun i => gdbls m (f i)) n y := by
  induction n with
  | zero => exact gdbls_zero m
  | succ n ih =>
    unfold bsum8
    split
    · rw [gdbls_xor, ih]
    · exact ih
theorem bits_of (b : UInt8) : bsum8 gexp 8 b.toNat = b := by
  revert b; apply all_u8; decide +kernel
theorem bsum8_low (f : Nat → UInt8) (n y : Nat) : bsum8 f (n + 1) y = (if y % 2 = 1 then f 0 else 0) ^^^ bsum8 (fun i => f (i + 1)) n (y / 2) := by
  induction n with
  | zero => simp [bsum8]
  | succ n ih =>
    rw [bsum8, ih]
    conv => rhs; rw [bsum8]
    rw [Nat.testBit_succ]
    split
    · ac_rfl
    · rfl
theorem mulF_bsum (n y : Nat) (x : UInt8) (h : y < 2 ^ n) : mulF n y x 0 = bsum8 (fun i => gdbls i x) n y := by
  induction n generalizing y x with
  | zero => rfl
  | succ n ih =>
    rw [bsum8_low]
    unfold mulF
    by_cases h0 : y = 0
    · subst h0
      rw [if_pos rfl]
      have : ∀ m (g : Nat → UInt8), bsum8 g m 0 = 0 := by
        intro m g; induction m with
        | zero => rfl
        | succ m ih => unfold bsum8; rw [Nat.zero_testBit]; simpa using ih
      simp [this]
    · rw [if_neg h0, mulF_out, ih _ _ (by rw [Nat.pow_succ] at h; omega)]
      congr 1
      split
      · simp [gdbls]
      · rfl
theorem refMul_is (a b : UInt8) : UInt8.ofNat (redUp 7 (polyMul a b)) = gmul a b := by
  rw [poly_red, gmul_comm]
  unfold gmul
  rw [mulF_bsum 8 _ _ a.toNat_lt]
  refine bsum8_congr _ _ fun i _ => ?_
  conv => rhs; rw [← bits_of b]
  rw [gdbls_bsum]
  exact bsum8_congr _ _ fun j _ => (gdbls_exp i j).symm

theorem bsum_lt (f : Nat → Nat) (m n y : Nat) (h : ∀ i, i < n → f i < 2 ^ m) : bsum f n y < 2 ^ m := by
  induction n with
  | zero => exact Nat.two_pow_pos m
  | succ n ih =>
    have := ih (fun i hi => h i (by omega))
    unfold bsum
    split
    · exact Nat.xor_lt_two_pow this (h n (by omega))
    · exact this
theorem inner_lt (i n y : Nat) (hi : i < 8) (hn : n ≤ 8) : bsum (fun j => 2 ^ (i + j)) n y < 2 ^ 15 :=
  bsum_lt _ _ _ _ fun j hj => Nat.pow_lt_pow_right (by omega) (by omega)
theorem outer_lt (b : UInt8) (n y : Nat) (hn : n ≤ 8) : bsum (fun i => bsum (fun j => 2 ^ (i + j)) 8 b.toNat) n y < 2 ^ 15 :=
  bsum_lt _ _ _ _ fun i hi => inner_lt i 8 _ (by omega) (by omega)
theorem redS_lt (i r : Nat) (hi : i < 15) (hr : r < 2 ^ 15) (h8 : 8 ≤ i) : redS i r < 2 ^ 15 := by
  unfold redS
  split
  · refine Nat.xor_lt_two_pow hr ?_
    have : 2 ^ (i - 8) ≤ 2 ^ 6 := Nat.pow_le_pow_right (by omega) (by omega)
    omega
  · exact hr
theorem redUp_lt (m p : Nat) (hm : m ≤ 7) (hp : p < 2 ^ 15) : redUp m p < 2 ^ 15 := by
  induction m with
  | zero => exact hp
  | succ m ih => exact redS_lt _ _ (by omega) (ih (by omega)) (by omega)
end Go.Proofs.YtlgcclhepegggaaDoor
