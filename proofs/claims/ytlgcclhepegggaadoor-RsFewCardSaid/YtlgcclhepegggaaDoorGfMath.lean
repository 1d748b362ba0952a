/- The plain mathematics of the field of 256 elements: doubling, products, powers, logarithms. No program in sight. -/
import Derived.Test.YtlgcclhepegggaaDoorBase
namespace Go.Proofs.YtlgcclhepegggaaDoor

/-- twice an element -/
def gdbl (x : UInt8) : UInt8 := (x <<< 1) ^^^ (if 128 ≤ x then 29 else 0)

/-- the loop of a product: y is what is left of the second factor -/
def mulF : Nat → Nat → UInt8 → UInt8 → UInt8
  | 0, _, _, o => o
  | n + 1, y, x, o => if y = 0 then o else mulF n (y / 2) (gdbl x) (if y % 2 = 1 then o ^^^ x else o)

def gmul (a b : UInt8) : UInt8 := mulF 8 b.toNat a 0

theorem gdbl_hi (x : UInt8) : 255 < x.toNat * 2 → (x.toNat * 2) ^^^ 285 = (gdbl x).toNat := by
  revert x; apply all_u8; decide +kernel
theorem gdbl_lo (x : UInt8) : x.toNat * 2 ≤ 255 → x.toNat * 2 = (gdbl x).toNat := by
  revert x; apply all_u8; decide +kernel

theorem mulF_zero (n : Nat) (x o : UInt8) : mulF n 0 x o = o := by cases n <;> simp [mulF]
theorem mulF_step {n y : Nat} (x o : UInt8) (h : 0 < y) (hn : y < 2 ^ n) : mulF n y x o = mulF (n - 1) (y / 2) (gdbl x) (if y % 2 = 1 then o ^^^ x else o) := by
  cases n with
  | zero => simp at hn; omega
  | succ n => simp [mulF, Nat.ne_of_gt h]
theorem half_lt {n y : Nat} (h : 0 < y) (hn : y < 2 ^ n) : y / 2 < 2 ^ (n - 1) := by
  cases n with
  | zero => simp at hn; omega
  | succ n => rw [Nat.pow_succ] at hn; simp; omega

/-! linear -/
theorem gdbl_bv (x : BitVec 8) : gdbl ⟨x⟩ = ⟨(x <<< 1) ^^^ (if x.msb then 29#8 else 0#8)⟩ := by
  apply UInt8.toBitVec_inj.1
  have h : ((128 : UInt8) ≤ ⟨x⟩) = (x.msb = true) := by
    rw [UInt8.le_iff_toNat_le, BitVec.msb_eq_decide]
    show (128 ≤ x.toNat) = _
    simp
  unfold gdbl
  simp only [h]
  split <;> simp
theorem bv_four (p q u v : BitVec 8) : (p ^^^ q) ^^^ (u ^^^ v) = (p ^^^ u) ^^^ (q ^^^ v) := by
  ext i hi; simp; cases p[i] <;> cases q[i] <;> cases u[i] <;> cases v[i] <;> rfl
theorem gdbl_xor (x y : UInt8) : gdbl (x ^^^ y) = gdbl x ^^^ gdbl y := by
  obtain ⟨x⟩ := x
  obtain ⟨y⟩ := y
  show gdbl ⟨x ^^^ y⟩ = _
  rw [gdbl_bv, gdbl_bv, gdbl_bv]
  apply UInt8.toBitVec_inj.1
  show _ = ((x <<< 1) ^^^ (if x.msb then 29#8 else 0#8)) ^^^ ((y <<< 1) ^^^ (if y.msb then 29#8 else 0#8))
  simp only [BitVec.msb_xor, BitVec.shiftLeft_xor_distrib]
  rw [bv_four _ _ (y <<< 1)]
  cases x.msb <;> cases y.msb <;> simp
theorem gdbl_zero : gdbl 0 = 0 := by decide +kernel

theorem x_right (a b c : UInt8) : a ^^^ (b ^^^ c) = b ^^^ (a ^^^ c) := by ac_rfl
theorem mulF_out (n y : Nat) (x o : UInt8) : mulF n y x o = o ^^^ mulF n y x 0 := by
  induction n generalizing y x o with
  | zero => simp [mulF]
  | succ n ih =>
    unfold mulF
    by_cases h : y = 0
    · simp [h]
    · rw [if_neg h, if_neg h]
      by_cases h2 : y % 2 = 1
      · rw [if_pos h2, if_pos h2, ih _ _ (o ^^^ x), ih _ _ (0 ^^^ x)]; simp; ac_rfl
      · rw [if_neg h2, if_neg h2, ih _ _ o]
theorem mulF_xor (n y : Nat) (x z : UInt8) : mulF n y (x ^^^ z) 0 = mulF n y x 0 ^^^ mulF n y z 0 := by
  induction n generalizing y x z with
  | zero => simp [mulF]
  | succ n ih =>
    unfold mulF
    by_cases h : y = 0
    · simp [h]
    · rw [if_neg h, if_neg h, if_neg h, gdbl_xor]
      by_cases h2 : y % 2 = 1
      · rw [if_pos h2, if_pos h2, if_pos h2, mulF_out n _ _ (0 ^^^ (x ^^^ z)), mulF_out n _ _ (0 ^^^ x), mulF_out n _ _ (0 ^^^ z), ih]; simp; ac_rfl
      · rw [if_neg h2, if_neg h2, if_neg h2, ih]
theorem mulF_dbl (n y : Nat) (x : UInt8) : mulF n y (gdbl x) 0 = gdbl (mulF n y x 0) := by
  induction n generalizing y x with
  | zero => simp [mulF, gdbl_zero]
  | succ n ih =>
    unfold mulF
    by_cases h : y = 0
    · simp [h, gdbl_zero]
    · rw [if_neg h, if_neg h]
      by_cases h2 : y % 2 = 1
      · rw [if_pos h2, if_pos h2, mulF_out n _ _ (0 ^^^ gdbl x), mulF_out n _ _ (0 ^^^ x), ih, gdbl_xor]; simp
      · rw [if_neg h2, if_neg h2, ih]
theorem gmul_xor_left (a c b : UInt8) : gmul (a ^^^ c) b = gmul a b ^^^ gmul c b := mulF_xor 8 _ a c
theorem gmul_dbl_left (a b : UInt8) : gmul (gdbl a) b = gdbl (gmul a b) := mulF_dbl 8 _ a
theorem gmul_one_left (b : UInt8) : gmul 1 b = b := by
  revert b; apply all_u8; decide +kernel
theorem gmul_zero_right (a : UInt8) : gmul a 0 = 0 := mulF_zero 8 a 0
theorem gmul_zero_left (b : UInt8) : gmul 0 b = 0 := by
  have := gmul_xor_left 0 0 b; simpa using this

/-! powers of 2 and logarithms -/
def gexp : Nat → UInt8
  | 0 => 1
  | n + 1 => gdbl (gexp n)
def logF : Nat → Nat → UInt8 → UInt8 → Option Nat
  | 0, _, _, _ => none
  | n + 1, k, x, a => if x = a then some k else logF n (k + 1) (gdbl x) a
def glog? (a : UInt8) : Option Nat := logF 255 0 1 a
def glog (a : UInt8) : Nat := (glog? a).getD 0

theorem gexp_add (n m : Nat) : gmul (gexp n) (gexp m) = gexp (n + m) := by
  induction n with
  | zero => rw [Nat.zero_add]; exact gmul_one_left _
  | succ n ih =>
    rw [show n + 1 + m = (n + m) + 1 by omega]
    show gmul (gdbl (gexp n)) (gexp m) = gdbl (gexp (n + m))
    rw [gmul_dbl_left, ih]
theorem gexp_255 : gexp 255 = 1 := by decide +kernel
theorem gexp_period (n : Nat) : gexp (n + 255) = gexp n := by
  rw [← gexp_add, gexp_255]
  induction n with
  | zero => decide +kernel
  | succ n ih =>
    show gmul (gdbl (gexp n)) 1 = gdbl (gexp n)
    rw [gmul_dbl_left, ih]
theorem gexp_mod (n : Nat) : gexp (n % 255) = gexp n := by
  induction n using Nat.strongRecOn with
  | _ n ih =>
    by_cases h : n < 255
    · rw [Nat.mod_eq_of_lt h]
    · have := ih (n - 255) (by omega)
      rw [show n = (n - 255) + 255 by omega, gexp_period, Nat.add_mod_right, this]
theorem logF_some {n k : Nat} {x a : UInt8} {r : Nat} (hx : x = gexp k) (h : logF n k x a = some r) : gexp r = a ∧ r < k + n := by
  induction n generalizing k x with
  | zero => simp [logF] at h
  | succ n ih =>
    unfold logF at h
    by_cases he : x = a
    · rw [if_pos he] at h; cases h; exact ⟨by rw [← hx, he], by omega⟩
    · rw [if_neg he] at h
      have := ih (k := k + 1) (x := gdbl x) (by rw [hx]; rfl) h
      exact ⟨this.1, by omega⟩
theorem glog_is (a : UInt8) : a ≠ 0 → (glog? a).isSome := by
  revert a; apply all_u8; decide +kernel
theorem glog_zero : glog? 0 = none := by decide +kernel
theorem glog_exp' : ∀ k, k < 255 → glog? (gexp k) = some k := by decide +kernel
theorem glog_some {a : UInt8} (h : a ≠ 0) : glog? a = some (glog a) := by
  have := glog_is a h
  unfold glog
  cases hg : glog? a with
  | none => rw [hg] at this; cases this
  | some r => rfl
theorem gexp_log {a : UInt8} (h : a ≠ 0) : gexp (glog a) = a := (logF_some (k := 0) rfl (glog_some h)).1
theorem glog_lt {a : UInt8} (h : a ≠ 0) : glog a < 255 := by have := (logF_some (k := 0) rfl (glog_some h)).2; omega
theorem glog_exp (k : Nat) : glog (gexp k) = k % 255 := by
  unfold glog; rw [← gexp_mod, glog_exp' _ (Nat.mod_lt _ (by omega))]; rfl
theorem gexp_ne (k : Nat) : gexp k ≠ 0 := by
  intro h
  have h2 := glog_exp' (k % 255) (Nat.mod_lt _ (by omega))
  rw [gexp_mod, h, glog_zero] at h2; cases h2
theorem gexp_inj {j k : Nat} (h : gexp j = gexp k) : j % 255 = k % 255 := by rw [← glog_exp, ← glog_exp, h]

/-! the laws of a field -/
theorem gmul_comm (a b : UInt8) : gmul a b = gmul b a := by
  by_cases ha : a = 0
  · subst ha; rw [gmul_zero_left, gmul_zero_right]
  by_cases hb : b = 0
  · subst hb; rw [gmul_zero_left, gmul_zero_right]
  rw [← gexp_log ha, ← gexp_log hb, gexp_add, gexp_add, Nat.add_comm]
theorem gmul_one (a : UInt8) : gmul a 1 = a := by rw [gmul_comm]; exact gmul_one_left a
theorem gmul_xor (a b c : UInt8) : gmul a (b ^^^ c) = gmul a b ^^^ gmul a c := by
  rw [gmul_comm, gmul_xor_left, gmul_comm b, gmul_comm c]
theorem gmul_assoc (a b c : UInt8) : gmul (gmul a b) c = gmul a (gmul b c) := by
  by_cases ha : a = 0
  · subst ha; simp only [gmul_zero_left]
  by_cases hb : b = 0
  · subst hb; simp only [gmul_zero_left, gmul_zero_right]
  by_cases hc : c = 0
  · subst hc; simp only [gmul_zero_right]
  rw [← gexp_log ha, ← gexp_log hb, ← gexp_log hc]; simp only [gexp_add, Nat.add_assoc]
theorem gmul_ne {a b : UInt8} (ha : a ≠ 0) (hb : b ≠ 0) : gmul a b ≠ 0 := by
  rw [← gexp_log ha, ← gexp_log hb, gexp_add]; exact gexp_ne _
theorem glog_mul {a b : UInt8} (ha : a ≠ 0) (hb : b ≠ 0) : glog (gmul a b) = (glog a + glog b) % 255 := by
  conv => lhs; rw [← gexp_log ha, ← gexp_log hb, gexp_add, glog_exp]
theorem gmul_log {a b : UInt8} (ha : a ≠ 0) (hb : b ≠ 0) : gmul a b = gexp (glog a + glog b) := by
  rw [← gexp_add, gexp_log ha, gexp_log hb]

/-- the sum, behind a name -/
def gadd (a b : UInt8) : UInt8 := a ^^^ b
theorem gadd_comm (a b : UInt8) : gadd a b = gadd b a := UInt8.xor_comm a b
theorem gadd_assoc (a b c : UInt8) : gadd (gadd a b) c = gadd a (gadd b c) := UInt8.xor_assoc a b c
theorem gadd_self (a : UInt8) : gadd a a = 0 := by simp [gadd]
theorem gadd_zero (a : UInt8) : gadd a 0 = a := by simp [gadd]
theorem zero_gadd (a : UInt8) : gadd 0 a = a := by simp [gadd]
theorem gmul_gadd (a b c : UInt8) : gmul a (gadd b c) = gadd (gmul a b) (gmul a c) := gmul_xor a b c
theorem gadd_gmul (a b c : UInt8) : gmul (gadd a b) c = gadd (gmul a c) (gmul b c) := gmul_xor_left a b c

/-! powers -/
def gpow (a : UInt8) : Nat → UInt8
  | 0 => 1
  | n + 1 => gmul (gpow a n) a
theorem gpow_exp (k n : Nat) : gpow (gexp k) n = gexp (k * n) := by
  induction n with
  | zero => rfl
  | succ n ih => unfold gpow; rw [ih, gexp_add, Nat.mul_succ]
theorem gpow_log {a : UInt8} (h : a ≠ 0) (n : Nat) : gpow a n = gexp (glog a * n) := by rw [← gpow_exp, gexp_log h]
theorem gpow_two (a : UInt8) (n : Nat) : gpow (gmul a a) n = gpow a (2 * n) := by
  induction n with
  | zero => rfl
  | succ n ih =>
    rw [show 2 * (n + 1) = 2 * n + 1 + 1 by omega]
    simp only [gpow]
    rw [ih, gmul_assoc]
/-- one round of the powers' loop -/
theorem gpow_step (o a : UInt8) {n : Nat} (h : n % 2 = 1) : gmul (gmul o a) (gpow (gmul a a) (n / 2)) = gmul o (gpow a n) := by
  have e : n = 2 * (n / 2) + 1 := by omega
  have e2 : gpow a n = gmul (gpow a (2 * (n / 2))) a := (congrArg (gpow a) e).trans rfl
  rw [gpow_two, e2, gmul_assoc, gmul_comm a (gpow a _)]
theorem gpow_step0 (o a : UInt8) {n : Nat} (h : ¬ n % 2 = 1) : gmul o (gpow (gmul a a) (n / 2)) = gmul o (gpow a n) := by
  rw [gpow_two]; congr 2; omega
/-- Go's power: of a number modulo 255, unless it is 0 -/
def gpowI (a : UInt8) (n : Int) : UInt8 := if n = 0 then 1 else if a = 0 then 0 else gpow a (n % 255).toNat
theorem gpowI_exp {a : UInt8} (h : a ≠ 0) (n : Int) : gpowI a n = gexp (glog a * (n % 255).toNat) := by
  unfold gpowI
  by_cases hn : n = 0
  · subst hn; simp; rfl
  · rw [if_neg hn, if_neg h, gpow_log h]
theorem gexp_congr {j k : Nat} (h : j % 255 = k % 255) : gexp j = gexp k := by rw [← gexp_mod j, h, gexp_mod]
theorem mul_mod_l (l a b : Nat) (h : a % 255 = b % 255) : l * a % 255 = l * b % 255 := by
  rw [Nat.mul_mod, h, ← Nat.mul_mod]
theorem gpowI_add {a : UInt8} (h : a ≠ 0) (n m : Int) : gmul (gpowI a n) (gpowI a m) = gpowI a (n + m) := by
  rw [gpowI_exp h, gpowI_exp h, gpowI_exp h, gexp_add, ← Nat.mul_add]
  exact gexp_congr (mul_mod_l _ _ _ (by omega))
theorem gpowI_one (a : UInt8) : gpowI a 1 = a := by
  unfold gpowI
  by_cases h : a = 0
  · simp [h]
  · simp [h, gpow, gmul_one_left]
theorem gpowI_zero (a : UInt8) : gpowI a 0 = 1 := by simp [gpowI]
theorem gexp_two (n : Nat) : gpow 2 n = gexp n := by
  have h2 : (2 : UInt8) = gexp 1 := by decide +kernel
  rw [h2, gpow_exp, Nat.one_mul]
theorem gpowI_two {n : Nat} (h : n < 255) : gpowI 2 n = gexp n := by
  unfold gpowI
  by_cases hn : (n : Int) = 0
  · rw [if_pos hn, show n = 0 by omega]; rfl
  · rw [if_neg hn, if_neg (by decide), gexp_two]; congr 1; omega
/-- the inverse -/
def ginv (a : UInt8) : UInt8 := gpowI a 254
/-- what Inv answers beside its bool -/
def ginvZ (a : UInt8) : UInt8 := if a = 0 then 0 else ginv a
/-- an element is not 0 -/
def nz (a : UInt8) : Bool := !(a == 0)
theorem nz_true {a : UInt8} (h : a ≠ 0) : nz a = true := by simp [nz, h]
theorem nz_zero : nz 0 = false := rfl
theorem nz_iff {a : UInt8} : nz a = true ↔ a ≠ 0 := by simp [nz]
theorem ginvZ_ne {a : UInt8} (h : a ≠ 0) : ginvZ a = ginv a := by simp [ginvZ, h]
theorem gmul_inv {a : UInt8} (h : a ≠ 0) : gmul a (ginv a) = 1 := by
  have := gpowI_add h 1 254
  rw [gpowI_one] at this
  show gmul a (gpowI a 254) = 1
  rw [this, gpowI_exp h]
  simp; rfl
theorem gdiv_mul {a b : UInt8} (h : b ≠ 0) : gmul (gmul a b) (ginv b) = a := by rw [gmul_assoc, gmul_inv h, gmul_one]
theorem ginv_ne {a : UInt8} (h : a ≠ 0) : ginv a ≠ 0 := by
  intro h2; have := gmul_inv h; rw [h2, gmul_zero_right] at this; exact absurd this (by decide)

end Go.Proofs.YtlgcclhepegggaaDoor
