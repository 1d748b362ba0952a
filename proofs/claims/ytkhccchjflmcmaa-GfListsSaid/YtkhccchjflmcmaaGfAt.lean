/- Contracts of the field's list functions, at lengths and answers that are named; what their answers come to. -/
import Derived.Test.YtkhccchjflmcmaaGfLawsW
import Derived.Test.YtkhccchjflmcmaaRegion
set_option linter.unusedVariables false
namespace Go.Proofs.Ytkhccchjflmcmaa
open Go.RowKit

/-- a slice of bytes at the head of a block of its own, its whole block -/
def IsNew (zs : List UInt8) (L : Nat) : Value → World → Prop := fun v w => zs.length = L ∧ ∃ g, v = .slice (some ⟨g, 0, none⟩) L L ∧ Row w g 5 (u8s zs)
theorem IsNew.stable (zs : List UInt8) (L : Nat) : Stable (Only []) (IsNew zs L) := fun _ _ _ ⟨hl, g, e, r⟩ ho => ⟨hl, g, e, r.only0 ho⟩
theorem IsNew.rd {zs : List UInt8} {L : Nat} {v : Value} {w : World} (h : IsNew zs L v w) : ∃ p, v = .slice p L L ∧ Rd w p (u8s zs) ∧ zs.length = L ∧ (p = none → L = 0 ∧ L = 0) := by
  obtain ⟨hl, g, rfl, r⟩ := h
  exact ⟨_, rfl, r.rd0, hl, by simp⟩

theorem newBytes_at {xs zs : List UInt8} {L : Nat} {w : World} (hz : xs = zs) (hL : zs.length = L) {e : Ending} {w' : World} (h : NewBytes xs w e w') : ∃ v, e = .returned v ∧ IsNew zs L v w' ∧ Only [] w w' := by
  subst hz hL
  obtain ⟨g, rfl, _, r, o⟩ := h
  exact ⟨_, rfl, ⟨rfl, g, rfl, r⟩, o⟩
theorem sum_at {p q : Option Addr} {xs ys zs : List UInt8} {n m L : Nat} {c d : Nat} {w : World} (hn : xs.length = n) (hm : ys.length = m) (bn : n ≤ 140737488351232) (bm : m ≤ 140737488351232)
    (hx : Rd w p (u8s xs)) (hy : Rd w q (u8s ys)) (hz : eachS gadd xs ys = zs) (hL : zs.length = L) :
    Calls Try.prog 19 #[.slice p n c, .slice q m d] w fun e w' => ∃ v, e = .returned v ∧ IsNew zs L v w' ∧ Only [] w w' := by
  subst hn hm
  exact (sum_any p q xs ys c d w bn bm hx hy).mono fun _ _ h => newBytes_at hz hL h
theorem scale_at {q : Option Addr} {x : UInt8} {ys zs : List UInt8} {m L : Nat} {d : Nat} {w : World} (hm : ys.length = m) (bm : m ≤ 140737488351232)
    (hy : Rd w q (u8s ys)) (hz : eachS (fun a b => gadd a (gmul x b)) [] ys = zs) (hL : zs.length = L) :
    Calls Try.prog 20 #[.int .u8 (x.toNat : Int), .slice q m d] w fun e w' => ∃ v, e = .returned v ∧ IsNew zs L v w' ∧ Only [] w w' := by
  subst hm
  exact (scale_any x q ys d w bm hy).mono fun _ _ h => newBytes_at hz hL h
theorem addScaled_at {p q : Option Addr} {x : UInt8} {xs ys zs : List UInt8} {n m L : Nat} {c d : Nat} {w : World} (hn : xs.length = n) (hm : ys.length = m) (bn : n ≤ 140737488351232) (bm : m ≤ 140737488351232)
    (hx : Rd w p (u8s xs)) (hy : Rd w q (u8s ys)) (hz : eachS (fun a b => gadd a (gmul x b)) xs ys = zs) (hL : zs.length = L) :
    Calls Try.prog 18 #[.slice p n c, .int .u8 (x.toNat : Int), .slice q m d] w fun e w' => ∃ v, e = .returned v ∧ IsNew zs L v w' ∧ Only [] w w' := by
  subst hn hm
  exact (addScaled_any x p q xs ys c d w bn bm hx hy).mono fun _ _ h => newBytes_at hz hL h
theorem dot_at {p q : Option Addr} {xs ys : List UInt8} {n m : Nat} {c d : Nat} {w : World} {z : UInt8} (hn : xs.length = n) (hm : ys.length = m) (bn : n ≤ 140737488351232) (bm : m ≤ 140737488351232)
    (hx : Rd w p (u8s xs)) (hy : Rd w q (u8s ys)) (hz : gdot xs ys = z) :
    Calls Try.prog 17 #[.slice p n c, .slice q m d] w fun e w' => e = .returned (.int .u8 (z.toNat : Int)) ∧ Drew w w' := by
  subst hn hm hz
  exact dot_any p q xs ys c d w bn bm hx hy

/-! what lists come to -/
theorem eachS_get (f : UInt8 → UInt8 → UInt8) (xs ys : List UInt8) {i : Nat} (h : i < (eachS f xs ys).length) : (eachS f xs ys)[i] = if i < ys.length then f (xs.getD i 0) (ys.getD i 0) else xs.getD i 0 := eachUp_get _ _ _ _
theorem getD_out {xs : List UInt8} {i : Nat} (h : xs.length ≤ i) : xs.getD i 0 = 0 := by rw [List.getD_eq_getElem?_getD, List.getElem?_eq_none h]; rfl
theorem eachS_getD (f : UInt8 → UInt8 → UInt8) (hf : ∀ a, f a 0 = a) (xs ys : List UInt8) (i : Nat) : (eachS f xs ys).getD i 0 = f (xs.getD i 0) (ys.getD i 0) := by
  by_cases h : i < (eachS f xs ys).length
  · rw [getD_at h, eachS_get]
    split
    · rfl
    · rw [getD_out (xs := ys) (by omega), hf]
  · rw [eachS_length] at h
    rw [getD_out (by rw [eachS_length]; omega), getD_out (xs := xs) (by omega), getD_out (xs := ys) (by omega), hf]
theorem ext_getD {xs ys : List UInt8} (hl : xs.length = ys.length) (h : ∀ i, xs.getD i 0 = ys.getD i 0) : xs = ys := by
  apply List.ext_getElem hl
  intro i h1 h2
  rw [← getD_at h1, ← getD_at h2, h]
theorem gadd_zero' (a : UInt8) : gadd a 0 = a := gadd_zero a
theorem scaled_zero (x a : UInt8) : gadd a (gmul x 0) = a := by rw [gmul_zero_right, gadd_zero]
theorem gdotUp_comm (xs ys : List UInt8) (k : Nat) : gdotUp xs ys k = gdotUp ys xs k := by
  induction k with
  | zero => rfl
  | succ k ih => simp only [gdotUp, ih, gmul_comm]
theorem gdot_comm (xs ys : List UInt8) : gdot ys xs = gdot xs ys := by rw [gdot, gdot, gdotUp_comm, Nat.min_comm]
theorem gadd_four (p q u v : UInt8) : gadd (gadd p q) (gadd u v) = gadd (gadd p u) (gadd q v) := by simp only [gadd]; ac_rfl
theorem gdotUp_lin (x : UInt8) (xs ds ys : List UInt8) (k : Nat) : gdotUp (eachS (fun a b => gadd a (gmul x b)) xs ds) ys k = gadd (gdotUp xs ys k) (gmul x (gdotUp ds ys k)) := by
  induction k with
  | zero => simp only [gdotUp, gmul_zero_right, gadd_zero]
  | succ k ih =>
    simp only [gdotUp]
    rw [ih, eachS_getD (fun a b => gadd a (gmul x b)) (scaled_zero x), gadd_gmul, gmul_gadd, gadd_four, gmul_assoc]
theorem gdot_lin (x : UInt8) {n : Nat} {xs ds ys : List UInt8} (h1 : xs.length = n) (h2 : ds.length = n) (h3 : ys.length = n) :
    gadd (gdot xs ys) (gmul x (gdot ds ys)) = gdot (eachS (fun a b => gadd a (gmul x b)) xs ds) ys := by
  simp only [gdot, eachS_length, h1, h2, h3, Nat.max_self, Nat.min_self]
  exact (gdotUp_lin x xs ds ys n).symm
theorem twice_scaled (x : UInt8) {n : Nat} {xs ys : List UInt8} (h1 : xs.length = n) (h2 : ys.length = n) : eachS (fun a b => gadd a (gmul x b)) (eachS (fun a b => gadd a (gmul x b)) xs ys) ys = xs := by
  apply ext_getD
  · simp [eachS_length, h1, h2]
  · intro i
    rw [eachS_getD (fun a b => gadd a (gmul x b)) (scaled_zero x), eachS_getD (fun a b => gadd a (gmul x b)) (scaled_zero x)]
    simp only [gadd]; simp [UInt8.xor_assoc]
theorem twice_sum {n : Nat} {xs ys : List UInt8} (h1 : xs.length = n) (h2 : ys.length = n) : eachS gadd (eachS gadd xs ys) ys = xs := by
  apply ext_getD
  · simp [eachS_length, h1, h2]
  · intro i
    rw [eachS_getD _ gadd_zero', eachS_getD _ gadd_zero']
    simp only [gadd]; simp [UInt8.xor_assoc]
end Go.Proofs.Ytkhccchjflmcmaa
