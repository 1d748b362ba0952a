/- Plain algebra over the field: sums, independent rows, elimination, Cauchy's rows. No program in sight. -/
import Derived.Test.YtlgcclhepegggaaDoorRsMath
set_option linter.unusedVariables false
namespace Go.Proofs.YtlgcclhepegggaaDoor
open Go.RowKit

def gsum : Nat → (Nat → UInt8) → UInt8
  | 0, _ => 0
  | k + 1, f => gadd (gsum k f) (f k)
theorem gsum_congr {f g : Nat → UInt8} : ∀ (k : Nat), (∀ j, j < k → f j = g j) → gsum k f = gsum k g
  | 0, _ => rfl
  | k + 1, h => by unfold gsum; rw [gsum_congr k (fun j hj => h j (by omega)), h k (by omega)]
theorem gsum_zero : ∀ (k : Nat) (f : Nat → UInt8), (∀ j, j < k → f j = 0) → gsum k f = 0
  | 0, _, _ => rfl
  | k + 1, f, h => by unfold gsum; rw [gsum_zero k f (fun j hj => h j (by omega)), h k (by omega)]; rfl
theorem gadd_four (a b c d : UInt8) : gadd (gadd a b) (gadd c d) = gadd (gadd a c) (gadd b d) := by
  rw [gadd_assoc, gadd_assoc, ← gadd_assoc b c d, gadd_comm b c, gadd_assoc c b d]
theorem gsum_add (f g : Nat → UInt8) : ∀ (k : Nat), gsum k (fun j => gadd (f j) (g j)) = gadd (gsum k f) (gsum k g)
  | 0 => (gadd_self 0).symm
  | k + 1 => by unfold gsum; rw [gsum_add f g k, gadd_four]
theorem gsum_mul (c : UInt8) (f : Nat → UInt8) : ∀ (k : Nat), gsum k (fun j => gmul c (f j)) = gmul c (gsum k f)
  | 0 => (gmul_zero_right c).symm
  | k + 1 => by unfold gsum; rw [gsum_mul c f k, gmul_gadd]
theorem gsum_one {f : Nat → UInt8} : ∀ (k i : Nat), i < k → (∀ j, j < k → j ≠ i → f j = 0) → gsum k f = f i
  | 0, i, h, _ => absurd h (by omega)
  | k + 1, i, h, h0 => by
    unfold gsum
    by_cases e : i = k
    · subst e; rw [gsum_zero i f (fun j hj => h0 j (by omega) (by omega)), zero_gadd]
    · rw [gsum_one k i (by omega) (fun j hj hn => h0 j (by omega) hn), h0 k (by omega) (fun e2 => e e2.symm), gadd_zero]
theorem gsum_two {f : Nat → UInt8} (k i l : Nat) (hi : i < k) (hl : l < k) (hil : i ≠ l) (h0 : ∀ j, j < k → j ≠ i → j ≠ l → f j = 0) : gsum k f = gadd (f i) (f l) := by
  have e : gsum k f = gsum k (fun j => gadd (if j = i then f i else 0) (if j = l then f l else 0)) := gsum_congr k fun j hj => by
    by_cases a : j = i
    · subst a; simp [hil, gadd_zero]
    · by_cases b : j = l
      · subst b; simp [a, zero_gadd]
      · simp [a, b, h0 j hj a b, gadd_zero]
  rw [e, gsum_add, gsum_one k i hi (fun j _ hn => by simp [hn]), gsum_one k l hl (fun j _ hn => by simp [hn])]
  simp
def dotN (k : Nat) (a d : Nat → UInt8) : UInt8 := gsum k fun j => gmul (a j) (d j)
theorem dotN_add (k : Nat) (a b : Nat → UInt8) (c : UInt8) (d : Nat → UInt8) : dotN k (fun j => gadd (a j) (gmul c (b j))) d = gadd (dotN k a d) (gmul c (dotN k b d)) := by
  unfold dotN
  rw [← gsum_mul, ← gsum_add]
  exact gsum_congr k fun j _ => by rw [gadd_gmul, gmul_assoc]
theorem dotN_congr {k : Nat} {a b d : Nat → UInt8} (h : ∀ j, j < k → a j = b j) : dotN k a d = dotN k b d := gsum_congr k fun j hj => by rw [h j hj]
theorem dotN_unit {k i : Nat} (hi : i < k) {a d : Nat → UInt8} (h : ∀ j, j < k → a j = if i = j then 1 else 0) : dotN k a d = d i := by
  unfold dotN
  rw [gsum_one k i hi (fun j hj hn => by rw [h j hj, if_neg (fun e => hn e.symm), gmul_zero_left]), h i hi, if_pos rfl, gmul_one_left]

theorem getD_out {α : Type} {l : List α} {j : Nat} (z : α) (h : l.length ≤ j) : l.getD j z = z := by rw [List.getD_eq_getElem?_getD, List.getElem?_eq_none h]; rfl
/-- an entry of rows -/
def ent (R : List (List UInt8)) (i j : Nat) : UInt8 := (R.getD i []).getD j 0
theorem getD_set {α : Type} (l : List α) (i j : Nat) (x z : α) (hi : i < l.length) : (l.set i x).getD j z = if j = i then x else l.getD j z := by
  rw [List.getD_eq_getElem?_getD, List.getD_eq_getElem?_getD]
  by_cases e : j = i
  · subst e; rw [if_pos rfl, List.getElem?_set_self hi]; rfl
  · rw [if_neg e, List.getElem?_set_ne (fun e2 => e e2.symm)]
theorem addS_getD (o : List UInt8) (x : UInt8) (l : List UInt8) (j : Nat) : (addS o x l).getD j 0 = gadd (o.getD j 0) (gmul x (l.getD j 0)) := by
  unfold addS eachS
  by_cases h : j < (eachUp (fun a b => gadd a (gmul x b)) o l (max o.length l.length) l.length).length
  · rw [getD_at h, eachUp_get]
    by_cases h2 : j < l.length
    · rw [if_pos h2]
    · rw [if_neg h2, getD_out (l := l) 0 (by omega), gmul_zero_right, gadd_zero]
  · rw [eachUp_length] at h
    rw [getD_out 0 (by rw [eachUp_length]; omega), getD_out (l := o) 0 (by omega), getD_out (l := l) 0 (by omega), gmul_zero_right]; rfl
theorem ent_set {R : List (List UInt8)} {i : Nat} (l : List UInt8) (hi : i < R.length) (a j : Nat) : ent (R.set i l) a j = if a = i then l.getD j 0 else ent R a j := by
  unfold ent
  rw [getD_set _ _ _ _ _ hi]
  split <;> rfl
theorem ent_set_add {R : List (List UInt8)} {i r : Nat} (c : UInt8) (hi : i < R.length) (a j : Nat) : ent (R.set i (addS (R.getD i []) c (R.getD r []))) a j = if a = i then gadd (ent R i j) (gmul c (ent R r j)) else ent R a j := by
  rw [ent_set _ hi, addS_getD]; rfl
theorem ent_set_scale {R : List (List UInt8)} {i : Nat} (c : UInt8) (hi : i < R.length) (a j : Nat) : ent (R.set i (addS [] c (R.getD i []))) a j = if a = i then gmul c (ent R i j) else ent R a j := by
  rw [ent_set _ hi, addS_getD]
  have : ([] : List UInt8).getD j 0 = 0 := rfl
  rw [this, zero_gadd]; rfl

/-- rows that no other list of elements but noughts is sent to noughts by -/
def Ind (k : Nat) (A : Nat → Nat → UInt8) : Prop := ∀ d : Nat → UInt8, (∀ i, i < k → dotN k (A i) d = 0) → ∀ j, j < k → d j = 0
theorem Ind.of {k : Nat} {A B : Nat → Nat → UInt8} (h : Ind k A) (hs : ∀ d : Nat → UInt8, (∀ i, i < k → dotN k (B i) d = 0) → ∀ i, i < k → dotN k (A i) d = 0) : Ind k B := fun d hd => h d (hs d hd)
/-- the columns below c are those of data shards -/
def Unit (k c : Nat) (A : Nat → Nat → UInt8) : Prop := ∀ i j, i < k → j < c → A i j = if i = j then 1 else 0
/-- independent rows have a pivot -/
theorem Ind.pivot {k c : Nat} {A : Nat → Nat → UInt8} (h : Ind k A) (hu : Unit k c A) (hc : c < k) : ∃ i, c ≤ i ∧ i < k ∧ A i c ≠ 0 := by
  refine Classical.byContradiction fun hn => ?_
  have h0 : ∀ i, c ≤ i → i < k → A i c = 0 := fun i h1 h2 => Classical.byContradiction fun h3 => hn ⟨i, h1, h2, h3⟩
  have hd := h (fun j => if j = c then 1 else if j < c then A j c else 0) (fun i hi => ?_) c hc
  · simp at hd
  · by_cases hic : i < c
    · unfold dotN
      rw [gsum_two k i c hi hc (by omega)]
      · simp only [if_true]
        rw [if_neg (by omega), if_pos hic, hu i i hi hic, if_pos rfl, gmul_one_left, gmul_one, gadd_self]
      · intro j hj h1 h2
        simp only
        rw [if_neg h2]
        by_cases hjc : j < c
        · rw [hu i j hi hjc, if_neg (fun e => h1 e.symm), gmul_zero_left]
        · rw [if_neg hjc, gmul_zero_right]
    · refine gsum_zero k _ fun j hj => ?_
      by_cases h2 : j = c
      · subst h2; rw [h0 i (by omega) hi, gmul_zero_left]
      · simp only [if_neg h2]
        by_cases hjc : j < c
        · rw [hu i j hi hjc, if_neg (by omega), gmul_zero_left]
        · rw [if_neg hjc, gmul_zero_right]

/-! Cauchy's rows -/
def lsum : List UInt8 → (UInt8 → UInt8) → UInt8
  | [], _ => 0
  | x :: l, f => gadd (f x) (lsum l f)
theorem lsum_congr {f g : UInt8 → UInt8} : ∀ (l : List UInt8), (∀ x ∈ l, f x = g x) → lsum l f = lsum l g
  | [], _ => rfl
  | x :: l, h => by unfold lsum; rw [h x (by simp), lsum_congr l (fun y hy => h y (by simp [hy]))]
theorem lsum_add (f g : UInt8 → UInt8) : ∀ (l : List UInt8), lsum l (fun j => gadd (f j) (g j)) = gadd (lsum l f) (lsum l g)
  | [] => (gadd_self 0).symm
  | x :: l => by unfold lsum; rw [lsum_add f g l, gadd_four]
theorem lsum_mul (c : UInt8) (f : UInt8 → UInt8) : ∀ (l : List UInt8), lsum l (fun j => gmul c (f j)) = gmul c (lsum l f)
  | [] => (gmul_zero_right c).symm
  | x :: l => by unfold lsum; rw [lsum_mul c f l, gmul_gadd]
theorem lsum_zero {f : UInt8 → UInt8} : ∀ (l : List UInt8), (∀ x ∈ l, f x = 0) → lsum l f = 0
  | [], _ => rfl
  | x :: l, h => by unfold lsum; rw [h x (by simp), lsum_zero l (fun y hy => h y (by simp [hy]))]; rfl
theorem gadd_eq_zero {a b : UInt8} (h : gadd a b = 0) : a = b := by
  have : gadd (gadd a b) b = b := by rw [h, zero_gadd]
  rw [gadd_assoc, gadd_self, gadd_zero] at this; exact this
theorem gadd_ne {a b : UInt8} (h : a ≠ b) : gadd a b ≠ 0 := fun e => h (gadd_eq_zero e)
theorem gmul_eq_zero {a b : UInt8} (h : gmul a b = 0) (ha : a ≠ 0) : b = 0 := Classical.byContradiction fun hb => gmul_ne ha hb h
theorem ginv_mul {a : UInt8} (h : a ≠ 0) : gmul (ginv a) a = 1 := by rw [gmul_comm]; exact gmul_inv h
/-- the sum of d over n + j -/
def cau (J : List UInt8) (d : UInt8 → UInt8) (n : UInt8) : UInt8 := lsum J fun j => gmul (d j) (ginv (gadd n j))
theorem cauchy_ind : ∀ (J I : List UInt8) (d : UInt8 → UInt8), J.length ≤ I.length → J.Nodup → I.Nodup → (∀ n ∈ I, ∀ j ∈ J, n ≠ j) → (∀ n ∈ I, cau J d n = 0) → ∀ j ∈ J, d j = 0
  | [], _, _, _, _, _, _, _ => by simp
  | s :: J, [], _, h, _, _, _, _ => by simp at h
  | s :: J, t :: I, d, hl, hJ, hI, hd, h => by
    have hJ' := List.nodup_cons.1 hJ
    have hI' := List.nodup_cons.1 hI
    have hts : gadd t s ≠ 0 := gadd_ne (hd t (by simp) s (by simp))
    have key : ∀ j ∈ J, gmul (d j) (gmul (gadd j s) (ginv (gadd t j))) = 0 := by
      refine cauchy_ind J I _ (by simp at hl; omega) hJ'.2 hI'.2 (fun n hn j hj => hd n (by simp [hn]) j (by simp [hj])) (fun n hn => ?_)
      have hnt : gadd n t ≠ 0 := gadd_ne (fun e => hI'.1 (e ▸ hn))
      -- what each row tells of the rest
      have row : ∀ n, (∀ j ∈ s :: J, n ≠ j) → cau (s :: J) d n = 0 → lsum J (fun j => gmul (gmul (d j) (gadd j s)) (ginv (gadd n j))) = lsum (s :: J) d := by
        intro n hns hn0
        have e1 : lsum (s :: J) (fun j => gmul (gmul (d j) (ginv (gadd n j))) (gadd n s)) = 0 := by
          have : (fun j => gmul (gmul (d j) (ginv (gadd n j))) (gadd n s)) = fun j => gmul (gadd n s) (gmul (d j) (ginv (gadd n j))) := funext fun j => gmul_comm _ _
          rw [this, lsum_mul]
          unfold cau at hn0
          rw [hn0, gmul_zero_right]
        have e2 : ∀ j ∈ s :: J, gmul (gmul (d j) (ginv (gadd n j))) (gadd n s) = gadd (d j) (gmul (gmul (d j) (gadd j s)) (ginv (gadd n j))) := by
          intro j hj
          have hne : gadd n j ≠ 0 := gadd_ne (hns j hj)
          have : gadd n s = gadd (gadd n j) (gadd j s) := by rw [gadd_assoc, ← gadd_assoc j j s, gadd_self, zero_gadd]
          rw [this, gmul_gadd, gmul_assoc, ginv_mul hne, gmul_one]
          congr 1
          rw [gmul_assoc, gmul_assoc, gmul_comm (ginv _)]
        rw [lsum_congr _ e2, lsum_add] at e1
        have e3 := gadd_eq_zero e1
        have e4 : lsum (s :: J) (fun j => gmul (gmul (d j) (gadd j s)) (ginv (gadd n j))) = lsum J (fun j => gmul (gmul (d j) (gadd j s)) (ginv (gadd n j))) := by
          conv => lhs; unfold lsum
          dsimp only
          rw [gadd_self, gmul_zero_right, gmul_zero_left, zero_gadd]
        rw [← e4]; exact e3.symm
      have r1 := row n (fun j hj => hd n (by simp [hn]) j hj) (h n (by simp [hn]))
      have r2 := row t (fun j hj => hd t (by simp) j hj) (h t (by simp))
      have r3 : lsum J (fun j => gmul (gadd n t) (gmul (gmul (d j) (gmul (gadd j s) (ginv (gadd t j)))) (ginv (gadd n j)))) = 0 := by
        have : ∀ j ∈ J, gmul (gadd n t) (gmul (gmul (d j) (gmul (gadd j s) (ginv (gadd t j)))) (ginv (gadd n j))) = gadd (gmul (gmul (d j) (gadd j s)) (ginv (gadd n j))) (gmul (gmul (d j) (gadd j s)) (ginv (gadd t j))) := by
          intro j hj
          have h1 : gadd n j ≠ 0 := gadd_ne (hd n (by simp [hn]) j (by simp [hj]))
          have h2 : gadd t j ≠ 0 := gadd_ne (hd t (by simp) j (by simp [hj]))
          have e : gadd n t = gadd (gadd n j) (gadd t j) := by rw [gadd_comm t j, gadd_assoc, ← gadd_assoc j j t, gadd_self, zero_gadd]
          have a1 : gmul (gadd n j) (gmul (ginv (gadd t j)) (ginv (gadd n j))) = ginv (gadd t j) := by rw [gmul_comm (ginv (gadd t j)), ← gmul_assoc, gmul_inv h1, gmul_one_left]
          have a2 : gmul (gadd t j) (gmul (ginv (gadd t j)) (ginv (gadd n j))) = ginv (gadd n j) := by rw [← gmul_assoc, gmul_inv h2, gmul_one_left]
          have b : gmul (gmul (d j) (gmul (gadd j s) (ginv (gadd t j)))) (ginv (gadd n j)) = gmul (gmul (d j) (gadd j s)) (gmul (ginv (gadd t j)) (ginv (gadd n j))) := by simp only [gmul_assoc]
          have c : ∀ (x y z u : UInt8), gmul x (gmul (gmul y z) u) = gmul (gmul y z) (gmul x u) := fun x y z u => by rw [← gmul_assoc, gmul_comm x, gmul_assoc]
          rw [b, e, gadd_gmul, c, c, a1, a2, gadd_comm]
        rw [lsum_congr _ this, lsum_add, r1, r2, gadd_self]
      rw [lsum_mul] at r3
      exact gmul_eq_zero r3 hnt
    have hJ0 : ∀ j ∈ J, d j = 0 := fun j hj => by
      have hne : gmul (gadd j s) (ginv (gadd t j)) ≠ 0 := gmul_ne (gadd_ne (fun e => hJ'.1 (e ▸ hj))) (ginv_ne (gadd_ne (hd t (by simp) j (by simp [hj]))))
      have := key j hj
      rw [gmul_comm] at this
      exact gmul_eq_zero this hne
    have hs0 : d s = 0 := by
      have h1 := h t (by simp)
      unfold cau lsum at h1
      rw [lsum_zero J (fun j hj => by rw [hJ0 j hj, gmul_zero_left]), gadd_zero] at h1
      dsimp only at h1
      rw [gmul_comm] at h1
      exact gmul_eq_zero h1 (ginv_ne hts)
    intro j hj
    rcases List.mem_cons.1 hj with rfl | hj
    · exact hs0
    · exact hJ0 j hj
end Go.Proofs.YtlgcclhepegggaaDoor
