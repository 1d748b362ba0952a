/- What stands while ShaPlays runs: two hashes, two lists. -/
import Derived.Test.YtmddehbfimpjdaaHashAtW
import Derived.Test.YtmddehbfimpjdaaActs03
set_option linter.unusedVariables false
namespace Go.Proofs.Ytmddehbfimpjdaa
open Go.RowKit

theorem blk_own {w : World} {base n c : Nat} {e : TypeId} {p : Option Addr} {vs : List Value} (o : Own w base e (.slice p n c) vs) : ∀ k ∈ blk p, base ≤ k ∧ k < w.heap.size := by
  intro k hk
  cases p with
  | none => cases hk
  | some a => simp [blk] at hk; subst hk; exact o.lt _ rfl
/-- blocks that lie apart -/
def Apt (n : Nat) (c : Nat → List Nat) (lo hi : Nat) : Prop := (∀ i j, i < n → j < n → i ≠ j → ∀ x ∈ c i, x ∉ c j) ∧ ∀ i, i < n → ∀ x ∈ c i, lo ≤ x ∧ x < hi
theorem Apt.grow {n : Nat} {c : Nat → List Nat} {lo hi hi' : Nat} (h : Apt n c lo hi) (hh : hi ≤ hi') : Apt n c lo hi' := ⟨h.1, fun i hi2 x hx => ⟨(h.2 i hi2 x hx).1, by have := (h.2 i hi2 x hx).2; omega⟩⟩
theorem Apt.step {n : Nat} {c : Nat → List Nat} {lo hi hi' k : Nat} {X : List Nat} (h : Apt n c lo hi) (hh : hi ≤ hi') (hX : ∀ x ∈ X, x ∈ c k ∨ hi ≤ x) (hl : ∀ x ∈ X, x < hi') (hk : k < n) (hlo : lo ≤ hi) : Apt n (fun i => if i = k then X else c i) lo hi' := by
  have hsep : ∀ x ∈ X, ∀ j, j < n → j ≠ k → x ∉ c j := by
    intro x hx j hj hjk hm
    rcases hX x hx with h1 | h1
    · exact h.1 k j hk hj (fun e => hjk e.symm) x h1 hm
    · have := (h.2 j hj x hm).2; omega
  refine ⟨fun i j hi2 hj hij x hx => ?_, fun i hi2 x hx => ?_⟩
  · by_cases e : i = k
    · by_cases e2 : j = k
      · omega
      · simp only [if_pos e] at hx
        simp only [if_neg e2]
        exact hsep x hx j hj e2
    · simp only [if_neg e] at hx
      by_cases e2 : j = k
      · simp only [if_pos e2]
        exact fun hm => hsep x hm i hi2 e hx
      · simp only [if_neg e2]
        exact h.1 i j hi2 hj hij x hx
  · by_cases e : i = k
    · simp only [if_pos e] at hx
      refine ⟨?_, hl x hx⟩
      rcases hX x hx with h1 | h1
      · exact (h.2 k hk x h1).1
      · omega
    · simp only [if_neg e] at hx
      have := h.2 i hi2 x hx
      exact ⟨this.1, by omega⟩

/-- the slices that the array of lists holds -/
def slV (q : Nat → Option Addr) (m c : Nat → Nat) (k : Nat) : Value := .slice (q k) (m k) (c k)

theorem slv_set (q : Nat → Option Addr) (m c : Nat → Nat) (k : Nat) (hk : k < 2) (q' : Option Addr) (m' c' : Nat) : [slV q m c 0, slV q m c 1].set k (.slice q' m' c') = [slV (fun i => if i = k then q' else q i) (fun i => if i = k then m' else m i) (fun i => if i = k then c' else c i) 0, slV (fun i => if i = k then q' else q i) (fun i => if i = k then m' else m i) (fun i => if i = k then c' else c i) 1] := by
  match k, hk with
  | 0, _ => rfl
  | 1, _ => rfl

/-- the hashes (blocks d 0, d 1), the lists (d 2, d 3), the arrays g (pointers), g + 1 (slices), the script (d 6) -/
structure PS (w0 w : World) (g : Nat) (d : Nat → List Nat) (B : Nat → Nat) (ys : Nat → List UInt8) (q : Nat → Option Addr) (m c : Nat → Nat) (ps : Option Addr) (V : List Value) : Prop where
  hs : ∀ k, k < 2 → Hs w (d k) (B k) (ys k)
  own : ∀ k, k < 2 → Own w w0.heap.size 5 (.slice (q k) (m k) (c k)) (u8s (ys k)) ∧ blk (q k) = d (2 + k)
  r0 : Row w g 34 [.pointer (some ⟨B 0, 0, none⟩), .pointer (some ⟨B 1, 0, none⟩)]
  r1 : Row w (g + 1) 35 [slV q m c 0, slV q m c 1]
  d4 : d 4 = [g] ∧ d 5 = [g + 1]
  sc : Rd w ps V ∧ blk ps = d 6
  apt : Apt 7 d w0.heap.size w.heap.size
  only : Only [] w0 w

section
variable {w0 w w' : World} {g : Nat} {d : Nat → List Nat} {B : Nat → Nat} {ys : Nat → List UInt8} {q : Nat → Option Addr} {m c : Nat → Nat} {ps : Option Addr} {V : List Value}
theorem PS.g0 (h : PS w0 w g d B ys q m c ps V) : w0.heap.size ≤ g ∧ g + 1 < w.heap.size := ⟨(h.apt.2 4 (by omega) g (by rw [h.d4.1]; simp)).1, h.r1.lt⟩
theorem PS.sep (h : PS w0 w g d B ys q m c ps V) {i : Nat} (hi : i < 4) {x : Nat} (hx : x ∈ d i) : x ≠ g ∧ x ≠ g + 1 ∧ w0.heap.size ≤ x ∧ x < w.heap.size := by
  have h4 := h.apt.1 i 4 (by omega) (by omega) (by omega) x hx
  have h5 := h.apt.1 i 5 (by omega) (by omega) (by omega) x hx
  rw [h.d4.1] at h4; rw [h.d4.2] at h5
  have := h.apt.2 i (by omega) x hx
  simp at h4 h5
  exact ⟨h4, h5, this.1, this.2⟩
theorem PS.scBlk (h : PS w0 w g d B ys q m c ps V) {i : Nat} (hi : i < 6) {a : Addr} (ha : ps = some a) : a.block ∉ d i := by
  have : a.block ∈ d 6 := by rw [← h.sc.2, ha]; simp [blk]
  exact h.apt.1 6 i (by omega) (by omega) (by omega) _ this
theorem PS.scG (h : PS w0 w g d B ys q m c ps V) {a : Addr} (ha : ps = some a) : a.block ≠ g ∧ a.block ≠ g + 1 := by
  have h4 := h.scBlk (i := 4) (by omega) ha
  have h5 := h.scBlk (i := 5) (by omega) ha
  rw [h.d4.1] at h4; rw [h.d4.2] at h5
  simp at h4 h5
  exact ⟨h4, h5⟩
theorem PS.ownB (h : PS w0 w g d B ys q m c ps V) {k : Nat} (hk : k < 2) : ∀ x, (Value.slice (q k) (m k) (c k)).ownBlock = some x → x ∈ d (2 + k) := fun x hx => by
  rw [← (h.own k hk).2]; cases hq : q k <;> rw [hq] at hx <;> simp [Value.ownBlock, blk] at hx ⊢; exact hx.symm
/-- nothing of it has turned -/
theorem PS.keep {S : List Nat} (h : PS w0 w g d B ys q m c ps V) (ho : Only S w w') (hS : ∀ x ∈ S, w0.heap.size ≤ x ∧ x ≠ g ∧ x ≠ g + 1 ∧ (∀ i, i < 4 → x ∉ d i) ∧ x ∉ d 6) : PS w0 w' g d B ys q m c ps V where
  hs := fun k hk => (h.hs k hk).only ho (fun x hx hm => (hS x hm).2.2.2.1 k (by omega) hx)
  own := fun k hk => ⟨(h.own k hk).1.only ho (fun x hx hm => (hS x hm).2.2.2.1 (2 + k) (by omega) (h.ownB hk x hx)), (h.own k hk).2⟩
  r0 := h.r0.only ho (fun hm => (hS _ hm).2.1 rfl)
  r1 := h.r1.only ho (fun hm => (hS _ hm).2.2.1 rfl)
  d4 := h.d4
  sc := ⟨h.sc.1.only ho (fun a ha hm => (hS _ hm).2.2.2.2 (by rw [← h.sc.2, ha]; simp [blk])), h.sc.2⟩
  apt := h.apt.grow ho.size
  only := h.only.transN ho (fun x hx => (hS x hx).1)
theorem PS.only0 (h : PS w0 w g d B ys q m c ps V) (ho : Only [] w w') : PS w0 w' g d B ys q m c ps V := h.keep ho (by simp)
/-- a hash has turned, and its list -/
theorem PS.write {w1 : World} (h : PS w0 w g d B ys q m c ps V) {k : Nat} (hk : k < 2) {F' : List Nat} {zs : List UInt8} {q' : Option Addr} {m' c' : Nat} (ho1 : Only (d k) w w1) (h1 : Hs w1 F' (B k) zs) (hF : ∀ x ∈ F', x ∈ d k ∨ w.heap.size ≤ x)
    (ho2 : Only ((g + 1) :: d (2 + k)) w1 w')
    (hr : Row w' (g + 1) 35 [slV (fun i => if i = k then q' else q i) (fun i => if i = k then m' else m i) (fun i => if i = k then c' else c i) 0, slV (fun i => if i = k then q' else q i) (fun i => if i = k then m' else m i) (fun i => if i = k then c' else c i) 1])
    (h2 : Own w' w0.heap.size 5 (.slice q' m' c') (u8s zs)) (hG : ∀ x ∈ blk q', x ∈ d (2 + k) ∨ w1.heap.size ≤ x) :
    PS w0 w' g (fun i => if i = k then F' else if i = 2 + k then blk q' else d i) B (fun i => if i = k then zs else ys i) (fun i => if i = k then q' else q i) (fun i => if i = k then m' else m i) (fun i => if i = k then c' else c i) ps V where
  hs := fun i hi => by
    simp only [if_neg (show i ≠ 2 + k by omega)]
    by_cases e : i = k
    · subst e; simp only [if_true]
      refine h1.only ho2 (fun x hx hm => ?_)
      have h3 := h.g0
      rcases List.mem_cons.1 hm with e | hm
      · rcases hF x hx with h4 | h4
        · exact (h.sep (by omega) h4).2.1 e
        · omega
      · rcases hF x hx with h4 | h4
        · exact h.apt.1 i (2 + i) (by omega) (by omega) (by omega) x h4 hm
        · have := (h.sep (by omega) hm).2.2.2; omega
    · simp only [if_neg e]
      refine ((h.hs i hi).only ho1 (fun x hx hm => h.apt.1 i k (by omega) (by omega) e x hx hm)).only ho2 (fun x hx hm => ?_)
      rcases List.mem_cons.1 hm with e2 | hm
      · exact (h.sep (by omega) hx).2.1 e2
      · exact h.apt.1 i (2 + k) (by omega) (by omega) (by omega) x hx hm
  own := fun i hi => by
    simp only [if_neg (show 2 + i ≠ k by omega)]
    by_cases e : i = k
    · subst e; simp only [if_true]; exact ⟨h2, trivial⟩
    · simp only [if_neg e, if_neg (show 2 + i ≠ 2 + k by omega)]
      refine ⟨((h.own i hi).1.only ho1 (fun x hx hm => h.apt.1 (2 + i) k (by omega) (by omega) (by omega) x (h.ownB hi x hx) hm)).only ho2 (fun x hx hm => ?_), (h.own i hi).2⟩
      rcases List.mem_cons.1 hm with e2 | hm
      · exact (h.sep (by omega) (h.ownB hi x hx)).2.1 e2
      · exact h.apt.1 (2 + i) (2 + k) (by omega) (by omega) (by omega) x (h.ownB hi x hx) hm
  r0 := (h.r0.only ho1 (fun hm => (h.sep (by omega) hm).1 rfl)).only ho2 (fun hm => by
    rcases List.mem_cons.1 hm with e | hm
    · omega
    · exact (h.sep (by omega) hm).1 rfl)
  r1 := hr
  d4 := by simp only [if_neg (show 4 ≠ k by omega), if_neg (show 5 ≠ k by omega), if_neg (show 4 ≠ 2 + k by omega), if_neg (show 5 ≠ 2 + k by omega)]; exact h.d4
  sc := by
    simp only [if_neg (show 6 ≠ k by omega), if_neg (show 6 ≠ 2 + k by omega)]
    refine ⟨(h.sc.1.only ho1 (fun a ha => h.scBlk (by omega) ha)).only ho2 (fun a ha hm => ?_), h.sc.2⟩
    rcases List.mem_cons.1 hm with e | hm
    · exact (h.scG ha).2 e
    · exact h.scBlk (by omega) ha hm
  apt := by
    have a1 := h.apt.step (k := 2 + k) (X := blk q') (hi' := w'.heap.size) (Nat.le_trans ho1.size ho2.size) (fun x hx => (hG x hx).imp id (fun h4 => Nat.le_trans ho1.size h4)) (fun x hx => (blk_own h2 x hx).2) (by omega) h.only.size
    refine ⟨fun i j hi hj hij x hx hm => ?_, fun i hi x hx => ?_⟩
    · have hq : ∀ x ∈ blk q', x ∈ d (2 + k) ∨ w1.heap.size ≤ x := hG
      by_cases e : i = k
      · subst e
        simp only [if_true] at hx
        simp only [if_neg (fun e => hij e.symm : ¬ j = i)] at hm
        rcases hF x hx with h4 | h4
        · refine a1.1 i j hi hj hij x ?_ hm
          simp only [if_neg (show i ≠ 2 + i by omega)]; exact h4
        · by_cases e2 : j = 2 + i
          · simp only [if_pos e2] at hm
            rcases hG x hm with h5 | h5
            · have := (h.sep (by omega) h5).2.2.2; omega
            · have := h1.lt x hx; omega
          · simp only [if_neg e2] at hm
            have := (h.apt.2 j hj x hm).2; omega
      · simp only [if_neg e] at hx
        by_cases e2 : j = k
        · subst e2
          simp only [if_true] at hm
          rcases hF x hm with h4 | h4
          · refine a1.1 i j hi hj hij x hx ?_
            simp only [if_neg (show j ≠ 2 + j by omega)]; exact h4
          · by_cases e3 : i = 2 + j
            · simp only [if_pos e3] at hx
              rcases hG x hx with h5 | h5
              · have := (h.sep (by omega) h5).2.2.2; omega
              · have := h1.lt x hm; omega
            · simp only [if_neg e3] at hx
              have := (h.apt.2 i hi x hx).2; omega
        · simp only [if_neg e2] at hm
          exact a1.1 i j hi hj hij x hx hm
    · by_cases e : i = k
      · subst e
        simp only [if_true] at hx
        have h5 := h1.lt x hx
        have h6 := ho2.size
        refine ⟨?_, by omega⟩
        rcases hF x hx with h4 | h4
        · exact (h.sep (by omega) h4).2.2.1
        · have := h.only.size; omega
      · simp only [if_neg e] at hx
        exact a1.2 i hi x hx
  only := (h.only.transN ho1 (fun x hx => (h.apt.2 k (by omega) x hx).1)).transN ho2 (fun x hx => by
    rcases List.mem_cons.1 hx with e | hx
    · have := h.g0; omega
    · exact (h.apt.2 (2 + k) (by omega) x hx).1)
/-- the script laid -/
theorem PS.script (h : PS w0 w g d B ys q m c none []) (ho : Only [] w w') (h1 : Rd w' ps V) (hb : ∀ x ∈ blk ps, w.heap.size ≤ x ∧ x < w'.heap.size) : PS w0 w' g (fun i => if i = 6 then blk ps else d i) B ys q m c ps V where
  hs := fun k hk => by simp only [if_neg (show k ≠ 6 by omega)]; exact (h.hs k hk).only ho (by simp)
  own := fun k hk => by simp only [if_neg (show 2 + k ≠ 6 by omega)]; exact ⟨(h.own k hk).1.only0 ho, (h.own k hk).2⟩
  r0 := h.r0.only0 ho
  r1 := h.r1.only0 ho
  d4 := by simp only [if_neg (show 4 ≠ 6 by omega), if_neg (show 5 ≠ 6 by omega)]; exact h.d4
  sc := ⟨h1, by simp⟩
  apt := h.apt.step ho.size (fun x hx => .inr (hb x hx).1) (fun x hx => (hb x hx).2) (by omega) h.only.size
  only := h.only.trans0 ho
end
end Go.Proofs.Ytmddehbfimpjdaa
