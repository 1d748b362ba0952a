/- What stands while WireWrites runs: two writers, two lists. -/
import Derived.Test.YtkhccchjflmcmaaDoorWireW
import Derived.Test.YtkhccchjflmcmaaDoorRegDirt
set_option linter.unusedVariables false
namespace Go.Proofs.YtkhccchjflmcmaaDoor
open Go.RowKit

/-- blocks that lie apart -/
def Apt (n : Nat) (c : Nat → List Nat) (lo hi : Nat) : Prop := (∀ i j, i < n → j < n → i ≠ j → ∀ x ∈ c i, x ∉ c j) ∧ ∀ i, i < n → ∀ x ∈ c i, lo ≤ x ∧ x < hi
theorem Apt.grow {n : Nat} {c : Nat → List Nat} {lo hi hi' : Nat} (h : Apt n c lo hi) (hh : hi ≤ hi') : Apt n c lo hi' := ⟨h.1, fun i hi2 x hx => ⟨(h.2 i hi2 x hx).1, by have := (h.2 i hi2 x hx).2; omega⟩⟩
theorem Apt.step {n : Nat} {c : Nat → List Nat} {lo hi hi' k : Nat} {X : List Nat} (h : Apt n c lo hi) (hh : hi ≤ hi') (hX : ∀ x ∈ X, x ∈ c k ∨ hi ≤ x) (hl : ∀ x ∈ X, x < hi') (hk : k < n) (hlo : lo ≤ hi) : Apt n (fun i => if i = k then X else c i) lo hi' := by
  have hsep : ∀ x ∈ X, ∀ j, j < n → j ≠ k → x ∉ c j := by
    intro x hx j hj hjk hm
    rcases hX x hx with h1 | h1
    · exact h.1 k j hk hj (fun e => hjk e.symm) x h1 hm
    · have := (h.2 j hj x hm).2; omega
  refine ⟨fun i j hi2 hj hij x hx => ?_, fun i hi2 x hx => ?_⟩
  · by_cases e : i = k
    · by_cases e2 : j = k
      · omega
      · simp only [if_pos e] at hx
        simp only [if_neg e2]
        exact hsep x hx j hj e2
    · simp only [if_neg e] at hx
      by_cases e2 : j = k
      · simp only [if_pos e2]
        exact fun hm => hsep x hm i hi2 e hx
      · simp only [if_neg e2]
        exact h.1 i j hi2 hj hij x hx
  · by_cases e : i = k
    · simp only [if_pos e] at hx
      refine ⟨?_, hl x hx⟩
      rcases hX x hx with h1 | h1
      · exact (h.2 k hk x h1).1
      · omega
    · simp only [if_neg e] at hx
      have := h.2 i hi2 x hx
      exact ⟨this.1, by omega⟩

/-- the slices that the array of lists holds -/
def slV (q : Nat → Option Addr) (m c : Nat → Nat) (k : Nat) : Value := .slice (q k) (m k) (c k)

/-- the writers (blocks d 0, d 1), the lists (d 2, d 3), the arrays g (pointers), g + 1 (slices), g + 2 (flags) -/
structure WS (w0 w : World) (g : Nat) (d : Nat → List Nat) (B : Nat → Nat) (y1 y2 : Nat → List UInt8) (sp sq : Nat → Bool) (q : Nat → Option Addr) (m c : Nat → Nat) (ps : Option Addr) (V : List Value) : Prop where
  wr : ∀ k, k < 2 → Wr w (d k) (B k) (y1 k) (sp k)
  own : ∀ k, k < 2 → Own w w0.heap.size 5 (.slice (q k) (m k) (c k)) (u8s (y2 k)) ∧ blk (q k) = d (2 + k)
  r0 : Row w g 34 [.pointer (some ⟨B 0, 0, none⟩), .pointer (some ⟨B 1, 0, none⟩)]
  r1 : Row w (g + 1) 35 [slV q m c 0, slV q m c 1]
  r2 : Row w (g + 2) 36 [.bool (sq 0), .bool (sq 1)]
  d4 : d 4 = [g] ∧ d 5 = [g + 1] ∧ d 6 = [g + 2]
  sc : Rd w ps V ∧ blk ps = d 7
  apt : Apt 8 d w0.heap.size w.heap.size
  only : Only [] w0 w

section
variable {w0 w w' : World} {g : Nat} {d : Nat → List Nat} {B : Nat → Nat} {y1 y2 : Nat → List UInt8} {sp sq : Nat → Bool} {q : Nat → Option Addr} {m c : Nat → Nat} {ps : Option Addr} {V : List Value}
theorem WS.g0 (h : WS w0 w g d B y1 y2 sp sq q m c ps V) : w0.heap.size ≤ g ∧ g + 2 < w.heap.size := ⟨(h.apt.2 4 (by omega) g (by rw [h.d4.1]; simp)).1, h.r2.lt⟩
theorem WS.sep (h : WS w0 w g d B y1 y2 sp sq q m c ps V) {i : Nat} (hi : i < 4) {x : Nat} (hx : x ∈ d i) : x ≠ g ∧ x ≠ g + 1 ∧ x ≠ g + 2 ∧ w0.heap.size ≤ x ∧ x < w.heap.size := by
  have h4 := h.apt.1 i 4 (by omega) (by omega) (by omega) x hx
  have h5 := h.apt.1 i 5 (by omega) (by omega) (by omega) x hx
  have h6 := h.apt.1 i 6 (by omega) (by omega) (by omega) x hx
  rw [h.d4.1] at h4; rw [h.d4.2.1] at h5; rw [h.d4.2.2] at h6
  have := h.apt.2 i (by omega) x hx
  simp at h4 h5 h6
  exact ⟨h4, h5, h6, this.1, this.2⟩
theorem WS.scBlk (h : WS w0 w g d B y1 y2 sp sq q m c ps V) {i : Nat} (hi : i < 7) {a : Addr} (ha : ps = some a) : a.block ∉ d i := by
  have : a.block ∈ d 7 := by rw [← h.sc.2, ha]; simp [blk]
  exact h.apt.1 7 i (by omega) (by omega) (by omega) _ this
theorem WS.scG (h : WS w0 w g d B y1 y2 sp sq q m c ps V) {a : Addr} (ha : ps = some a) : a.block ≠ g ∧ a.block ≠ g + 1 ∧ a.block ≠ g + 2 := by
  have h4 := h.scBlk (i := 4) (by omega) ha
  have h5 := h.scBlk (i := 5) (by omega) ha
  have h6 := h.scBlk (i := 6) (by omega) ha
  rw [h.d4.1] at h4; rw [h.d4.2.1] at h5; rw [h.d4.2.2] at h6
  simp at h4 h5 h6
  exact ⟨h4, h5, h6⟩
/-- nothing of it has turned -/
theorem WS.keep {S : List Nat} (h : WS w0 w g d B y1 y2 sp sq q m c ps V) (ho : Only S w w') (hS : ∀ x ∈ S, w0.heap.size ≤ x ∧ x ≠ g ∧ x ≠ g + 1 ∧ x ≠ g + 2 ∧ (∀ i, i < 4 → x ∉ d i) ∧ x ∉ d 7) : WS w0 w' g d B y1 y2 sp sq q m c ps V where
  wr := fun k hk => (h.wr k hk).only ho (fun x hx hm => (hS x hm).2.2.2.2.1 k (by omega) hx)
  own := fun k hk => ⟨(h.own k hk).1.only ho (fun x hx hm => (hS x hm).2.2.2.2.1 (2 + k) (by omega) (by rw [← (h.own k hk).2]; cases hq : q k <;> rw [hq] at hx <;> simp [Value.ownBlock, blk] at hx ⊢; exact hx.symm)), (h.own k hk).2⟩
  r0 := h.r0.only ho (fun hm => (hS _ hm).2.1 rfl)
  r1 := h.r1.only ho (fun hm => (hS _ hm).2.2.1 rfl)
  r2 := h.r2.only ho (fun hm => (hS _ hm).2.2.2.1 rfl)
  d4 := h.d4
  sc := ⟨h.sc.1.only ho (fun a ha hm => (hS _ hm).2.2.2.2.2 (by rw [← h.sc.2, ha]; simp [blk])), h.sc.2⟩
  apt := h.apt.grow ho.size
  only := h.only.transN ho (fun x hx => (hS x hx).1)
theorem WS.only0 (h : WS w0 w g d B y1 y2 sp sq q m c ps V) (ho : Only [] w w') : WS w0 w' g d B y1 y2 sp sq q m c ps V := h.keep ho (by simp)
/-- what is new lies apart -/
theorem WS.keepN {S : List Nat} (h : WS w0 w g d B y1 y2 sp sq q m c ps V) (ho : Only S w w') (hS : ∀ x ∈ S, w.heap.size ≤ x) : WS w0 w' g d B y1 y2 sp sq q m c ps V := h.only0 (ho.drop hS)
/-- a writer has turned -/
theorem WS.write (h : WS w0 w g d B y1 y2 sp sq q m c ps V) {k : Nat} (hk : k < 2) {F' : List Nat} {ys : List UInt8} {s : Bool} (ho : Only (d k) w w') (h1 : Wr w' F' (B k) ys s) (hF : ∀ x ∈ F', x ∈ d k ∨ w.heap.size ≤ x) :
    WS w0 w' g (fun i => if i = k then F' else d i) B (fun i => if i = k then ys else y1 i) y2 (fun i => if i = k then s else sp i) sq q m c ps V where
  wr := fun i hi => by
    by_cases e : i = k
    · subst e; simp only [if_true]; exact h1
    · simp only [if_neg e]
      exact (h.wr i hi).only ho (fun x hx hm => h.apt.1 i k (by omega) (by omega) e x hx hm)
  own := fun i hi => by
    simp only [if_neg (show 2 + i ≠ k by omega)]
    refine ⟨(h.own i hi).1.only ho (fun x hx hm => h.apt.1 (2 + i) k (by omega) (by omega) (by omega) x ?_ hm), (h.own i hi).2⟩
    rw [← (h.own i hi).2]; cases hq : q i <;> rw [hq] at hx <;> simp [Value.ownBlock, blk] at hx ⊢; exact hx.symm
  r0 := h.r0.only ho (fun hm => (h.sep (by omega) hm).1 rfl)
  r1 := h.r1.only ho (fun hm => (h.sep (by omega) hm).2.1 rfl)
  r2 := h.r2.only ho (fun hm => (h.sep (by omega) hm).2.2.1 rfl)
  d4 := by simp only [if_neg (show 4 ≠ k by omega), if_neg (show 5 ≠ k by omega), if_neg (show 6 ≠ k by omega)]; exact h.d4
  sc := by simp only [if_neg (show 7 ≠ k by omega)]; exact ⟨h.sc.1.only ho (fun a ha => h.scBlk (by omega) ha), h.sc.2⟩
  apt := h.apt.step ho.size hF h1.lt (by omega) h.only.size
  only := h.only.transN ho (fun x hx => (h.apt.2 k (by omega) x hx).1)
/-- a list has turned -/
theorem WS.put (h : WS w0 w g d B y1 y2 sp sq q m c ps V) {k : Nat} (hk : k < 2) {q' : Option Addr} {m' c' : Nat} {ys : List UInt8} (ho : Only ((g + 1) :: d (2 + k)) w w')
    (hr : Row w' (g + 1) 35 [slV (fun i => if i = k then q' else q i) (fun i => if i = k then m' else m i) (fun i => if i = k then c' else c i) 0, slV (fun i => if i = k then q' else q i) (fun i => if i = k then m' else m i) (fun i => if i = k then c' else c i) 1])
    (h1 : Own w' w0.heap.size 5 (.slice q' m' c') (u8s ys)) (hF : ∀ x ∈ blk q', x ∈ d (2 + k) ∨ w.heap.size ≤ x) :
    WS w0 w' g (fun i => if i = 2 + k then blk q' else d i) B y1 (fun i => if i = k then ys else y2 i) sp sq (fun i => if i = k then q' else q i) (fun i => if i = k then m' else m i) (fun i => if i = k then c' else c i) ps V where
  wr := fun i hi => by
    simp only [if_neg (show i ≠ 2 + k by omega)]
    refine (h.wr i hi).only ho (fun x hx hm => ?_)
    rcases List.mem_cons.1 hm with e | hm
    · exact (h.sep (by omega) hx).2.1 e
    · exact h.apt.1 i (2 + k) (by omega) (by omega) (by omega) x hx hm
  own := fun i hi => by
    by_cases e : i = k
    · subst e; simp only [if_true]; exact ⟨h1, trivial⟩
    · simp only [if_neg e, if_neg (show 2 + i ≠ 2 + k by omega)]
      have hb : ∀ x, (Value.slice (q i) (m i) (c i)).ownBlock = some x → x ∈ d (2 + i) := fun x hx => by
        rw [← (h.own i hi).2]; cases hq : q i <;> rw [hq] at hx <;> simp [Value.ownBlock, blk] at hx ⊢; exact hx.symm
      refine ⟨(h.own i hi).1.only ho (fun x hx hm => ?_), (h.own i hi).2⟩
      rcases List.mem_cons.1 hm with e2 | hm
      · exact (h.sep (by omega) (hb x hx)).2.1 e2
      · exact h.apt.1 (2 + i) (2 + k) (by omega) (by omega) (by omega) x (hb x hx) hm
  r0 := h.r0.only ho (fun hm => by
    rcases List.mem_cons.1 hm with e | hm
    · omega
    · exact (h.sep (by omega) hm).1 rfl)
  r1 := hr
  r2 := h.r2.only ho (fun hm => by
    rcases List.mem_cons.1 hm with e | hm
    · omega
    · exact (h.sep (by omega) hm).2.2.1 rfl)
  d4 := by simp only [if_neg (show 4 ≠ 2 + k by omega), if_neg (show 5 ≠ 2 + k by omega), if_neg (show 6 ≠ 2 + k by omega)]; exact h.d4
  sc := by
    simp only [if_neg (show 7 ≠ 2 + k by omega)]
    refine ⟨h.sc.1.only ho (fun a ha hm => ?_), h.sc.2⟩
    rcases List.mem_cons.1 hm with e | hm
    · exact (h.scG ha).2.1 e
    · exact h.scBlk (by omega) ha hm
  apt := h.apt.step ho.size hF (fun x hx => (blk_own h1 x hx).2) (by omega) h.only.size
  only := h.only.transN ho (fun x hx => by
    rcases List.mem_cons.1 hx with e | hx
    · have := h.g0; omega
    · exact (h.apt.2 (2 + k) (by omega) x hx).1)
/-- a flag has turned -/
theorem WS.flag (h : WS w0 w g d B y1 y2 sp sq q m c ps V) {k : Nat} (hk : k < 2) {s : Bool} (ho : Only [g + 2] w w') (hr : Row w' (g + 2) 36 [.bool (if 0 = k then s else sq 0), .bool (if 1 = k then s else sq 1)]) :
    WS w0 w' g d B y1 y2 sp (fun i => if i = k then s else sq i) q m c ps V where
  wr := fun i hi => (h.wr i hi).only ho (fun x hx hm => (h.sep (by omega) hx).2.2.1 (by simpa using hm))
  own := fun i hi => by
    have hb : ∀ x, (Value.slice (q i) (m i) (c i)).ownBlock = some x → x ∈ d (2 + i) := fun x hx => by
      rw [← (h.own i hi).2]; cases hq : q i <;> rw [hq] at hx <;> simp [Value.ownBlock, blk] at hx ⊢; exact hx.symm
    exact ⟨(h.own i hi).1.only ho (fun x hx hm => (h.sep (by omega) (hb x hx)).2.2.1 (by simpa using hm)), (h.own i hi).2⟩
  r0 := h.r0.only ho (by simp)
  r1 := h.r1.only ho (by simp)
  r2 := hr
  d4 := h.d4
  sc := ⟨h.sc.1.only ho (fun a ha hm => (h.scG ha).2.2 (by simpa using hm)), h.sc.2⟩
  apt := h.apt.grow ho.size
  only := h.only.transN ho (fun x hx => by have := h.g0; simp at hx; omega)
/-- the script laid -/
theorem WS.script (h : WS w0 w g d B y1 y2 sp sq q m c none []) (ho : Only [] w w') (h1 : Rd w' ps V) (hb : ∀ x ∈ blk ps, w.heap.size ≤ x ∧ x < w'.heap.size) : WS w0 w' g (fun i => if i = 7 then blk ps else d i) B y1 y2 sp sq q m c ps V where
  wr := fun k hk => by simp only [if_neg (show k ≠ 7 by omega)]; exact (h.wr k hk).only0 ho
  own := fun k hk => by simp only [if_neg (show 2 + k ≠ 7 by omega)]; exact ⟨(h.own k hk).1.only0 ho, (h.own k hk).2⟩
  r0 := h.r0.only0 ho
  r1 := h.r1.only0 ho
  r2 := h.r2.only0 ho
  d4 := by simp only [if_neg (show 4 ≠ 7 by omega), if_neg (show 5 ≠ 7 by omega), if_neg (show 6 ≠ 7 by omega)]; exact h.d4
  sc := ⟨h1, by simp⟩
  apt := h.apt.step ho.size (fun x hx => .inr (hb x hx).1) (fun x hx => (hb x hx).2) (by omega) h.only.size
  only := h.only.trans0 ho
/-- what put makes of a list: its new slice -/
def PutB (w0 : World) (D : List Nat) (hi m : Nat) (ys : List UInt8) : Value → World → Prop := fun v w => ∃ q' c', v = .slice q' m c' ∧ Own w w0.heap.size 5 (.slice q' m c') (u8s ys) ∧ ∀ x ∈ blk q', x ∈ D ∨ hi ≤ x
theorem PutB.stable {D S : List Nat} {hi m : Nat} {ys : List UInt8} (hS : ∀ x ∈ S, x ∉ D ∧ x < hi) : Stable (Only S) (PutB w0 D hi m ys) := fun v w w' ⟨q', c', h1, h2, h3⟩ ho =>
  ⟨q', c', h1, h2.only ho (fun x hx hm => by
    have hb : x ∈ blk q' := by cases q' <;> simp [Value.ownBlock, blk] at hx ⊢; exact hx.symm
    have := hS x hm
    rcases h3 x hb with h | h
    · exact this.1 h
    · omega), h3⟩
theorem flag_set (f : Nat → Bool) (k : Nat) (hk : k < 2) (s : Bool) : [Value.bool (f 0), Value.bool (f 1)].set k (.bool s) = [.bool (if 0 = k then s else f 0), .bool (if 1 = k then s else f 1)] := by
  match k, hk with
  | 0, _ => rfl
  | 1, _ => rfl
theorem slv_set (q : Nat → Option Addr) (m c : Nat → Nat) (k : Nat) (hk : k < 2) (q' : Option Addr) (m' c' : Nat) : [slV q m c 0, slV q m c 1].set k (.slice q' m' c') = [slV (fun i => if i = k then q' else q i) (fun i => if i = k then m' else m i) (fun i => if i = k then c' else c i) 0, slV (fun i => if i = k then q' else q i) (fun i => if i = k then m' else m i) (fun i => if i = k then c' else c i) 1] := by
  match k, hk with
  | 0, _ => rfl
  | 1, _ => rfl
/-- a list put back -/
def PutZ (w0 : World) (g : Nat) (D : List Nat) (hi k m' : Nat) (q : Nat → Option Addr) (m c : Nat → Nat) (ys : List UInt8) : Value → World → Prop := fun _ a => ∃ q' c', Row a (g + 1) 35 [slV (fun i => if i = k then q' else q i) (fun i => if i = k then m' else m i) (fun i => if i = k then c' else c i) 0, slV (fun i => if i = k then q' else q i) (fun i => if i = k then m' else m i) (fun i => if i = k then c' else c i) 1] ∧ Own a w0.heap.size 5 (.slice q' m' c') (u8s ys) ∧ ∀ x ∈ blk q', x ∈ D ∨ hi ≤ x
theorem PutZ.stable0 {D : List Nat} {hi k m' : Nat} {ys : List UInt8} : Stable (Only []) (PutZ w0 g D hi k m' q m c ys) := fun v w w' ⟨q', c', h1, h2, h3⟩ ho => ⟨q', c', h1.only0 ho, h2.only0 ho, h3⟩
end
end Go.Proofs.YtkhccchjflmcmaaDoor
