/- EndsPk, part 6: Range. -/
import Derived.Test.YtfeglnpmpgipiaaEndsPk01
import Derived.RangeFuncNested
import Derived.RangeFuncBound
import Derived.RangeFuncCalls
import Derived.RangeFuncLeaves
import Derived.TacticsInMore
import Derived.OwnWalkIn
import Derived.LoopNIn
import Derived.LoopIn
import Derived.Shelf.Abstract
set_option linter.unusedVariables false
set_option maxRecDepth 100000
section
set_option linter.unusedVariables false
set_option maxRecDepth 100000
namespace Go.Proofs.Ytfeglnpmpgipiaa
open Go.RowKit
theorem Only.putObj (w : World) (l : Nat) (o : Obj) : Only [l] w (w.putObj l o) :=
 ⟨rfl, rfl, rfl, by simp [World.putObj], fun k _ hn => World.putObj_heap_other (fun e => hn (by simp [e]))⟩
theorem putObj_size (w : World) (l : Nat) (o : Obj) : (w.putObj l o).heap.size = w.heap.size := by simp [World.putObj]
def SeqD {α : Type} (P : Program) (gf : Nat) (lb : Array Value) (Enc : α → Array Value → List Nat → World → Prop) (xs : List α) (cap : List Nat) (w : World) : Prop :=
 ∀ (l : Nat) (J Jx : List α → List Nat → World → Prop) (W : World) (D : List Nat), Only [] w W → (∀ d ∈ D, d ∉ cap ∧ d < W.heap.size) →
  (∀ ys D A B T, J ys D A → Only T A B → (∀ t ∈ T, t ∉ D ∧ W.heap.size ≤ t) → J ys D B) →
  (∀ ys D A B T, Jx ys D A → Only T A B → (∀ t ∈ T, t ∉ D ∧ W.heap.size ≤ t) → Jx ys D B) →
  (∀ ys x zs D A vs G, J ys D A → xs = ys ++ x :: zs → Enc x vs G A → (∀ g ∈ G, g ∉ D ∧ W.heap.size ≤ g ∧ g < A.heap.size) → YieldAt Fence.wide 9 P l vs A fun e B =>
   ∃ D', Only (D ++ G) A B ∧ (∀ d ∈ D', (d ∈ D ∨ d ∈ G ∨ A.heap.size ≤ d) ∧ d < B.heap.size) ∧ ((e = .returned (.bool true) ∧ J (ys ++ [x]) D' B) ∨ (e = .returned (.bool false) ∧ Jx (ys ++ [x]) D' B))) →
  J [] D W →
  Calls P gf (#[.func (.yield l) #[] #[]] ++ lb) W fun e B => (∃ v, e = .returned v) ∧ ((∃ D', J xs D' B) ∨ ∃ ys D', Jx ys D' B)
def roundEnd {α : Type} (I : List α → List Nat → World → Prop) (Ix : Code → List α → List Nat → World → Prop) (ys : List α) (E : List Nat) (A A2 : World) : Exit → Act → World → Prop
 | .normal, _, B => ∃ S D', Only S A2 B ∧ (∀ s ∈ S, s ∈ E ∨ A.heap.size ≤ s) ∧ (∀ d ∈ D', (d ∈ E ∨ A.heap.size ≤ d) ∧ d < B.heap.size) ∧ I ys D' B
 | .ret, _, B => ∃ S D', Only S A2 B ∧ (∀ s ∈ S, s ∈ E ∨ A.heap.size ≤ s) ∧ (∀ d ∈ D', (d ∈ E ∨ A.heap.size ≤ d) ∧ d < B.heap.size) ∧ Ix .ret ys D' B
 | .exit id, _, B => ∃ S D', Only S A2 B ∧ (∀ s ∈ S, s ∈ E ∨ A.heap.size ≤ s) ∧ (∀ d ∈ D', (d ∈ E ∨ A.heap.size ≤ d) ∧ d < B.heap.size) ∧ Ix (.exit id) ys D' B
 | .goto t, _, B => ∃ S D', Only S A2 B ∧ (∀ s ∈ S, s ∈ E ∨ A.heap.size ≤ s) ∧ (∀ d ∈ D', (d ∈ E ∨ A.heap.size ≤ d) ∧ d < B.heap.size) ∧ Ix (.goto t) ys D' B
 | .panic _, _, _ => False
 | .outgrown, _, _ => False
section
variable {P : Program}
set_option maxHeartbeats 1000000 in
theorem wp_rangeD {α : Type} {g : Operand} {ps : Array Tmp} {assign body : Code} {Q : Exit → Act → World → Prop} {a : Act} {w : World} {gf : Nat} {lb : Array Value} {Enc : α → Array Value → List Nat → World → Prop} {xs : List α} {cap : List Nat}
  (hg : a.eval g = .func (.func gf) #[] lb) (eg : ∀ args w, (callFunc gf args).run P w = .ok (.enter gf args) w)
  (hseq : SeqD P gf lb Enc xs cap w) (hcap : ∀ c ∈ cap, c < w.heap.size) (hps : ∀ x vs G W, Enc x vs G W → vs.size = ps.size)
  (I : List α → List Nat → World → Prop) (Ix : Code → List α → List Nat → World → Prop) (D0 : List Nat) (hD0 : ∀ d ∈ D0, d ∉ cap ∧ d < w.heap.size)
  (hI : ∀ ys D A B T, I ys D A → Only T A B → (∀ t ∈ T, t ∉ D ∧ w.heap.size ≤ t) → I ys D B)
  (hIx : ∀ c ys D A B T, Ix c ys D A → Only T A B → (∀ t ∈ T, t ∉ D ∧ w.heap.size ≤ t) → Ix c ys D B)
  (h0 : I [] D0 w)
  (hround : ∀ (l : Nat) ys x zs D A vs G, w.heap.size < l → l < A.heap.size → (∀ d ∈ D ++ G, d ≠ l ∧ d < A.heap.size) → (∀ k ∈ G, k ∉ D ∧ w.heap.size ≤ k) → I ys D A → xs = ys ++ x :: zs → Enc x vs G A →
   assign.wpIn (Fence.wide.inRound l) 9 P (Exit.then (fun a₁ A1 => Only [] A A1 ∧ ∀ A2, Only [l] A1 A2 → A2.heap.size = A1.heap.size → body.wpIn (Fence.wide.inRound l) 9 P (roundEnd I Ix (ys ++ [x]) (D ++ G) A A2) a₁ A2) (fun _ _ _ => False))
    { tmps := (ps.zip vs).foldl (fun t (p, v) => t.setIfInBounds p v) a.tmps, defers := [] } A)
  (hdone : ∀ D B, I xs D B → (∀ d ∈ D, d ≠ w.heap.size ∧ d < B.heap.size) → B.heap[w.heap.size]? = some (.deferred (some [])) → Q .normal { a with defers := { target := .collected w.heap.size, args := #[] } :: a.defers } B)
  (hstop : ∀ c ys D B, Ix c ys D B → (∀ d ∈ D, d ≠ w.heap.size ∧ d < B.heap.size) → B.heap[w.heap.size]? = some (.deferred (some [])) → c.wp P Q { a with defers := { target := .collected w.heap.size, args := #[] } :: a.defers } B) :
  (Code.rangeFunc g ps assign body).wp P Q a w := by
 refine (wpIn_wide (n := 9)).1 (wpIn_rangeFunc ?_); intro fn hfn; obtain ⟨rec, hrec⟩ : ∃ rec : LoopState → Option Code → Loop, rec = fun st pe => { state := st, pending := pe, fn, tmps := a.tmps, params := ps, assign, body, defers := w.heap.size } := ⟨_, rfl⟩; obtain ⟨W1, hW1⟩ : ∃ W1, (w.alloc (.deferred (some []))).alloc (.loop (rec .ready none)) = W1 := ⟨_, rfl⟩
 have hL1 : W1.heap[w.heap.size + 1]? = some (.loop (rec .ready none)) := by
  rw [← hW1]; have := World.alloc_heap_new (w.alloc (.deferred (some []))) (.loop (rec .ready none)); rwa [World.size_alloc] at this
 have hK1 : W1.heap[w.heap.size]? = some (.deferred (some [])) := by
  rw [← hW1]; exact (Below.heap_alloc _ _ _ (by simp)).trans (World.alloc_heap_new w _)
 have o1 : Only [] w W1 := (by rw [← hW1]; exact (Only.alloc _ _).trans0 (Only.alloc _ _)); have hs1 : W1.heap.size = w.heap.size + 2 := (by rw [← hW1]; simp); generalize hl : w.heap.size + 1 = l at hL1
 refine ⟨l, [{ target := .collected w.heap.size, args := #[] }], W1, { target := .fn (.func gf) lb, args := #[.func (.yield l) #[] #[]] }, W1, gf,
  #[.func (.yield l) #[] #[]] ++ lb, W1, ?_, ?_, fun _ _ => trivial, ?_, fun _ => by omega, ?_⟩
 ·rw [← hW1, hrec, ← hl]; exact run_enterLoop_outer _ _ _ _ _
 ·simp only [resolve, hg]
  simp [go_sem]
 ·simp [invoke, go_sem, eg]
 ·refine callsIn_wide.2 ((hseq l
   (fun ys D A => ∃ D1, D = l :: D1 ∧ (∀ d ∈ D1, d ≠ l ∧ d ≠ w.heap.size ∧ d < A.heap.size) ∧ I ys D1 A ∧ A.heap[l]? = some (.loop (rec .ready none)) ∧ A.heap[w.heap.size]? = some (.deferred (some [])))
   (fun ys D A => ∃ D1 c, D = l :: D1 ∧ (∀ d ∈ D1, d ≠ l ∧ d ≠ w.heap.size ∧ d < A.heap.size) ∧ Ix c ys D1 A ∧ A.heap[l]? = some (.loop (rec .done (some c))) ∧ A.heap[w.heap.size]? = some (.deferred (some [])))
   W1 (l :: D0) o1 ?_ ?_ ?_ ?_ ⟨D0, rfl, fun d hd => ⟨by have := (hD0 d hd).2; omega, by have := (hD0 d hd).2; omega, by have := (hD0 d hd).2; omega⟩, hI _ _ _ _ _ h0 o1 (by simp), hL1, hK1⟩).mono ?_)
  ·intro d hd
   rcases List.mem_cons.1 hd with rfl | hd
   ·exact ⟨fun hc => by have := hcap _ hc; omega, by omega⟩
   ·exact ⟨(hD0 d hd).1, by have := (hD0 d hd).2; omega⟩
  ·rintro ys D A B T ⟨D1, rfl, hd, hi, h1, h2⟩ ho hT; have hb : ∀ k, k < A.heap.size → k < W1.heap.size → B.heap[k]? = A.heap[k]? := fun k hk hk2 => ho.block k hk (fun hm => by have := (hT k hm).2; omega)
   exact ⟨D1, rfl, fun d hm => ⟨(hd d hm).1, (hd d hm).2.1, Nat.lt_of_lt_of_le (hd d hm).2.2 ho.size⟩, hI _ _ _ _ _ hi ho (fun t ht => ⟨fun hm => (hT t ht).1 (by simp [hm]), by have := (hT t ht).2; omega⟩),
    (hb l (Array.getElem?_eq_some_iff.1 h1).1 (by omega)).trans h1, (hb _ (Array.getElem?_eq_some_iff.1 h2).1 (by omega)).trans h2⟩
  ·rintro ys D A B T ⟨D1, c, rfl, hd, hi, h1, h2⟩ ho hT; have hb : ∀ k, k < A.heap.size → k < W1.heap.size → B.heap[k]? = A.heap[k]? := fun k hk hk2 => ho.block k hk (fun hm => by have := (hT k hm).2; omega)
   exact ⟨D1, c, rfl, fun d hm => ⟨(hd d hm).1, (hd d hm).2.1, Nat.lt_of_lt_of_le (hd d hm).2.2 ho.size⟩, hIx _ _ _ _ _ _ hi ho (fun t ht => ⟨fun hm => (hT t ht).1 (by simp [hm]), by have := (hT t ht).2; omega⟩),
    (hb l (Array.getElem?_eq_some_iff.1 h1).1 (by omega)).trans h1, (hb _ (Array.getElem?_eq_some_iff.1 h2).1 (by omega)).trans h2⟩
  ·-- ONE ROUND
   rintro ys x zs D A vs G ⟨D1, rfl, hd, hi, hl1, hk1⟩ hx henc hG; have hlt : l < A.heap.size := (Array.getElem?_eq_some_iff.1 hl1).1; have hy := run_yield (P := P) (args := vs) hl1 (by rw [hrec]; exact hps x vs G A henc); rw [hrec] at hy
   have hDG : ∀ d ∈ D1 ++ G, d ≠ l ∧ d < A.heap.size := fun d hm => by
    rcases List.mem_append.1 hm with hm | hm
    ·exact ⟨(hd d hm).1, (hd d hm).2.2⟩
    ·exact ⟨fun e => (hG d hm).1 (by simp [e]), (hG d hm).2.2⟩
   have hDw : ∀ d ∈ D1 ++ G, d ≠ w.heap.size := fun d hm => by
    rcases List.mem_append.1 hm with hm | hm
    ·exact (hd d hm).2.1
    ·have := (hG d hm).2.1; omega
   refine ⟨fn, _, assign, body, hy, roundIn_of_wpIn hfn ?_⟩; refine wpIn_mono (hround l ys x zs D1 A vs G (by omega) hlt hDG (fun k hk => ⟨fun hm => (hG k hk).1 (by simp [hm]), by have := (hG k hk).2.1; omega⟩) hi hx henc) ?_; clear hy; intro e a₁ A1 hq
   cases e with
   | normal =>
    obtain ⟨oA, hbody⟩ := hq; have hsA := oA.size; have hl2 : A1.heap[l]? = some (.loop (rec .ready none)) := (oA.block l hlt (by simp)).trans hl1; have hk2 : A1.heap[w.heap.size]? = some (.deferred (some [])) := (oA.block _ (by omega) (by simp)).trans hk1; refine ⟨_, run_beginRound hl2 (by rw [hrec]), ?_⟩; have hl3 : (A1.putObj l (.loop { rec .ready none with state := .busy })).heap[l]? = some (.loop { rec .ready none with state := .busy }) := World.putObj_heap_same (by omega); have hk3 : (A1.putObj l (.loop { rec .ready none with state := .busy })).heap[w.heap.size]? = some (.deferred (some [])) := (World.putObj_heap_other (by omega)).trans hk2
    have o2 := Only.putObj A1 l (.loop { rec .ready none with state := .busy }); have hs2 := putObj_size A1 l (.loop { rec .ready none with state := .busy }); refine wpIn_mono (hbody _ o2 hs2) ?_; generalize A1.putObj l (.loop { rec .ready none with state := .busy }) = A2 at hl3 hk3 o2 hs2 ⊢
    have fin : ∀ (jump : Option Code) (S D' : List Nat) (B : World), Only S A2 B → (∀ s ∈ S, s ∈ D1 ++ G ∨ A.heap.size ≤ s) → (∀ d ∈ D', (d ∈ D1 ++ G ∨ A.heap.size ≤ d) ∧ d < B.heap.size) →
      (Instr.endRound l jump).run P B = .ok (.bool jump.isNone) (B.putObj l (.loop (rec (if jump.isNone then .ready else .done) jump))) ∧
      (B.putObj l (.loop (rec (if jump.isNone then .ready else .done) jump))).heap[l]? = some (.loop (rec (if jump.isNone then .ready else .done) jump)) ∧
      (B.putObj l (.loop (rec (if jump.isNone then .ready else .done) jump))).heap[w.heap.size]? = some (.deferred (some [])) ∧
      Only (l :: D1 ++ G) A (B.putObj l (.loop (rec (if jump.isNone then .ready else .done) jump))) ∧ Only [l] B (B.putObj l (.loop (rec (if jump.isNone then .ready else .done) jump))) ∧
      (∀ d ∈ l :: D', (d ∈ l :: D1 ∨ d ∈ G ∨ A.heap.size ≤ d) ∧ d < (B.putObj l (.loop (rec (if jump.isNone then .ready else .done) jump))).heap.size) ∧ (∀ d ∈ D', d ≠ l ∧ d ≠ w.heap.size ∧ d < (B.putObj l (.loop (rec (if jump.isNone then .ready else .done) jump))).heap.size) := by
     intro jump S D' B hS hS2 hD'; have hB := hS.size
     have hnl : l ∉ S := fun hm => by
      rcases hS2 l hm with h | h
      ·exact (hDG l h).1 rfl
      ·omega
     have hnk : w.heap.size ∉ S := fun hm => by
      rcases hS2 _ hm with h | h
      ·exact hDw _ h rfl
      ·omega
     have hl4 := (hS.block l (by omega) hnl).trans hl3; have hk4 := (hS.block _ (by omega) hnk).trans hk3; have := run_endRound (P := P) jump hl4; rw [hrec] at this ⊢; have oE := Only.putObj B l (.loop ((fun st pe => ({ state := st, pending := pe, fn, tmps := a.tmps, params := ps, assign, body, defers := w.heap.size } : Loop)) (if jump.isNone then .ready else .done) jump)); refine ⟨this, World.putObj_heap_same (by omega), (World.putObj_heap_other (by omega)).trans hk4, ?_, oE, ?_, ?_⟩
     ·refine ((((oA.mono (by simp)).trans o2 (fun i hi _ => ?_)).trans hS (fun i hi hlt2 => ?_)).trans oE (fun i hi _ => ?_))
      ·simp at hi; simp [hi]
      ·rcases hS2 i hi with h | h
       ·simp at h ⊢; exact .inr h
       ·omega
      ·simp at hi; simp [hi]
     ·intro d hm; rw [putObj_size]
      rcases List.mem_cons.1 hm with rfl | hm
      ·exact ⟨by simp, by omega⟩
      ·obtain ⟨h1, h2⟩ := hD' d hm; refine ⟨?_, h2⟩
       rcases h1 with h | h
       ·rcases List.mem_append.1 h with h | h
        ·exact .inl (by simp [h])
        ·exact .inr (.inl h)
       ·exact .inr (.inr h)
     ·intro d hm; rw [putObj_size]; obtain ⟨h1, h2⟩ := hD' d hm; refine ⟨?_, ?_, h2⟩
      ·rcases h1 with h | h
       ·exact (hDG d h).1
       ·omega
      ·rcases h1 with h | h
       ·exact hDw d h
       ·omega
    have hT : ∀ (D' : List Nat), (∀ d ∈ D', d ≠ l ∧ d ≠ w.heap.size) → ∀ t ∈ [l], t ∉ D' ∧ w.heap.size ≤ t := fun D' hD t ht => by
     obtain rfl := List.mem_singleton.1 ht; exact ⟨fun hm => (hD _ hm).1 rfl, by omega⟩
    rintro e a3 B hp
    cases e with
    | normal =>
     obtain ⟨S, D', hS, hS2, hD', hi3⟩ := hp; obtain ⟨hr, hl4, hk4, hO, oE, hf1, hf2⟩ := fin none S D' B hS hS2 hD'; exact ⟨_, _, hr, l :: D', hO, hf1, .inl ⟨rfl, D', rfl, hf2, hI _ _ _ _ _ hi3 oE (hT D' (fun d hd => ⟨(hf2 d hd).1, (hf2 d hd).2.1⟩)), hl4, hk4⟩⟩
    | ret =>
     obtain ⟨S, D', hS, hS2, hD', hi3⟩ := hp; obtain ⟨hr, hl4, hk4, hO, oE, hf1, hf2⟩ := fin (some .ret) S D' B hS hS2 hD'; exact ⟨_, _, hr, l :: D', hO, hf1, .inr ⟨rfl, D', .ret, rfl, hf2, hIx _ _ _ _ _ _ hi3 oE (hT D' (fun d hd => ⟨(hf2 d hd).1, (hf2 d hd).2.1⟩)), hl4, hk4⟩⟩
    | exit id =>
     obtain ⟨S, D', hS, hS2, hD', hi3⟩ := hp; obtain ⟨hr, hl4, hk4, hO, oE, hf1, hf2⟩ := fin (some (.exit id)) S D' B hS hS2 hD'; exact ⟨_, _, hr, l :: D', hO, hf1, .inr ⟨rfl, D', .exit id, rfl, hf2, hIx _ _ _ _ _ _ hi3 oE (hT D' (fun d hd => ⟨(hf2 d hd).1, (hf2 d hd).2.1⟩)), hl4, hk4⟩⟩
    | goto t =>
     obtain ⟨S, D', hS, hS2, hD', hi3⟩ := hp; obtain ⟨hr, hl4, hk4, hO, oE, hf1, hf2⟩ := fin (some (.goto t)) S D' B hS hS2 hD'; exact ⟨_, _, hr, l :: D', hO, hf1, .inr ⟨rfl, D', .goto t, rfl, hf2, hIx _ _ _ _ _ _ hi3 oE (hT D' (fun d hd => ⟨(hf2 d hd).1, (hf2 d hd).2.1⟩)), hl4, hk4⟩⟩
    | panic _ => exact hp.elim
    | outgrown => exact hp.elim
   | exit _ => exact hq.elim
   | goto _ => exact hq.elim
   | ret => exact hq.elim
   | panic _ => exact hq.elim
   | outgrown => exact hq.elim
  ·-- BEHIND THE CALL
   rintro e B ⟨⟨v, rfl⟩, ⟨D, D1, rfl, hd, hi, hl1, hk1⟩ | ⟨ys, D, D1, c, rfl, hd, hi, hl1, hk1⟩⟩
   ·have hlt : l < B.heap.size := (Array.getElem?_eq_some_iff.1 hl1).1; refine ⟨none, _, by have := run_endLoop (P := P) hl1 (by rw [hrec]; simp); rw [hrec] at this; exact this, hdone D1 _ (hI _ _ _ _ _ hi (Only.putObj _ _ _) (fun t ht => ?_)) (fun d hm => ⟨(hd d hm).2.1, by rw [putObj_size]; exact (hd d hm).2.2⟩) ((World.putObj_heap_other (by omega)).trans hk1)⟩; obtain rfl := List.mem_singleton.1 ht; exact ⟨fun hm => (hd _ hm).1 rfl, by omega⟩
   ·have hlt : l < B.heap.size := (Array.getElem?_eq_some_iff.1 hl1).1; refine ⟨some c, _, by have := run_endLoop (P := P) hl1 (by rw [hrec]; simp); rw [hrec] at this; exact this, wpIn_wide.2 (hstop c ys D1 _ (hIx _ _ _ _ _ _ hi (Only.putObj _ _ _) (fun t ht => ?_)) (fun d hm => ⟨(hd d hm).2.1, by rw [putObj_size]; exact (hd d hm).2.2⟩) ((World.putObj_heap_other (by omega)).trans hk1))⟩; obtain rfl := List.mem_singleton.1 ht; exact ⟨fun hm => (hd _ hm).1 rfl, by omega⟩
theorem calls_of_marks {f : FuncId} {fn : Func} {c : Code} {args : Array Value} {w : World} {R : Ending → World → Prop} (hf : P.funcs[f]? = some fn) (hb : fn.body = some c)
  (h : c.wp P (bodyPostM Fence.wide 9 P fn R) { tmps := args ++ Array.replicate (fn.ntmps - args.size) undef, defers := [] } w) : Calls P f args w R :=
 (callsIn_wide (n := 9)).1 (callsIn_of_wp_marks hf hb trivial (wpIn_wide.2 h))
theorem marks_take {fn : Func} {tmps : Array Value} {R : Ending → World → Prop} {d : Nat} {ds : List Deferred} {w : World} (hk : w.heap[d]? = some (.deferred (some []))) (h : LeavesInM Fence.wide 9 P fn tmps R ds .returning (w.putObj d (.deferred none))) :
  LeavesInM Fence.wide 9 P fn tmps R ({ target := .collected d, args := #[] } :: ds) .returning w :=
 ⟨by simp, .inl ⟨_, _, rfl, run_takeDeferred hk, h⟩⟩
theorem wpli_append {F : Fence} {n : Nat} {ops : Array Oper} {rest : List Oper} {o : Oper} {a : Act} {Q : Exit → Act → World → Prop} {w w' : World} {s x : Operand} {t t' : TypeId} {sv xv v : Value} (hF : ∀ f, F.fn f) (hg : o.guard = none)
  (ho : o.op = .call { callee := .builtin .append, args := #[s, x], argTypes := #[t, t'] }) (hs : a.eval s = sv) (hx : a.eval x = xv)
  (hr : (Builtin.append_ #[t, t'] o.type #[sv, xv]).run P w = .ok v w') (h : wpListIn F n P ops Q rest (a.put o.dst v) w') : wpListIn F n P ops Q (o :: rest) a w :=
 wpListIn_plain hg fun K hK => by
  refine ⟨fun f _ => hF f, ?_⟩; rw [Oper.semAt_plain F _ _ (by rw [ho]; intro c hc'; cases hc')]; unfold execOp; simp only [ho, resolve, invoke, builtin, Sem.run_bind, Sem.run_pure, Result.andThen_ok, List.map_toArray, List.map_cons, List.map_nil, hs, hx, hr]; exact hK _ _ h
theorem wideFn (f : FuncId) : Fence.wide.fn f := trivial
theorem inR {f : FuncId} {args : Array Value} {w : World} {R R' : Ending → World → Prop} {l n : Nat} (h : Calls P f args w R) (hR : ∀ e w', R e w' → R' e w') : CallsIn (Fence.wide.inRound l) n P f args w R' :=
 (CallsIn.inRound l (callsIn_wide.2 h)).mono hR
end
end Go.Proofs.Ytfeglnpmpgipiaa
end
