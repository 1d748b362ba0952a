/- Regions that draw their order inside a round of a range over a function: the laws of XRegion, XRegion4, XRegion5 there. Over any program. (Printed by wip/gen/regionin.py.) -/
import Derived.Test.YtfoplbolbjcggaaDoorRange
import Derived.Test.YtfoplbolbjcggaaDoorRegions
import Derived.OrdersIn
set_option linter.unusedVariables false
set_option maxRecDepth 100000
namespace Go.Proofs.YtfoplbolbjcggaaDoor
open Go.RowKit

/-- is an operation a defer statement? -/
def isDefer (o : Oper) : Bool := match o.op with | .defer _ => true | _ => false
def onlyN (Q : Exit → Act → World → Prop) : Exit → Act → World → Prop := fun e a w => e = .normal ∧ Q .normal a w
theorem rowsR {P : Program} {row : String} {args : Array Value} {w : World} {R : Value → World → Prop} {l n : Nat} (h : Rows P row args w R) : RowsIn (Fence.wide.inRound l) n P row args w R :=
  fun c cs _ => let ⟨v, w', r, s⟩ := h c cs; ⟨v, w', r, stepsIn_wide.2 s⟩
theorem operR {P : Program} {o : Oper} {a : Act} {w : World} {K K' : Act → World → Prop} {Q Q' : Exit → Act → World → Prop} {l n : Nat} (hd : isDefer o = false) (hQ : ∀ e a w, ¬ (e ≠ .normal ∧ Q' e a w)) (hK : ∀ a w, K a w → K' a w) (h : o.wp P a w K Q') :
    o.wpIn (Fence.wide.inRound l) n P a w K' Q := by
  refine ⟨fun _ _ => trivial, ?_⟩
  have hs : Oper.semAt (Fence.wide.inRound l).round a.eval o = execOp a.eval o := Oper.semAt_some l _ _ (fun c hc => by simp [isDefer, hc] at hd)
  rw [hs]
  unfold Oper.wp at h
  generalize (execOp a.eval o).run P w = r at h
  cases r with
  | ok x w' =>
    cases x with
    | value v => exact hK _ _ h
    | skip => exact hK _ _ h
    | defer d => exact hK _ _ h
    | enter f args =>
      refine ⟨fun hh => by simp [Fence.wide] at hh, inR h ?_⟩
      rintro e w2 h2
      cases e with
      | returned v => exact hK _ _ h2
      | panicked ch => exact absurd ⟨by simp, h2⟩ (hQ _ _ _)
      | outgrown => obtain ⟨a2, w3, h3⟩ := h2; exact absurd ⟨by simp, h3⟩ (hQ _ _ _)
    | row r args => exact ⟨fun hh => by simp [Fence.wide] at hh, (rowsR h).mono (fun v w2 h2 => hK _ _ h2)⟩
    | _ => exact h.elim
  | halt x w' =>
    cases x with
    | panic v => exact absurd ⟨by simp, h⟩ (hQ _ _ _)
    | _ => exact h.elim
theorem wpAnyR {P : Program} {ops : Array Oper} {Q : Exit → Act → World → Prop} {l n : Nat} (hd : (ops.toList.all fun o => !isDefer o) = true) : ∀ (fuel : Nat) (listed : Array Bool) (a : Act) (w : World),
    wpAny P .any ops (onlyN Q) fuel listed a w → wpAnyIn (Fence.wide.inRound l) n P .any ops Q fuel listed a w
  | 0, listed, a, w, h => ⟨h.1, h.2.2⟩
  | fuel + 1, listed, a, w, h => by
    refine ⟨fun hr => (h.1 hr).2, fun i hi => ?_⟩
    have h2 := h.2 i hi
    unfold wpOp at h2
    unfold wpOpIn
    cases ho : ops[i]? with
    | none => rw [ho] at h2; exact wpAnyR hd fuel _ _ _ h2
    | some o =>
      rw [ho] at h2
      have hdo : isDefer o = false := by
        have := List.all_eq_true.1 hd o (by rw [Array.mem_toList_iff]; exact Array.mem_of_getElem? ho)
        simpa using this
      dsimp only at h2 ⊢
      by_cases hw : Region.wanted o (yielded ops a.tmps) = true
      · rw [if_pos hw] at h2 ⊢
        rcases h2 with h2 | ⟨-, a2, w2, h3, -⟩
        · exact operR hdo (fun e a w hq => hq.1 hq.2.1) (fun a w hk => wpAnyR hd fuel _ _ _ hk) h2
        · cases h3
      · rw [if_neg hw] at h2 ⊢
        exact ⟨fun _ _ => trivial, wpAnyR hd fuel _ _ _ h2⟩

section
variable {P : Program} {ops : Array Oper} {R : World → World → Prop} {w0 : World} {a0 : Act}
theorem wpIn_region_rg {id l0 n0 : Nat} {Q : Exit → Act → World → Prop} {l : List Oper} (R : World → World → Prop) (plan : List (List (Tmp × Option Nat))) (hplan : planOk l.toArray plan = true)
    (hm : P.follows .mixedOrders = true) (hrefl : ∀ w, R w w) (htrans : ∀ a b c, R a b → R b c → R a c) (hdrew : R w0 w0.drew)
    (hdst : (l.all fun o => match o.dst with | some d => decide (d < a0.tmps.size) | none => true) = true)
    (hdf : (l.all fun o => !isDefer o) = true) (h : RG P l.toArray R w0 a0 (onlyN Q) l plan []) : (Code.region id l.toArray true).wpIn (Fence.wide.inRound l0) n0 P Q a0 w0 := by
  refine wpIn_region_any hm (wpAnyR (by simpa using hdf) _ _ _ _ ?_)
  have hp := hplan
  simp only [planOk, Bool.and_eq_true, beq_iff_eq, List.all_eq_true, List.mem_range] at hp
  obtain ⟨hpl, hpk⟩ := hp
  have hop : ∀ (k : Nat) o, l.toArray[k]? = some o → k < l.toArray.size := fun k o h => (Array.getElem?_eq_some_iff.1 h).1
  obtain ⟨T, h1, h2, h3, h4⟩ := RG_extract l plan [] (fun k fs hk t i hm' => by
    have hk' : k < plan.length := (List.getElem?_eq_some_iff.1 hk).1
    have := hpk k (by rw [← hpl]; exact hk')
    rw [hpl] at hk'
    rw [Array.getElem?_eq_getElem hk'] at this
    simp only [Bool.and_eq_true, List.all_eq_true] at this
    have := this.1.2 (t, some i) (by rw [List.getD_eq_getElem?_getD, hk]; exact hm')
    simp only [factOk, Bool.and_eq_true, decide_eq_true_eq] at this
    simpa using this.1.1) h
  simp only [List.length_nil, Nat.zero_add] at h2 h3
  refine rg_any (T := T) (R := R) (w0 := w0) (a0 := a0) hplan htrans hrefl ?_ ?_ ?_ _ _ _ _ (by simp) (by simp) ?_
  · intro i o d ho hd
    have hm' : o ∈ l := by
      have : o ∈ l.toArray := Array.mem_of_getElem? ho
      simpa using this
    have := List.all_eq_true.1 hdst o hm'
    rw [hd] at this
    simpa using this
  · intro k o ho
    obtain ⟨fs, S, e1, e2, e3, e4⟩ := h3 k o (by simpa using ho)
    exact ⟨S, e2, e3, by rw [List.getD_eq_getElem?_getD, e1]; exact e4⟩
  · intro a w hR hd hs hsame htold
    exact h4 a w hR hd hs hsame (told_all l.toArray.toList T l.length (fun i o d ho hd => htold i o d (by simpa using ho) hd) (by simp) h2)
  · refine ⟨hdrew, rfl, rfl, fun _ _ => rfl, fun i o d ho hl _ => ?_, fun i o k ho hl _ => ?_⟩
    · have := hop i o ho
      simp only [List.size_toArray] at this
      simp [this] at hl
    · have := hop i o ho
      simp only [List.size_toArray] at this
      simp [this] at hl
theorem wpIn_region_rg2 {id l0 n0 : Nat} {Q : Exit → Act → World → Prop} {l : List Oper} {L : List Value} {ds : List Deferred} (R : World → World → Prop) (plan : List (List (Tmp × Option Nat))) (fin : List (Tmp × Nat)) (mask : List (Option Tmp))
    (hplan : (planOk l.toArray (backs 0 plan) && nearOk 0 plan && maskOk l 0 mask && endOk l fin) = true) (hmask : mask.length = L.length)
    (hm : P.follows .mixedOrders = true) (hrefl : ∀ w, R w w) (htrans : ∀ a b c, R a b → R b c → R a c) (hdrew : R w0 w0.drew)
    (hdst : (l.all fun o => match o.dst with | some d => decide (d < L.length) | none => true) = true)
    (hdf : (l.all fun o => !isDefer o) = true) (h : RG2 P l.toArray R w0 ⟨L.toArray, ds⟩ (fun T => ∀ f w, R w0 w → factsE T f w fin → Q .normal ⟨(mergeT mask L f).toArray, ds⟩ w) l plan []) : (Code.region id l.toArray true).wpIn (Fence.wide.inRound l0) n0 P Q ⟨L.toArray, ds⟩ w0 := by
  simp only [Bool.and_eq_true] at hplan
  obtain ⟨⟨⟨h1, h2⟩, h3⟩, h4⟩ := hplan
  refine wpIn_region_rg R (backs 0 plan) h1 hm hrefl htrans hdrew (by simpa using hdst) hdf ?_
  refine RG_of_RG2 (Q := onlyN Q) (ops := l.toArray) ?_ l plan [] (by simp) h2 h
  intro T hE hT a w hR hd hs hsame hall
  have hT' : T.length = l.length := by simpa using hT
  have hf := hE _ w hR (factsE_of hT' (by simpa using hall) fin h4)
  have hmerge := merge_is (l := l) (a := a) mask L [] h3 hmask (by simpa using hs.symm) (fun t ht => by
    have := hsame t (fun i o ho => ht i o (by simpa using ho))
    rw [this]
    simp [Array.getD_eq_getD_getElem?, List.getD_eq_getElem?_getD])
  rw [hmerge] at hf
  simp only [List.length_nil, List.drop_zero] at hf
  have e : a = ⟨a.tmps, ds⟩ := by cases a; simp only at hd; rw [hd]
  rw [e]
  exact ⟨rfl, hf⟩
end
section
variable {P : Program} {ops : Array Oper} {R : World → World → Prop} {Rs : Nat → World → World → Prop} {C : Nat → World → Prop} {dirty : List Nat} {w0 : World} {a0 : Act}
theorem wpIn_region_rgd {id l0 n0 : Nat} {Q : Exit → Act → World → Prop} {l : List Oper} (R : World → World → Prop) (Rs : Nat → World → World → Prop) (C : Nat → World → Prop) (dirty : List Nat) (plan : List (List (Tmp × Option Nat))) (hplan : planOk l.toArray plan = true)
    (hm : P.follows .mixedOrders = true) (hrefl : ∀ w, R w w) (htrans : ∀ a b c, R a b → R b c → R a c) (hsrefl : ∀ k w, Rs k w w) (hdrew : R w0 w0.drew) (hclean : ∀ d ∈ dirty, C d w0.drew) (hdirty : (dirty.all fun d => decide (d < l.length)) = true)
    (hdst : (l.all fun o => match o.dst with | some d => decide (d < a0.tmps.size) | none => true) = true)
    (hdf : (l.all fun o => !isDefer o) = true) (h : RGD P l.toArray R Rs C dirty w0 a0 (onlyN Q) l plan []) : (Code.region id l.toArray true).wpIn (Fence.wide.inRound l0) n0 P Q a0 w0 := by
  refine wpIn_region_any hm (wpAnyR (by simpa using hdf) _ _ _ _ ?_)
  have hp := hplan
  simp only [planOk, Bool.and_eq_true, beq_iff_eq, List.all_eq_true, List.mem_range] at hp
  obtain ⟨hpl, hpk⟩ := hp
  have hop : ∀ (k : Nat) o, l.toArray[k]? = some o → k < l.toArray.size := fun k o h => (Array.getElem?_eq_some_iff.1 h).1
  obtain ⟨T, h1, h2, h3, h4⟩ := RGD_extract l plan [] (fun k fs hk t i hm' => by
    have hk' : k < plan.length := (List.getElem?_eq_some_iff.1 hk).1
    have := hpk k (by rw [← hpl]; exact hk')
    rw [hpl] at hk'
    rw [Array.getElem?_eq_getElem hk'] at this
    simp only [Bool.and_eq_true, List.all_eq_true] at this
    have := this.1.2 (t, some i) (by rw [List.getD_eq_getElem?_getD, hk]; exact hm')
    simp only [factOk, Bool.and_eq_true, decide_eq_true_eq] at this
    simpa using this.1.1) h
  simp only [List.length_nil, Nat.zero_add] at h2 h3
  refine rgd_any (T := T) (R := R) (Rs := Rs) (C := C) (dirty := dirty) (w0 := w0) (a0 := a0) hplan htrans hrefl hsrefl ?_ ?_ ?_ ?_ _ _ _ _ (by simp) (by simp) ?_
  · intro i o d ho hd
    have hm' : o ∈ l := by
      have : o ∈ l.toArray := Array.mem_of_getElem? ho
      simpa using this
    have := List.all_eq_true.1 hdst o hm'
    rw [hd] at this
    simpa using this
  · intro k o ho
    obtain ⟨fs, S, e1, e2, e3, e4⟩ := h3 k o (by simpa using ho)
    exact ⟨S, e2, e3, by rw [List.getD_eq_getElem?_getD, e1]; exact e4⟩
  · intro d hd
    simpa using List.all_eq_true.1 hdirty d hd
  · intro a w hR hd hs hsame htold hdone
    refine h4 a w hR hd hs hsame ?_ ?_
    rotate_left
    · intro S hS
      obtain ⟨i, hi⟩ := List.getElem?_of_mem hS
      have hil : i < l.length := by have := (List.getElem?_eq_some_iff.1 hi).1; omega
      have := hdone i l[i] (by simp [hil])
      rw [List.getD_eq_getElem?_getD, hi] at this
      exact this
    exact (told_all l.toArray.toList T l.length (fun i o d ho hd => htold i o d (by simpa using ho) hd) (by simp) h2)
  · refine ⟨⟨hdrew, rfl, rfl, fun _ _ => rfl, fun i o d ho hl _ => ?_, fun i o k ho hl _ => ?_⟩, fun d hd _ => hclean d hd, fun i o ho hl => ?_⟩
    · have := hop i o ho
      simp only [List.size_toArray] at this
      simp [this] at hl
    · have := hop i o ho
      simp only [List.size_toArray] at this
      simp [this] at hl
    · have := hop i o ho
      simp only [List.size_toArray] at this
      simp [this] at hl
theorem wpIn_region_rg4 {id l0 n0 : Nat} {Q : Exit → Act → World → Prop} {l : List Oper} {L : List Value} {ds : List Deferred} (R : World → World → Prop) (Rs : Nat → World → World → Prop) (C : Nat → World → Prop) (dirty : List Nat) (plan : List (List (Tmp × Option Nat))) (fin : List (Tmp × Nat)) (mask : List (Option Tmp))
    (hplan : (planOk l.toArray (backs 0 plan) && nearOk 0 plan && maskOk l 0 mask && endOk l fin) = true) (hmask : mask.length = L.length)
    (hm : P.follows .mixedOrders = true) (hrefl : ∀ w, R w w) (htrans : ∀ a b c, R a b → R b c → R a c) (hsrefl : ∀ k w, Rs k w w) (hdrew : R w0 w0.drew) (hclean : ∀ d ∈ dirty, C d w0.drew) (hdirty : (dirty.all fun d => decide (d < l.length)) = true)
    (hdst : (l.all fun o => match o.dst with | some d => decide (d < L.length) | none => true) = true)
    (hdf : (l.all fun o => !isDefer o) = true) (h : RG2D P l.toArray R Rs C dirty w0 ⟨L.toArray, ds⟩ (fun T => ∀ f w, R w0 w → factsE T f w fin → (∀ S ∈ T, ∃ v, S v w) → Q .normal ⟨(mergeT mask L f).toArray, ds⟩ w) l plan []) : (Code.region id l.toArray true).wpIn (Fence.wide.inRound l0) n0 P Q ⟨L.toArray, ds⟩ w0 := by
  simp only [Bool.and_eq_true] at hplan
  obtain ⟨⟨⟨h1, h2⟩, h3⟩, h4⟩ := hplan
  refine wpIn_region_rgd R Rs C dirty (backs 0 plan) h1 hm hrefl htrans hsrefl hdrew hclean hdirty (by simpa using hdst) hdf ?_
  refine RGD_of_RG2D (Q := onlyN Q) (ops := l.toArray) ?_ l plan [] (by simp) h2 h
  intro T hE hT a w hR hd hs hsame hall hdone
  have hT' : T.length = l.length := by simpa using hT
  have hf := hE _ w hR (factsE_of hT' (by simpa using hall) fin h4) (fun S hS => hdone S (List.mem_reverse.2 hS))
  have hmerge := merge_is (l := l) (a := a) mask L [] h3 hmask (by simpa using hs.symm) (fun t ht => by
    have := hsame t (fun i o ho => ht i o (by simpa using ho))
    rw [this]
    simp [Array.getD_eq_getD_getElem?, List.getD_eq_getElem?_getD])
  rw [hmerge] at hf
  simp only [List.length_nil, List.drop_zero] at hf
  have e : a = ⟨a.tmps, ds⟩ := by cases a; simp only at hd; rw [hd]
  rw [e]
  exact ⟨rfl, hf⟩
end
section
variable {P : Program} {ops : Array Oper} {pl : List (List (Tmp × Option Nat))} {R : World → World → Prop} {Rs : Nat → World → World → Prop} {w0 : World} {a0 : Act}
theorem wpIn_region_rgu {id l0 n0 : Nat} {Q : Exit → Act → World → Prop} {l : List Oper} (R : World → World → Prop) (Rs : Nat → World → World → Prop) (plan : List (List (Tmp × Option Nat))) (hplan : planOk l.toArray plan = true)
    (hm : P.follows .mixedOrders = true) (hrefl : ∀ w, R w w) (htrans : ∀ a b c, R a b → R b c → R a c) (hsrefl : ∀ k w, Rs k w w) (hdrew : R w0 w0.drew)
    (hdst : (l.all fun o => match o.dst with | some d => decide (d < a0.tmps.size) | none => true) = true)
    (hdf : (l.all fun o => !isDefer o) = true) (h : RGU P l.toArray plan R Rs w0 a0 (onlyN Q) l plan []) : (Code.region id l.toArray true).wpIn (Fence.wide.inRound l0) n0 P Q a0 w0 := by
  refine wpIn_region_any hm (wpAnyR (by simpa using hdf) _ _ _ _ ?_)
  have hp := hplan
  simp only [planOk, Bool.and_eq_true, beq_iff_eq, List.all_eq_true, List.mem_range] at hp
  obtain ⟨hpl, hpk⟩ := hp
  have hop : ∀ (k : Nat) o, l.toArray[k]? = some o → k < l.toArray.size := fun k o h => (Array.getElem?_eq_some_iff.1 h).1
  obtain ⟨T, h1, h2, h3, h4⟩ := RGU_extract l plan [] (fun k fs hk t i hm' => by
    have hk' : k < plan.length := (List.getElem?_eq_some_iff.1 hk).1
    have := hpk k (by rw [← hpl]; exact hk')
    rw [hpl] at hk'
    rw [Array.getElem?_eq_getElem hk'] at this
    simp only [Bool.and_eq_true, List.all_eq_true] at this
    have := this.1.2 (t, some i) (by rw [List.getD_eq_getElem?_getD, hk]; exact hm')
    simp only [factOk, Bool.and_eq_true, decide_eq_true_eq] at this
    simpa using this.1.1) h
  simp only [List.length_nil, Nat.zero_add] at h2 h3
  refine rgu_any (T := T) (pl := plan) (R := R) (Rs := Rs) (w0 := w0) (a0 := a0) hplan htrans hrefl hsrefl ?_ ?_ ?_ _ _ _ _ (by simp) (by simp) ?_
  · intro i o d ho hd
    have hm' : o ∈ l := by
      have : o ∈ l.toArray := Array.mem_of_getElem? ho
      simpa using this
    have := List.all_eq_true.1 hdst o hm'
    rw [hd] at this
    simpa using this
  · intro k o ho
    obtain ⟨fs, S, e1, e2, e3, e4⟩ := h3 k o (by simpa using ho)
    exact ⟨S, e2, e3, by rw [List.getD_eq_getElem?_getD, e1]; exact e4⟩
  · intro a w hR hd hs hsame htold hdone
    exact h4 a w hR hd hs hsame htold hdone
  · refine ⟨hdrew, rfl, rfl, fun _ _ => rfl, fun i o k ho hl _ => ?_, fun i o d ho hl _ _ => ?_, fun i o ho hl _ => ?_⟩
    · have := hop i o ho
      simp only [List.size_toArray] at this
      simp [this] at hl
    · have := hop i o ho
      simp only [List.size_toArray] at this
      simp [this] at hl
    · have := hop i o ho
      simp only [List.size_toArray] at this
      simp [this] at hl
theorem wpIn_region_rg5 {id l0 n0 : Nat} {Q : Exit → Act → World → Prop} {l : List Oper} {L : List Value} {ds : List Deferred} (R : World → World → Prop) (Rs : Nat → World → World → Prop) (plan : List (List (Tmp × Option Nat))) (fin : List (Tmp × Nat)) (mask : List (Option Tmp))
    (hplan : (planOk l.toArray (backs 0 plan) && nearOk 0 plan && maskOk l 0 mask && endOk l fin && endsOk l.toArray (backs 0 plan) l.length fin) = true) (hmask : mask.length = L.length)
    (hm : P.follows .mixedOrders = true) (hrefl : ∀ w, R w w) (htrans : ∀ a b c, R a b → R b c → R a c) (hsrefl : ∀ k w, Rs k w w) (hdrew : R w0 w0.drew)
    (hdst : (l.all fun o => match o.dst with | some d => decide (d < L.length) | none => true) = true)
    (hdf : (l.all fun o => !isDefer o) = true) (h : RG2U P l.toArray (backs 0 plan) R Rs w0 ⟨L.toArray, ds⟩ (fun T => ∀ f w, R w0 w → factsE T f w fin → Q .normal ⟨(mergeT mask L f).toArray, ds⟩ w) l plan []) : (Code.region id l.toArray true).wpIn (Fence.wide.inRound l0) n0 P Q ⟨L.toArray, ds⟩ w0 := by
  simp only [Bool.and_eq_true] at hplan
  obtain ⟨⟨⟨⟨h1, h2⟩, h3⟩, h4⟩, h5⟩ := hplan
  refine wpIn_region_rgu R Rs (backs 0 plan) h1 hm hrefl htrans hsrefl hdrew (by simpa using hdst) hdf ?_
  refine RGU_of_RG2U (Q := onlyN Q) (ops := l.toArray) ?_ l plan [] (by simp) h2 h
  intro T hE hT a w hR hd hs hsame hall hdone
  have hT' : T.length = l.length := by simpa using hT
  have hf := hE _ w hR (factsE_of5 hT' hall fin h4 h5)
  have hmerge := merge_is (l := l) (a := a) mask L [] h3 hmask (by simpa using hs.symm) (fun t ht => by
    have := hsame t (fun i o ho => ht i o (by simpa using ho))
    rw [this]
    simp [Array.getD_eq_getD_getElem?, List.getD_eq_getElem?_getD])
  rw [hmerge] at hf
  simp only [List.length_nil, List.drop_zero] at hf
  have e : a = ⟨a.tmps, ds⟩ := by cases a; simp only at hd; rw [hd]
  rw [e]
  exact ⟨rfl, hf⟩
end
section
variable {P : Program} {ops : Array Oper} {pl : List (List (Tmp × Option Nat))} {R : World → World → Prop} {Rs : Nat → World → World → Prop} {C : Nat → World → Prop} {dirty : List Nat} {w0 : World} {a0 : Act}
theorem wpIn_region_rg7b {id l0 n0 : Nat} {Q : Exit → Act → World → Prop} {l : List Oper} (R : World → World → Prop) (Rs : Nat → World → World → Prop) (C : Nat → World → Prop) (dirty : List Nat) (plan : List (List (Tmp × Option Nat))) (hplan : planOk l.toArray plan = true)
    (hm : P.follows .mixedOrders = true) (hrefl : ∀ w, R w w) (htrans : ∀ a b c, R a b → R b c → R a c) (hsrefl : ∀ k w, Rs k w w) (hdrew : R w0 w0.drew) (hclean : ∀ d ∈ dirty, C d w0.drew) (hdirty : (dirty.all fun d => decide (d < l.length)) = true)
    (hdst : (l.all fun o => match o.dst with | some d => decide (d < a0.tmps.size) | none => true) = true)
    (hdf : (l.all fun o => !isDefer o) = true) (h : RG7 P l.toArray plan R Rs C dirty w0 a0 (onlyN Q) l plan []) : (Code.region id l.toArray true).wpIn (Fence.wide.inRound l0) n0 P Q a0 w0 := by
  refine wpIn_region_any hm (wpAnyR (by simpa using hdf) _ _ _ _ ?_)
  have hp := hplan
  simp only [planOk, Bool.and_eq_true, beq_iff_eq, List.all_eq_true, List.mem_range] at hp
  obtain ⟨hpl, hpk⟩ := hp
  have hop : ∀ (k : Nat) o, l.toArray[k]? = some o → k < l.toArray.size := fun k o h => (Array.getElem?_eq_some_iff.1 h).1
  obtain ⟨T, h1, h2, h3, h4⟩ := RG7_extract l plan [] (fun k fs hk t i hm' => by
    have hk' : k < plan.length := (List.getElem?_eq_some_iff.1 hk).1
    have := hpk k (by rw [← hpl]; exact hk')
    rw [hpl] at hk'
    rw [Array.getElem?_eq_getElem hk'] at this
    simp only [Bool.and_eq_true, List.all_eq_true] at this
    have := this.1.2 (t, some i) (by rw [List.getD_eq_getElem?_getD, hk]; exact hm')
    simp only [factOk, Bool.and_eq_true, decide_eq_true_eq] at this
    simpa using this.1.1) h
  simp only [List.length_nil, Nat.zero_add] at h2 h3
  refine rg7_any (T := T) (pl := plan) (R := R) (Rs := Rs) (C := C) (dirty := dirty) (w0 := w0) (a0 := a0) hplan htrans hrefl hsrefl ?_ ?_ ?_ ?_ _ _ _ _ (by simp) (by simp) ?_
  · intro i o d ho hd
    have hm' : o ∈ l := by
      have : o ∈ l.toArray := Array.mem_of_getElem? ho
      simpa using this
    have := List.all_eq_true.1 hdst o hm'
    rw [hd] at this
    simpa using this
  · intro d hd
    simpa using List.all_eq_true.1 hdirty d hd
  · intro k o ho
    obtain ⟨fs, S, e1, e2, e3, e4⟩ := h3 k o (by simpa using ho)
    exact ⟨S, e2, e3, by rw [List.getD_eq_getElem?_getD, e1]; exact e4⟩
  · intro a w hR hd hs hsame htold hdone
    exact h4 a w hR hd hs hsame htold hdone
  · refine ⟨hdrew, rfl, rfl, fun _ _ => rfl, fun i o k ho hl _ => ?_, fun i o d ho hl _ _ => ?_, fun i o ho hl _ => ?_, fun d hd _ => hclean d hd⟩
    · have := hop i o ho
      simp only [List.size_toArray] at this
      simp [this] at hl
    · have := hop i o ho
      simp only [List.size_toArray] at this
      simp [this] at hl
    · have := hop i o ho
      simp only [List.size_toArray] at this
      simp [this] at hl
theorem wpIn_region_rg7 {id l0 n0 : Nat} {Q : Exit → Act → World → Prop} {l : List Oper} {L : List Value} {ds : List Deferred} (R : World → World → Prop) (Rs : Nat → World → World → Prop) (C : Nat → World → Prop) (dirty : List Nat) (plan : List (List (Tmp × Option Nat))) (fin : List (Tmp × Nat)) (lnk : List Nat) (mask : List (Option Tmp))
    (hplan : (planOk l.toArray (backs 0 plan) && nearOk 0 plan && maskOk l 0 mask && endOk l fin && endsOk l.toArray (backs 0 plan) l.length fin && linkOk l.toArray (backs 0 plan) l.length lnk) = true) (hmask : mask.length = L.length)
    (hm : P.follows .mixedOrders = true) (hrefl : ∀ w, R w w) (htrans : ∀ a b c, R a b → R b c → R a c) (hsrefl : ∀ k w, Rs k w w) (hdrew : R w0 w0.drew) (hclean : ∀ d ∈ dirty, C d w0.drew) (hdirty : (dirty.all fun d => decide (d < l.length)) = true)
    (hdst : (l.all fun o => match o.dst with | some d => decide (d < L.length) | none => true) = true)
    (hdf : (l.all fun o => !isDefer o) = true) (h : RG27 P l.toArray (backs 0 plan) R Rs C dirty w0 ⟨L.toArray, ds⟩ (fun T => ∀ f w, R w0 w → factsE T f w fin → factsD T w lnk → Q .normal ⟨(mergeT mask L f).toArray, ds⟩ w) l plan []) : (Code.region id l.toArray true).wpIn (Fence.wide.inRound l0) n0 P Q ⟨L.toArray, ds⟩ w0 := by
  simp only [Bool.and_eq_true] at hplan
  obtain ⟨⟨⟨⟨⟨h1, h2⟩, h3⟩, h4⟩, h5⟩, h6⟩ := hplan
  refine wpIn_region_rg7b R Rs C dirty (backs 0 plan) h1 hm hrefl htrans hsrefl hdrew hclean hdirty (by simpa using hdst) hdf ?_
  refine RG7_of_RG27 (Q := onlyN Q) (ops := l.toArray) ?_ l plan [] (by simp) h2 h
  intro T hE hT a w hR hd hs hsame hall hdone
  have hT' : T.length = l.length := by simpa using hT
  have hf := hE _ w hR (factsE_of5 hT' hall fin h4 h5) (factsD_of hT' hdone lnk h6)
  have hmerge := merge_is (l := l) (a := a) mask L [] h3 hmask (by simpa using hs.symm) (fun t ht => by
    have := hsame t (fun i o ho => ht i o (by simpa using ho))
    rw [this]
    simp [Array.getD_eq_getD_getElem?, List.getD_eq_getElem?_getD])
  rw [hmerge] at hf
  simp only [List.length_nil, List.drop_zero] at hf
  have e : a = ⟨a.tmps, ds⟩ := by cases a; simp only at hd; rw [hd]
  rw [e]
  exact ⟨rfl, hf⟩
end
end Go.Proofs.YtfoplbolbjcggaaDoor
