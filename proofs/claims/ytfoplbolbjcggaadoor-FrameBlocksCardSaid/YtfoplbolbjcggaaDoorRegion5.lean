/- REGIONS THAT DRAW THEIR ORDER, once more: what is told of an operation's value must stand only until all that use it are made. Over any program. -/
import Derived.Test.YtfoplbolbjcggaaDoorRegion3
set_option linter.unusedVariables false
set_option maxRecDepth 100000
namespace Go.Proofs.YtfoplbolbjcggaaDoor
open Go.RowKit

section
variable {P : Program} {ops : Array Oper} {pl : List (List (Tmp × Option Nat))} {R : World → World → Prop} {Rs : Nat → World → World → Prop} {w0 : World} {a0 : Act}

/-- who uses operation i's value -/
def consOf (plan : List (List (Tmp × Option Nat))) (i : Nat) : List Nat := (List.range plan.length).filter fun k => (plan.getD k []).any fun f => f.2 == some i
/-- when operation j is made all that use operation i's value are made, or are j -/
def overK (ops : Array Oper) (plan : List (List (Tmp × Option Nat))) (i j : Nat) : Bool := !(consOf plan i).isEmpty && (consOf plan i).all fun k => k == j || (ancs ops j).contains k
def neverOver (ops : Array Oper) (plan : List (List (Tmp × Option Nat))) (i : Nat) : Bool := (consOf plan i).isEmpty
theorem overK_use {ops : Array Oper} {plan : List (List (Tmp × Option Nat))} {i j k : Nat} {t : Tmp} (hk : (t, some i) ∈ plan.getD k []) (h : overK ops plan i j = true) : k = j ∨ (ancs ops j).contains k = true := by
  unfold overK at h
  rw [Bool.and_eq_true] at h
  have hlt : k < plan.length := by
    rcases Nat.lt_or_ge k plan.length with h' | h'
    · exact h'
    · rw [List.getD_eq_getElem?_getD, List.getElem?_eq_none h'] at hk; simp at hk
  have hm : k ∈ consOf plan i := by
    unfold consOf
    rw [List.mem_filter]
    exact ⟨List.mem_range.2 hlt, List.any_eq_true.2 ⟨_, hk, by simp⟩⟩
  have := List.all_eq_true.1 h.2 k hm
  simpa using this
theorem neverOver_all {ops : Array Oper} {plan : List (List (Tmp × Option Nat))} {i : Nat} (h : neverOver ops plan i = true) (j : Nat) : overK ops plan i j = false := by
  unfold neverOver at h; unfold overK; rw [h]; rfl
/-- the step of operation k -/
def Rk5 (R : World → World → Prop) (Rs : Nat → World → World → Prop) (k : Nat) : World → World → Prop := fun w w' => R w w' ∧ Rs k w w'
/-- what is told of operation k's value stands through every operation that k does not wait for and that may be made ahead of one that uses it -/
def Stands5 (ops : Array Oper) (plan : List (List (Tmp × Option Nat))) (Rs : Nat → World → World → Prop) (k : Nat) (S : Value → World → Prop) : Prop := ∀ j, j ≠ k → (ancs ops k).contains j = false → overK ops plan k j = false → Stable (Rs j) S
theorem Stands5.ev {ops : Array Oper} {plan : List (List (Tmp × Option Nat))} {Rs : Nat → World → World → Prop} {k : Nat} (v : Value) : Stands5 ops plan Rs k (EV v) := fun _ _ _ _ => EV.stable _

/-- the whole region: one obligation an operation -/
def RGU (P : Program) (ops : Array Oper) (pl : List (List (Tmp × Option Nat))) (R : World → World → Prop) (Rs : Nat → World → World → Prop) (w0 : World) (a0 : Act) (Q : Exit → Act → World → Prop) : List Oper → List (List (Tmp × Option Nat)) → List (Value → World → Prop) → Prop
  | [], _, T => ∀ a w, R w0 w → a.defers = a0.defers → a.tmps.size = a0.tmps.size → (∀ t, (∀ (i : Nat) (o : Oper), ops[i]? = some o → o.dst ≠ some t) → a.tmps.getD t undef = a0.tmps.getD t undef) →
      (∀ (i : Nat) (o : Oper) d, ops[i]? = some o → o.dst = some d → neverOver ops pl i = true → ((T).getD i (fun _ _ => False)) (a.tmps.getD d undef) w) → (∀ (i : Nat) (o : Oper), ops[i]? = some o → neverOver ops pl i = true → ∃ v, ((T).getD i (fun _ _ => False)) v w) → Q .normal a w
  | o :: l, fs :: plan, T => ∃ S, Stands5 ops pl Rs T.length S ∧ (∀ a w, R w0 w → factsOf T a0 a w fs → RGStep P ops (Rk5 R Rs T.length) o S a w) ∧ RGU P ops pl R Rs w0 a0 Q l plan (T ++ [S])
  | _ :: _, [], _ => False

theorem RGU_extract {Q : Exit → Act → World → Prop} : ∀ (l : List Oper) (plan : List (List (Tmp × Option Nat))) (T : List (Value → World → Prop)),
    (∀ (k : Nat) fs, plan[k]? = some fs → ∀ t i, (t, some i) ∈ fs → i < T.length + k) → RGU P ops pl R Rs w0 a0 Q l plan T →
    ∃ T', T'.take T.length = T ∧ T'.length = T.length + l.length ∧
      (∀ (k : Nat) o, l[k]? = some o → ∃ fs S, plan[k]? = some fs ∧ T'[T.length + k]? = some S ∧ Stands5 ops pl Rs (T.length + k) S ∧ ∀ a w, R w0 w → factsOf T' a0 a w fs → RGStep P ops (Rk5 R Rs (T.length + k)) o S a w) ∧
      (∀ a w, R w0 w → a.defers = a0.defers → a.tmps.size = a0.tmps.size → (∀ t, (∀ (i : Nat) (o : Oper), ops[i]? = some o → o.dst ≠ some t) → a.tmps.getD t undef = a0.tmps.getD t undef) →
        (∀ (i : Nat) (o : Oper) d, ops[i]? = some o → o.dst = some d → neverOver ops pl i = true → ((T').getD i (fun _ _ => False)) (a.tmps.getD d undef) w) → (∀ (i : Nat) (o : Oper), ops[i]? = some o → neverOver ops pl i = true → ∃ v, ((T').getD i (fun _ _ => False)) v w) → Q .normal a w)
  | [], _, T, _, h => ⟨T, List.take_length, rfl, fun k o hk => by simp at hk, h⟩
  | o :: l, [], _, _, h => h.elim
  | o :: l, fs :: plan, T, hi, h => by
    obtain ⟨S, hS, hstep, hrest⟩ := h
    obtain ⟨T', h1, h2, h3, h4⟩ := RGU_extract l plan (T ++ [S]) (fun k f hf t i hm => by
      have := hi (k + 1) f (by simpa using hf) t i hm
      simp; omega) hrest
    have hlen : (T ++ [S]).length = T.length + 1 := by simp
    have hT : T'.take T.length = T := by
      have := congrArg (List.take T.length) h1
      rw [List.take_take, hlen, Nat.min_eq_left (by omega), List.take_left] at this
      exact this
    have hS' : T'[T.length]? = some S := by
      have e : (T'.take (T ++ [S]).length)[T.length]? = (T ++ [S])[T.length]? := by rw [h1]
      rw [List.getElem?_take, if_pos (by omega), List.getElem?_append_right (Nat.le_refl _)] at e
      simpa using e
    refine ⟨T', hT, by rw [h2, hlen]; simp; omega, fun k x hk => ?_, h4⟩
    cases k with
    | zero =>
      simp only [List.getElem?_cons_zero, Option.some.injEq] at hk
      subst hk
      exact ⟨fs, S, rfl, hS', hS, fun a w hR hf => hstep a w hR (factsOf_prefix hT rfl (fun t i hm => by have := hi 0 fs rfl t i hm; omega) hf)⟩
    | succ k =>
      obtain ⟨f, S2, e1, e2, e3, e4⟩ := h3 k x (by simpa using hk)
      have e5 : (T ++ [S]).length + k = T.length + (k + 1) := by rw [hlen]; omega
      rw [e5] at e2 e3 e4
      exact ⟨f, S2, by simpa using e1, e2, e3, e4⟩

/-- what holds while the region runs -/
structure RGUInv (ops : Array Oper) (pl : List (List (Tmp × Option Nat))) (R : World → World → Prop) (Rs : Nat → World → World → Prop) (w0 : World) (a0 : Act) (T : List (Value → World → Prop)) (listed : Array Bool) (a : Act) (w : World) : Prop where
  later : R w0 w
  defers : a.defers = a0.defers
  size : a.tmps.size = a0.tmps.size
  same : ∀ t, (∀ (i : Nat) (o : Oper), ops[i]? = some o → listed.getD i true = true → o.dst ≠ some t) → a.tmps.getD t undef = a0.tmps.getD t undef
  closed : ∀ (i : Nat) (o : Oper) k, ops[i]? = some o → listed.getD i true = true → waitsFor o k = true → listed.getD k true = true
  told : ∀ (i : Nat) (o : Oper) d, ops[i]? = some o → listed.getD i true = true → o.dst = some d → (∀ (j : Nat) x, ops[j]? = some x → listed.getD j true = true → overK ops pl i j = false) → (T.getD i (fun _ _ => False)) (a.tmps.getD d undef) w
  done : ∀ (i : Nat) (o : Oper), ops[i]? = some o → listed.getD i true = true → (∀ (j : Nat) x, ops[j]? = some x → listed.getD j true = true → overK ops pl i j = false) → ∃ v, (T.getD i (fun _ _ => False)) v w

variable {T : List (Value → World → Prop)}

theorem rgu_any {Q : Exit → Act → World → Prop} (hplan : planOk ops pl = true) (htrans : ∀ a b c, R a b → R b c → R a c) (hrefl : ∀ w, R w w) (hsrefl : ∀ k w, Rs k w w)
    (hdst : ∀ (i : Nat) (o : Oper) d, ops[i]? = some o → o.dst = some d → d < a0.tmps.size)
    (hstep : ∀ (k : Nat) o, ops[k]? = some o → ∃ S, T[k]? = some S ∧ Stands5 ops pl Rs k S ∧ ∀ a w, R w0 w → factsOf T a0 a w (pl.getD k []) → RGStep P ops (Rk5 R Rs k) o S a w)
    (hend : ∀ a w, R w0 w → a.defers = a0.defers → a.tmps.size = a0.tmps.size → (∀ t, (∀ (i : Nat) (o : Oper), ops[i]? = some o → o.dst ≠ some t) → a.tmps.getD t undef = a0.tmps.getD t undef) →
      (∀ (i : Nat) (o : Oper) d, ops[i]? = some o → o.dst = some d → neverOver ops pl i = true → (T.getD i (fun _ _ => False)) (a.tmps.getD d undef) w) → (∀ (i : Nat) (o : Oper), ops[i]? = some o → neverOver ops pl i = true → ∃ v, (T.getD i (fun _ _ => False)) v w) → Q .normal a w) :
    ∀ (fuel : Nat) (listed : Array Bool) (a : Act) (w : World), listed.size = ops.size → (listed.toList.filter (!·)).length ≤ fuel → RGUInv ops pl R Rs w0 a0 T listed a w → wpAny P .any ops Q fuel listed a w := by
  simp only [planOk, Bool.and_eq_true, beq_iff_eq, List.all_eq_true, List.mem_range] at hplan
  obtain ⟨hpl, hpk⟩ := hplan
  have hop : ∀ (k : Nat) o, ops[k]? = some o → k < ops.size := fun k o h => (Array.getElem?_eq_some_iff.1 h).1
  have hall : ∀ (k : Nat) o, ops[k]? = some o → (∀ e ∈ o.after, Region.binds .any e = true → e.on < k) ∧ (∀ f ∈ pl.getD k [], factOk ops k o f = true) ∧
      (∀ (i : Nat) x, i ≠ k → ops[i]? = some x → ∀ d, x.dst = some d → o.dst ≠ some d) := by
    intro k o hk
    have := hpk k (hop k o hk)
    simp only [hk, Bool.and_eq_true, List.all_eq_true, List.mem_range, Array.all_eq_true_iff_forall_mem] at this
    obtain ⟨⟨h1, h2⟩, h3⟩ := this
    refine ⟨fun e he hb => ?_, h2, fun i x hi hx d hd => ?_⟩
    · have := h1 e he
      simp only [hb, Bool.not_true, Bool.false_or, decide_eq_true_eq] at this
      exact this
    · have := h3 i (hop i x hx)
      simp only [hx, hd, Bool.or_eq_true, beq_iff_eq, hi, false_or, reduceCtorEq, bne_iff_ne, ne_eq] at this
      exact fun e => this e.symm
  -- nothing may come up: all is listed
  have hfull : ∀ (listed : Array Bool), listed.size = ops.size → Region.ready .any ops listed = [] → ∀ (i : Nat), listed.getD i true = true := by
    intro listed hs hr i
    induction i using Nat.strongRecOn with
    | _ i ih =>
      rcases Bool.eq_false_or_eq_true (listed.getD i true) with h | h
      · exact h
      · exfalso
        have hi : i < ops.size := by
          rcases Nat.lt_or_ge i ops.size with h' | h'
          · exact h'
          · rw [Array.getD_eq_getD_getElem?, Array.getElem?_eq_none (by omega)] at h; cases h
        have ho : ops[i]? = some ops[i] := Array.getElem?_eq_getElem hi
        have hm : i ∈ Region.ready .any ops listed := by
          unfold Region.ready
          rw [List.mem_filter]
          refine ⟨List.mem_range.2 hi, ?_⟩
          rw [h, ho]
          simp only [Bool.not_false, Bool.true_and, Option.map_some, Option.getD_some, Array.all_eq_true_iff_forall_mem, Bool.or_eq_true, Bool.not_eq_true']
          intro e he
          by_cases hb : Region.binds .any e = true
          · right
            have hlt := (hall i _ ho).1 e he hb
            have := ih e.on hlt
            rw [Array.getD_eq_getD_getElem?, Array.getElem?_eq_getElem (by omega)] at this ⊢
            exact this
          · left; simpa using hb
        rw [hr] at hm; cases hm
  have hfin : ∀ (listed : Array Bool) (a : Act) (w : World), (∀ (i : Nat), listed.getD i true = true) → RGUInv ops pl R Rs w0 a0 T listed a w → Q .normal a w := fun listed a w hl h =>
    hend a w h.later h.defers h.size (fun t ht => h.same t (fun i o ho _ => ht i o ho)) (fun i o d ho hd hn => h.told i o d ho (hl i) hd (fun j _ _ _ => neverOver_all hn j)) (fun i o ho hn => h.done i o ho (hl i) (fun j _ _ _ => neverOver_all hn j))
  intro fuel
  induction fuel with
  | zero =>
    intro listed a w hs hf h
    have hl : ∀ (i : Nat), listed.getD i true = true := by
      intro i
      rw [Array.getD_eq_getD_getElem?]
      cases hi : listed[i]? with
      | none => rfl
      | some b =>
        cases b with
        | true => rfl
        | false =>
          have hm : false ∈ listed.toList.filter (!·) := List.mem_filter.2 ⟨by rw [Array.mem_toList_iff]; exact Array.mem_of_getElem? hi, rfl⟩
          have : listed.toList.filter (!·) = [] := List.eq_nil_of_length_eq_zero (by omega)
          rw [this] at hm; cases hm
    refine ⟨?_, hfin listed a w hl h⟩
    unfold Region.ready
    apply List.filter_eq_nil_iff.2
    intro i _
    rw [hl i]; simp
  | succ fuel ih =>
    intro listed a w hs hf h
    refine ⟨fun hr => hfin listed a w (hfull listed hs hr) h, fun k hk => ?_⟩
    unfold Region.ready at hk
    rw [List.mem_filter] at hk
    obtain ⟨hk1, hk2⟩ := hk
    have hkl : k < ops.size := List.mem_range.1 hk1
    have ho : ops[k]? = some ops[k] := Array.getElem?_eq_getElem hkl
    generalize ops[k] = o at ho
    rw [ho] at hk2
    simp only [Bool.and_eq_true, Bool.not_eq_true', Option.map_some, Option.getD_some, Array.all_eq_true_iff_forall_mem, Bool.or_eq_true] at hk2
    obtain ⟨hun, haft⟩ := hk2
    obtain ⟨hon, hfs, hdd⟩ := hall k o ho
    obtain ⟨S, hS, hst, hrun⟩ := hstep k o ho
    have hwait : ∀ i, waitsFor o i = true → listed.getD i true = true := by
      intro i hw
      simp only [waitsFor, List.any_eq_true, Bool.and_eq_true, beq_iff_eq] at hw
      obtain ⟨e, he, hb, rfl⟩ := hw
      rw [Array.mem_toList_iff] at he
      have h1 := haft e he
      rw [hb] at h1
      have h2 : listed.getD e.on false = true := by simpa using h1
      have h3 := hon e he hb
      rw [Array.getD_eq_getD_getElem?, Array.getElem?_eq_getElem (by omega)] at h2 ⊢
      exact h2
    have hfacts : ∀ fs, (∀ f ∈ fs, factOk ops k o f = true) → (∀ f ∈ fs, f ∈ pl.getD k []) → factsOf T a0 a w fs := by
      intro fs
      induction fs with
      | nil => intro _ _; exact trivial
      | cons f fs ihf =>
        intro hf hin
        have hrest := ihf (fun g hg => hf g (List.mem_cons_of_mem _ hg)) (fun g hg => hin g (List.mem_cons_of_mem _ hg))
        have hf0 := hf f (by simp)
        obtain ⟨t, x⟩ := f
        cases x with
        | none =>
          refine ⟨h.same t (fun i x hx hl hd => ?_), hrest⟩
          simp only [factOk, List.all_eq_true, List.mem_range] at hf0
          have h1 := hf0 i (hop i x hx)
          have hik : i ≠ k := by rintro rfl; rw [hun] at hl; cases hl
          simp only [hx, hd, Bool.or_eq_true, beq_iff_eq, hik, false_or, bne_self_eq_false, Bool.false_eq_true] at h1
          have := h.closed i x k hx hl h1
          rw [hun] at this; cases this
        | some i =>
          simp only [factOk, Bool.and_eq_true, decide_eq_true_eq] at hf0
          obtain ⟨⟨_, hw⟩, hd⟩ := hf0
          cases hx : ops[i]? with
          | none => rw [hx] at hd; cases hd
          | some x =>
            rw [hx] at hd
            refine ⟨h.told i x t hx (hwait i hw) (by simpa using hd) (fun j y hy hlj => ?_), hrest⟩
            rcases Bool.eq_false_or_eq_true (overK ops pl i j) with ho2 | ho2
            · exfalso
              rcases overK_use (hin (t, some i) (by simp)) ho2 with e | e
              · subst e; rw [hun] at hlj; cases hlj
              · have h3 := ancs_sound ops j listed hlj ⟨y, hy⟩ h.closed k (by simpa using e)
                rw [hun] at h3; cases h3
            · exact ho2
    have hgo := hrun a w h.later (hfacts _ hfs (fun f hf => hf))
    have hnext : ∀ v w', S v w' → Rk5 R Rs k w w' → wpAny P .any ops Q fuel (listed.setIfInBounds k true) (a.put o.dst v) w' := by
      intro v w' hv hRk
      have hR := hRk.1
      have hstand : ∀ (i : Nat) (x : Oper), ops[i]? = some x → listed.getD i true = true → i ≠ k → overK ops pl i k = false → ∀ u, (T.getD i (fun _ _ => False)) u w → (T.getD i (fun _ _ => False)) u w' := by
        intro i x hx hl2 hik hov u h1
        obtain ⟨S', hS', hst', _⟩ := hstep i x hx
        rw [List.getD_eq_getElem?_getD, hS'] at h1 ⊢
        refine hst' k (fun e => hik e.symm) ?_ hov _ _ _ h1 hRk.2
        rcases Bool.eq_false_or_eq_true ((ancs ops i).contains k) with h2 | h2
        · have h3 := ancs_sound ops i listed hl2 ⟨x, hx⟩ h.closed k (by simpa using h2)
          rw [hun] at h3; cases h3
        · exact h2
      have hks : k < listed.size := by omega
      have hclosed : ∀ (i : Nat) (x : Oper) j, ops[i]? = some x → (listed.setIfInBounds k true).getD i true = true → waitsFor x j = true → (listed.setIfInBounds k true).getD j true = true := by
        intro i x j hx hl hw
        rcases getD_true_set hl with rfl | hl2
        · rw [ho] at hx; cases hx
          have := hwait j hw
          by_cases e : i = j
          · subst e; rw [Array.getD_eq_getD_getElem?, Array.getElem?_setIfInBounds_self_of_lt hks]; rfl
          · rw [Array.getD_eq_getD_getElem?, Array.getElem?_setIfInBounds_ne e, ← Array.getD_eq_getD_getElem?]; exact this
        · have := h.closed i x j hx hl2 hw
          by_cases e : k = j
          · subst e; rw [Array.getD_eq_getD_getElem?, Array.getElem?_setIfInBounds_self_of_lt hks]; rfl
          · rw [Array.getD_eq_getD_getElem?, Array.getElem?_setIfInBounds_ne e, ← Array.getD_eq_getD_getElem?]; exact this
      have hk1 : (listed.setIfInBounds k true).getD k true = true := by rw [Array.getD_eq_getD_getElem?, Array.getElem?_setIfInBounds_self_of_lt hks]; rfl
      have hmono : ∀ j, listed.getD j true = true → (listed.setIfInBounds k true).getD j true = true := fun j hj => by
        by_cases e : k = j
        · subst e; exact hk1
        · rw [Array.getD_eq_getD_getElem?, Array.getElem?_setIfInBounds_ne e, ← Array.getD_eq_getD_getElem?]; exact hj
      refine ih _ _ _ (by simpa using hs) ?_ ⟨htrans _ _ _ h.later hR, by rw [put_defers, h.defers], by rw [put_size, h.size], ?_, hclosed, ?_, ?_⟩
      · have hlt : ((listed.setIfInBounds k true).toList.filter (!·)).length < (listed.toList.filter (!·)).length := by
          have hk2 : listed.toList[k]? = some false := by
            rw [Array.getD_eq_getD_getElem?, Array.getElem?_eq_getElem hks] at hun
            simp only [Option.getD_some] at hun
            rw [Array.getElem?_toList, Array.getElem?_eq_getElem hks, hun]
          rw [Array.toList_setIfInBounds]
          exact filter_set_lt _ _ hk2
        omega
      · intro t ht
        have h1 : o.dst ≠ some t := ht k o ho (by rw [Array.getD_eq_getD_getElem?, Array.getElem?_setIfInBounds_self_of_lt hks]; rfl)
        rw [put_tmps _ _ _ _ h1]
        refine h.same t (fun i x hx hl => ht i x hx ?_)
        by_cases e : k = i
        · subst e; rw [Array.getD_eq_getD_getElem?, Array.getElem?_setIfInBounds_self_of_lt hks]; rfl
        · rw [Array.getD_eq_getD_getElem?, Array.getElem?_setIfInBounds_ne e, ← Array.getD_eq_getD_getElem?]; exact hl
      · intro i x d hx hl hd hal
        rcases getD_true_set hl with rfl | hl2
        · rw [ho] at hx; cases hx
          rw [hd, put_at _ _ _ (by rw [h.size]; exact hdst i o d ho hd)]
          rw [List.getD_eq_getElem?_getD, hS]; exact hv
        · have hik : i ≠ k := by rintro rfl; rw [hun] at hl2; cases hl2
          rw [put_tmps _ _ _ _ (hdd i x hik hx d hd)]
          exact hstand i x hx hl2 hik (hal k o ho hk1) _ (h.told i x d hx hl2 hd (fun j y hy hj => hal j y hy (hmono j hj)))
      · intro i x hx hl hal
        rcases getD_true_set hl with rfl | hl2
        · exact ⟨v, by rw [List.getD_eq_getElem?_getD, hS]; exact hv⟩
        · have hik : i ≠ k := by rintro rfl; rw [hun] at hl2; cases hl2
          obtain ⟨u, hu⟩ := h.done i x hx hl2 (fun j y hy hj => hal j y hy (hmono j hj))
          exact ⟨u, hstand i x hx hl2 hik (hal k o ho hk1) u hu⟩
    unfold wpOp
    rw [ho]
    unfold RGStep at hgo
    dsimp only
    split
    · rename_i hw
      rw [if_pos hw] at hgo
      exact .inl (Oper.wp_noexit (fun a' w' ⟨v, e, hv, hR⟩ => by rw [e]; exact hnext v w' hv hR) hgo)
    · rename_i hw
      rw [if_neg hw] at hgo
      exact hnext undef w hgo ⟨hrefl w, hsrefl _ w⟩

/-- A REGION THAT DRAWS ITS ORDER: one obligation an operation. -/
theorem wp_region_rgu {id : Nat} {Q : Exit → Act → World → Prop} {l : List Oper} (R : World → World → Prop) (Rs : Nat → World → World → Prop) (plan : List (List (Tmp × Option Nat))) (hplan : planOk l.toArray plan = true)
    (hm : P.follows .mixedOrders = true) (hrefl : ∀ w, R w w) (htrans : ∀ a b c, R a b → R b c → R a c) (hsrefl : ∀ k w, Rs k w w) (hdrew : R w0 w0.drew)
    (hdst : (l.all fun o => match o.dst with | some d => decide (d < a0.tmps.size) | none => true) = true)
    (h : RGU P l.toArray plan R Rs w0 a0 Q l plan []) : (Code.region id l.toArray true).wp P Q a0 w0 := by
  refine wp_region_any hm ?_
  have hp := hplan
  simp only [planOk, Bool.and_eq_true, beq_iff_eq, List.all_eq_true, List.mem_range] at hp
  obtain ⟨hpl, hpk⟩ := hp
  have hop : ∀ (k : Nat) o, l.toArray[k]? = some o → k < l.toArray.size := fun k o h => (Array.getElem?_eq_some_iff.1 h).1
  obtain ⟨T, h1, h2, h3, h4⟩ := RGU_extract l plan [] (fun k fs hk t i hm' => by
    have hk' : k < plan.length := (List.getElem?_eq_some_iff.1 hk).1
    have := hpk k (by rw [← hpl]; exact hk')
    rw [hpl] at hk'
    rw [Array.getElem?_eq_getElem hk'] at this
    simp only [Bool.and_eq_true, List.all_eq_true] at this
    have := this.1.2 (t, some i) (by rw [List.getD_eq_getElem?_getD, hk]; exact hm')
    simp only [factOk, Bool.and_eq_true, decide_eq_true_eq] at this
    simpa using this.1.1) h
  simp only [List.length_nil, Nat.zero_add] at h2 h3
  refine rgu_any (T := T) (pl := plan) (R := R) (Rs := Rs) (w0 := w0) (a0 := a0) hplan htrans hrefl hsrefl ?_ ?_ ?_ _ _ _ _ (by simp) (by simp) ?_
  · intro i o d ho hd
    have hm' : o ∈ l := by
      have : o ∈ l.toArray := Array.mem_of_getElem? ho
      simpa using this
    have := List.all_eq_true.1 hdst o hm'
    rw [hd] at this
    simpa using this
  · intro k o ho
    obtain ⟨fs, S, e1, e2, e3, e4⟩ := h3 k o (by simpa using ho)
    exact ⟨S, e2, e3, by rw [List.getD_eq_getElem?_getD, e1]; exact e4⟩
  · intro a w hR hd hs hsame htold hdone
    exact h4 a w hR hd hs hsame htold hdone
  · refine ⟨hdrew, rfl, rfl, fun _ _ => rfl, fun i o k ho hl _ => ?_, fun i o d ho hl _ _ => ?_, fun i o ho hl _ => ?_⟩
    · have := hop i o ho
      simp only [List.size_toArray] at this
      simp [this] at hl
    · have := hop i o ho
      simp only [List.size_toArray] at this
      simp [this] at hl
    · have := hop i o ho
      simp only [List.size_toArray] at this
      simp [this] at hl

/-- one obligation an operation; T: the newest first -/
def RG2U (P : Program) (ops : Array Oper) (pl : List (List (Tmp × Option Nat))) (R : World → World → Prop) (Rs : Nat → World → World → Prop) (w0 : World) (a0 : Act) (E : List (Value → World → Prop) → Prop) : List Oper → List (List (Tmp × Option Nat)) → List (Value → World → Prop) → Prop
  | [], _, T => E T
  | o :: l, fs :: plan, T => ∃ S, Stands5 ops pl Rs T.length S ∧ (∀ a w, R w0 w → factsOf T a0 a w fs → RGStep P ops (Rk5 R Rs T.length) o S a w) ∧ RG2U P ops pl R Rs w0 a0 E l plan (S :: T)
  | _ :: _, [], _ => False

theorem RGU_of_RG2U {Q : Exit → Act → World → Prop} {E : List (Value → World → Prop) → Prop}
    (hE : ∀ T, E T → T.length = ops.size → ∀ a w, R w0 w → a.defers = a0.defers → a.tmps.size = a0.tmps.size → (∀ t, (∀ (i : Nat) (o : Oper), ops[i]? = some o → o.dst ≠ some t) → a.tmps.getD t undef = a0.tmps.getD t undef) →
      (∀ (i : Nat) (o : Oper) d, ops[i]? = some o → o.dst = some d → neverOver ops pl i = true → ((T.reverse).getD i (fun _ _ => False)) (a.tmps.getD d undef) w) → (∀ (i : Nat) (o : Oper), ops[i]? = some o → neverOver ops pl i = true → ∃ v, ((T.reverse).getD i (fun _ _ => False)) v w) → Q .normal a w) :
    ∀ (l : List Oper) (plan : List (List (Tmp × Option Nat))) (T : List (Value → World → Prop)), T.length + l.length = ops.size → nearOk T.length plan = true →
      RG2U P ops pl R Rs w0 a0 E l plan T → RGU P ops pl R Rs w0 a0 Q l (backs T.length plan) T.reverse
  | [], plan, T, hl, _, h => by
    cases plan <;> exact hE T h (by simpa using hl)
  | o :: l, [], _, _, _, h => h.elim
  | o :: l, fs :: plan, T, hl, hn, h => by
    obtain ⟨S, h1, h2, h3⟩ := h
    simp only [nearOk, Bool.and_eq_true] at hn
    have := RGU_of_RG2U hE l plan (S :: T) (by simp only [List.length_cons] at hl ⊢; omega) (by simpa using hn.2) h3
    rw [List.reverse_cons, List.length_cons] at this
    refine ⟨S, by rw [List.length_reverse]; exact h1, ?_, this⟩
    rw [List.length_reverse]
    exact fun a w hR hf => h2 a w hR (factsOf_back T fs hn.1 hf)

/-- the ends that are told: made by an operation whose value no other one uses -/
def endsOk (ops : Array Oper) (plan : List (List (Tmp × Option Nat))) (n : Nat) (fin : List (Tmp × Nat)) : Bool := fin.all fun x => decide (x.2 < n) && neverOver ops plan (n - 1 - x.2)
theorem factsE_of5 {l : List Oper} {plan : List (List (Tmp × Option Nat))} {a : Act} {w : World} {T : List (Value → World → Prop)} (hlen : T.length = l.length) (hall : ∀ (i : Nat) (o : Oper) d, l.toArray[i]? = some o → o.dst = some d → neverOver l.toArray plan i = true → ((T.reverse).getD i (fun _ _ => False)) (a.tmps.getD d undef) w) :
    ∀ (fs : List (Tmp × Nat)), endOk l fs = true → endsOk l.toArray plan l.length fs = true → factsE T (fun t => a.tmps.getD t undef) w fs
  | [], _, _ => trivial
  | (t, d) :: r, h, h2 => by
    simp only [endOk, List.all_cons, Bool.and_eq_true, decide_eq_true_eq] at h
    simp only [endsOk, List.all_cons, Bool.and_eq_true, decide_eq_true_eq] at h2
    obtain ⟨⟨hd, ho⟩, hr⟩ := h
    obtain ⟨⟨_, hn⟩, hr2⟩ := h2
    refine ⟨?_, factsE_of5 hlen hall r (by simpa [endOk] using hr) (by simpa [endsOk] using hr2)⟩
    cases hx : l[l.length - 1 - d]? with
    | none => rw [hx] at ho; cases ho
    | some o =>
      rw [hx] at ho
      have := hall (l.length - 1 - d) o t (by simpa using hx) (by simpa using ho) hn
      rw [← hlen, getD_rev T _ (by omega)] at this
      exact this
theorem wp_region_rg5 {id : Nat} {Q : Exit → Act → World → Prop} {l : List Oper} {L : List Value} {ds : List Deferred} (R : World → World → Prop) (Rs : Nat → World → World → Prop) (plan : List (List (Tmp × Option Nat))) (fin : List (Tmp × Nat)) (mask : List (Option Tmp))
    (hplan : (planOk l.toArray (backs 0 plan) && nearOk 0 plan && maskOk l 0 mask && endOk l fin && endsOk l.toArray (backs 0 plan) l.length fin) = true) (hmask : mask.length = L.length)
    (hm : P.follows .mixedOrders = true) (hrefl : ∀ w, R w w) (htrans : ∀ a b c, R a b → R b c → R a c) (hsrefl : ∀ k w, Rs k w w) (hdrew : R w0 w0.drew)
    (hdst : (l.all fun o => match o.dst with | some d => decide (d < L.length) | none => true) = true)
    (h : RG2U P l.toArray (backs 0 plan) R Rs w0 ⟨L.toArray, ds⟩ (fun T => ∀ f w, R w0 w → factsE T f w fin → Q .normal ⟨(mergeT mask L f).toArray, ds⟩ w) l plan []) : (Code.region id l.toArray true).wp P Q ⟨L.toArray, ds⟩ w0 := by
  simp only [Bool.and_eq_true] at hplan
  obtain ⟨⟨⟨⟨h1, h2⟩, h3⟩, h4⟩, h5⟩ := hplan
  refine wp_region_rgu R Rs (backs 0 plan) h1 hm hrefl htrans hsrefl hdrew (by simpa using hdst) ?_
  refine RGU_of_RG2U (ops := l.toArray) ?_ l plan [] (by simp) h2 h
  intro T hE hT a w hR hd hs hsame hall hdone
  have hT' : T.length = l.length := by simpa using hT
  have hf := hE _ w hR (factsE_of5 hT' hall fin h4 h5)
  have hmerge := merge_is (l := l) (a := a) mask L [] h3 hmask (by simpa using hs.symm) (fun t ht => by
    have := hsame t (fun i o ho => ht i o (by simpa using ho))
    rw [this]
    simp [Array.getD_eq_getD_getElem?, List.getD_eq_getElem?_getD])
  rw [hmerge] at hf
  simp only [List.length_nil, List.drop_zero] at hf
  have e : a = ⟨a.tmps, ds⟩ := by cases a; simp only at hd; rw [hd]
  rw [e]
  exact hf

theorem rgu_ev {E : List (Value → World → Prop) → Prop} {o : Oper} {l : List Oper} {fs : List (Tmp × Option Nat)} {plan : List (List (Tmp × Option Nat))} {T : List (Value → World → Prop)} {v : Value}
    (h1 : ∀ a w, R w0 w → factsOf T a0 a w fs → RGStep P ops (Rk5 R Rs T.length) o (EV v) a w) (h2 : RG2U P ops pl R Rs w0 a0 E l plan (EV v :: T)) : RG2U P ops pl R Rs w0 a0 E (o :: l) (fs :: plan) T := ⟨EV v, Stands5.ev v, h1, h2⟩
end
/-- operation j's relation, as the list gives it; else nothing old turns -/
def DirtR (dl : List (Nat × (World → World → Prop))) (j : Nat) : World → World → Prop := (dl.lookup j).getD (Only [])
theorem lookupR_mem {dl : List (Nat × (World → World → Prop))} {j : Nat} {S : World → World → Prop} (h : dl.lookup j = some S) : (j, S) ∈ dl := by
  induction dl with
  | nil => cases h
  | cons x r ih =>
    obtain ⟨a, b⟩ := x
    rw [List.lookup_cons] at h
    split at h
    · rename_i he
      obtain rfl : j = a := by simpa using he
      obtain rfl := Option.some.inj h
      simp
    · exact List.mem_cons_of_mem _ (ih h)
theorem DirtR.refl {dl : List (Nat × (World → World → Prop))} (h : ∀ x ∈ dl, ∀ w, x.2 w w) (j : Nat) (w : World) : DirtR dl j w w := by
  unfold DirtR
  cases e : dl.lookup j with
  | none => exact Only.refl _ _
  | some D => exact h _ (lookupR_mem e) w
theorem stands5_of {ops : Array Oper} {plan : List (List (Tmp × Option Nat))} {dl : List (Nat × (World → World → Prop))} {k : Nat} {S : Value → World → Prop} (h0 : Stable (Only []) S) (h : ∀ x ∈ dl, (x.1 == k || (ancs ops k).contains x.1 || overK ops plan k x.1) = false → Stable x.2 S) : Stands5 ops plan (DirtR dl) k S := by
  intro j hj hc ho
  unfold DirtR
  cases e : dl.lookup j with
  | none => exact h0
  | some D =>
    refine h (j, D) (lookupR_mem e) ?_
    simp only [Bool.or_eq_false_iff]
    exact ⟨⟨by simpa using hj, hc⟩, ho⟩
end Go.Proofs.YtfoplbolbjcggaaDoor
