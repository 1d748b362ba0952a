/- Elimination, in plain Lean: what it does to rows and to what they come to. No program in sight. -/
import Derived.Test.YtlgcclhepegggaaDoorRsAlg
set_option linter.unusedVariables false
namespace Go.Proofs.YtlgcclhepegggaaDoor
open Go.RowKit

abbrev St := List (List UInt8) × List (List UInt8)
def swapL {α : Type} (l : List α) (a b : Nat) : List α := match l[a]?, l[b]? with | some x, some y => (l.set a y).set b x | _, _ => l
theorem swapL_eq {α : Type} {l : List α} {a b : Nat} {x y : α} (ha : l[a]? = some x) (hb : l[b]? = some y) : swapL l a b = (l.set a y).set b x := by unfold swapL; rw [ha, hb]
theorem swapL_len {α : Type} (l : List α) (a b : Nat) : (swapL l a b).length = l.length := by unfold swapL; split <;> simp
theorem swapL_mem {α : Type} {l : List α} {a b : Nat} {x : α} (h : x ∈ swapL l a b) : x ∈ l := by
  unfold swapL at h
  split at h
  · rename_i y z h1 h2
    rcases List.mem_or_eq_of_mem_set h with h | rfl
    · rcases List.mem_or_eq_of_mem_set h with h | rfl
      · exact h
      · exact List.mem_of_getElem? h2
    · exact List.mem_of_getElem? h1
  · exact h
theorem ent_swap {R : List (List UInt8)} {a b : Nat} (ha : a < R.length) (hb : b < R.length) (i j : Nat) : ent (swapL R a b) i j = ent R (if i = b then a else if i = a then b else i) j := by
  have e1 : R[a]? = some R[a] := List.getElem?_eq_getElem ha
  have e2 : R[b]? = some R[b] := List.getElem?_eq_getElem hb
  have g1 : R.getD a [] = R[a] := by rw [List.getD_eq_getElem?_getD, e1]; rfl
  have g2 : R.getD b [] = R[b] := by rw [List.getD_eq_getElem?_getD, e2]; rfl
  rw [swapL_eq e1 e2, ent_set _ (by rw [List.length_set]; exact hb)]
  by_cases h1 : i = b
  · rw [if_pos h1, if_pos h1]; unfold ent; rw [g1]
  · rw [if_neg h1, if_neg h1, ent_set _ ha]
    by_cases h2 : i = a
    · rw [if_pos h2, if_pos h2]; unfold ent; rw [g2]
    · rw [if_neg h2, if_neg h2]

def clear0 (col : Nat) (s : St) : St :=
  (s.1.set col (addS [] (ginvZ (ent s.1 col col)) (s.1.getD col [])), s.2.set col (addS [] (ginvZ (ent s.1 col col)) (s.2.getD col [])))
def clearI (col i : Nat) (s : St) : St := if i = col ∨ ent s.1 i col = 0 then s else
  (s.1.set i (addS (s.1.getD i []) (ent s.1 i col) (s.1.getD col [])), s.2.set i (addS (s.2.getD i []) (ent s.1 i col) (s.2.getD col [])))
def clearUp (col : Nat) (s : St) : Nat → St
  | 0 => clear0 col s
  | i + 1 => clearI col i (clearUp col s i)
def clearS (col : Nat) (s : St) : St := clearUp col s s.1.length
def swapS (a b : Nat) (s : St) : St := (swapL s.1 a b, swapL s.2 a b)
def pivF (R : List (List UInt8)) (col : Nat) : Nat → Nat → Option Nat
  | 0, _ => none
  | n + 1, i => if ent R i col = 0 then pivF R col n (i + 1) else some i
def pivot (R : List (List UInt8)) (col : Nat) : Option Nat := pivF R col (R.length - col) col
def solveF : Nat → Nat → St → St
  | 0, _, s => s
  | n + 1, col, s => match pivot s.1 col with
    | none => s
    | some i => solveF n (col + 1) (clearS col (swapS col i s))
def solveS (s : St) : St := solveF s.1.length 0 s

theorem pivF_some {R : List (List UInt8)} {col : Nat} : ∀ (n i t : Nat), i ≤ t → t < i + n → (∀ u, i ≤ u → u < t → ent R u col = 0) → ent R t col ≠ 0 → pivF R col n i = some t
  | 0, i, t, h1, h2, _, _ => by omega
  | n + 1, i, t, h1, h2, h3, h4 => by
    unfold pivF
    by_cases e : i = t
    · subst e; rw [if_neg h4]
    · rw [if_pos (h3 i (Nat.le_refl _) (by omega))]
      exact pivF_some n (i + 1) t (by omega) (by omega) (fun u a b => h3 u (by omega) b) h4
theorem pivF_none {R : List (List UInt8)} {col : Nat} : ∀ (n i : Nat), (∀ u, i ≤ u → u < i + n → ent R u col = 0) → pivF R col n i = none
  | 0, _, _ => rfl
  | n + 1, i, h => by
    unfold pivF
    rw [if_pos (h i (Nat.le_refl _) (by omega))]
    exact pivF_none n (i + 1) (fun u a b => h u (by omega) (by omega))
theorem pivF_is {R : List (List UInt8)} {col t : Nat} : ∀ (n i : Nat), pivF R col n i = some t → i ≤ t ∧ t < i + n ∧ ent R t col ≠ 0
  | 0, _, h => by cases h
  | n + 1, i, h => by
    unfold pivF at h
    split at h
    · obtain ⟨a, b, c⟩ := pivF_is n (i + 1) h; exact ⟨by omega, by omega, c⟩
    · rename_i h0; cases h; exact ⟨Nat.le_refl _, by omega, h0⟩
theorem pivot_some {R : List (List UInt8)} {col t : Nat} (h1 : col ≤ t) (h2 : t < R.length) (h3 : ∀ u, col ≤ u → u < t → ent R u col = 0) (h4 : ent R t col ≠ 0) : pivot R col = some t := pivF_some _ _ _ h1 (by omega) h3 h4
theorem pivot_none {R : List (List UInt8)} {col : Nat} (h : ∀ u, col ≤ u → u < R.length → ent R u col = 0) : pivot R col = none := pivF_none _ _ (fun u a b => h u a (by omega))

/-- k rows of k elements, k lists of 'size' bytes -/
structure Shape (k size : Nat) (s : St) : Prop where
  r : s.1.length = k
  v : s.2.length = k
  er : ∀ l ∈ s.1, l.length = k
  ev : ∀ l ∈ s.2, l.length = size
section
variable {k size col i a b : Nat} {s : St}
theorem getD_len {L : List (List UInt8)} {n j : Nat} (h : ∀ l ∈ L, l.length = n) (hj : j < L.length) : (L.getD j []).length = n := by
  rw [List.getD_eq_getElem?_getD, List.getElem?_eq_getElem hj]
  exact h _ (List.getElem_mem hj)
theorem set_each {L : List (List UInt8)} {n j : Nat} {x : List UInt8} (h : ∀ l ∈ L, l.length = n) (hx : x.length = n) : ∀ l ∈ L.set j x, l.length = n := fun l hl => by
  rcases List.mem_or_eq_of_mem_set hl with hl | rfl
  · exact h l hl
  · exact hx
theorem Shape.swap (h : Shape k size s) (a b : Nat) : Shape k size (swapS a b s) :=
  ⟨by unfold swapS; rw [swapL_len]; exact h.r, by unfold swapS; rw [swapL_len]; exact h.v, fun l hl => h.er l (swapL_mem hl), fun l hl => h.ev l (swapL_mem hl)⟩
theorem Shape.clear0 (h : Shape k size s) (hc : col < k) : Shape k size (clear0 col s) :=
  ⟨by unfold Proofs.YtlgcclhepegggaaDoor.clear0; rw [List.length_set]; exact h.r, by unfold Proofs.YtlgcclhepegggaaDoor.clear0; rw [List.length_set]; exact h.v,
    set_each h.er (by rw [addS_len, getD_len h.er (by rw [h.r]; exact hc)]; simp), set_each h.ev (by rw [addS_len, getD_len h.ev (by rw [h.v]; exact hc)]; simp)⟩
theorem Shape.clearI (h : Shape k size s) (hc : col < k) (hi : i < k) : Shape k size (clearI col i s) := by
  unfold Proofs.YtlgcclhepegggaaDoor.clearI
  split
  · exact h
  · exact ⟨by rw [List.length_set]; exact h.r, by rw [List.length_set]; exact h.v,
      set_each h.er (by rw [addS_len, getD_len h.er (by rw [h.r]; exact hi), getD_len h.er (by rw [h.r]; exact hc), Nat.max_self]), set_each h.ev (by rw [addS_len, getD_len h.ev (by rw [h.v]; exact hi), getD_len h.ev (by rw [h.v]; exact hc), Nat.max_self])⟩
theorem Shape.clearUp (h : Shape k size s) (hc : col < k) : ∀ i, i ≤ k → Shape k size (clearUp col s i)
  | 0, _ => h.clear0 hc
  | i + 1, hi => (Shape.clearUp h hc i (by omega)).clearI hc (by omega)
theorem Shape.clearS (h : Shape k size s) (hc : col < k) : Shape k size (clearS col s) := h.clearUp hc _ (by rw [h.r]; exact Nat.le_refl _)
theorem Shape.solveF : ∀ (n col : Nat) (s : St), Shape k size s → n + col = k → Shape k size (solveF n col s)
  | 0, _, _, h, _ => h
  | n + 1, col, s, h, hk => by
    unfold Proofs.YtlgcclhepegggaaDoor.solveF
    split
    · exact h
    · exact Shape.solveF n (col + 1) _ ((h.swap _ _).clearS (by omega)) (by omega)
theorem Shape.solve (h : Shape k size s) : Shape k size (solveS s) := Shape.solveF _ _ s h (by rw [h.r]; rfl)
end

/-- each value is what its row makes of the data D -/
def Lin (k size : Nat) (D : List (List UInt8)) (s : St) : Prop := ∀ i j, i < k → j < size → ent s.2 i j = dotN k (ent s.1 i) (fun t => ent D t j)
section
variable {k size col i a b : Nat} {D : List (List UInt8)} {s : St}
theorem Lin.swap (h : Lin k size D s) (hs : Shape k size s) (ha : a < k) (hb : b < k) : Lin k size D (swapS a b s) := fun i j hi hj => by
  have e : ∀ t, ent (swapS a b s).1 i t = ent s.1 (if i = b then a else if i = a then b else i) t := ent_swap (by rw [hs.r]; exact ha) (by rw [hs.r]; exact hb) i
  unfold swapS at e ⊢
  rw [ent_swap (by rw [hs.v]; exact ha) (by rw [hs.v]; exact hb), dotN_congr (fun t _ => e t)]
  exact h _ j (by split; exact ha; split; exact hb; exact hi) hj
theorem Lin.clear0 (h : Lin k size D s) (hs : Shape k size s) (hc : col < k) : Lin k size D (clear0 col s) := fun i j hi hj => by
  unfold Proofs.YtlgcclhepegggaaDoor.clear0
  have e : ∀ t, ent (s.1.set col (addS [] (ginvZ (ent s.1 col col)) (s.1.getD col []))) i t = if i = col then gmul (ginvZ (ent s.1 col col)) (ent s.1 col t) else ent s.1 i t := ent_set_scale _ (by rw [hs.r]; exact hc) i
  rw [ent_set_scale _ (by rw [hs.v]; exact hc), dotN_congr (fun t _ => e t)]
  by_cases hic : i = col
  · subst hic
    simp only [if_true]
    rw [h i j hi hj]
    have := dotN_add k (fun _ => 0) (ent s.1 i) (ginvZ (ent s.1 i i)) (fun t => ent D t j)
    have z : dotN k (fun _ => 0) (fun t => ent D t j) = 0 := gsum_zero _ _ (fun t _ => gmul_zero_left _)
    rw [z, zero_gadd] at this
    rw [← this]
    exact dotN_congr fun t _ => zero_gadd _
  · simp only [if_neg hic]; exact h i j hi hj
theorem Lin.clearI {r : Nat} (h : Lin k size D s) (hs : Shape k size s) (hc : col < k) (hr : r < k) : Lin k size D (clearI col r s) := fun i j hi hj => by
  unfold Proofs.YtlgcclhepegggaaDoor.clearI
  split
  · exact h i j hi hj
  · have e : ∀ t, ent (s.1.set r (addS (s.1.getD r []) (ent s.1 r col) (s.1.getD col []))) i t = if i = r then gadd (ent s.1 r t) (gmul (ent s.1 r col) (ent s.1 col t)) else ent s.1 i t := ent_set_add _ (by rw [hs.r]; exact hr) i
    dsimp only
    rw [ent_set_add _ (by rw [hs.v]; exact hr), dotN_congr (fun t _ => e t)]
    by_cases hic : i = r
    · subst hic
      simp only [if_true]
      rw [dotN_add, h i j hi hj, h col j hc hj]
    · simp only [if_neg hic]; exact h i j hi hj
theorem Lin.clearUp (h : Lin k size D s) (hs : Shape k size s) (hc : col < k) : ∀ i, i ≤ k → Lin k size D (clearUp col s i)
  | 0, _ => h.clear0 hs hc
  | i + 1, hi => (Lin.clearUp h hs hc i (by omega)).clearI (hs.clearUp hc i (by omega)) hc (by omega)

/-- rows while a column is cleared: the pivot is 1, noughts above the i-th -/
theorem clear_unit (hs : Shape k size s) (hc : col < k) (hu : Unit k col (ent s.1)) (hp : ent s.1 col col ≠ 0) : ∀ i, i ≤ k → Unit k col (ent (clearUp col s i).1) ∧ ent (clearUp col s i).1 col col = 1 ∧ ∀ t, t < i → t ≠ col → ent (clearUp col s i).1 t col = 0
  | 0, _ => by
    have e : ∀ i t, ent (clearUp col s 0).1 i t = if i = col then gmul (ginvZ (ent s.1 col col)) (ent s.1 col t) else ent s.1 i t := ent_set_scale _ (by rw [hs.r]; exact hc)
    refine ⟨fun i j hi hj => ?_, ?_, fun t ht => by omega⟩
    · rw [e]
      by_cases hic : i = col
      · rw [if_pos hic, if_neg (by omega), hu col j hc hj, if_neg (by omega), gmul_zero_right]
      · rw [if_neg hic]; exact hu i j hi hj
    · rw [e, if_pos rfl, ginvZ_ne hp]; exact ginv_mul hp
  | r + 1, hr => by
    obtain ⟨h1, h2, h3⟩ := clear_unit hs hc hu hp r (by omega)
    have hsr := (hs.clearUp hc r (by omega)).r
    have ee : clearUp col s (r + 1) = clearI col r (clearUp col s r) := rfl
    rw [ee]
    unfold Proofs.YtlgcclhepegggaaDoor.clearI
    generalize clearUp col s r = u at *
    by_cases hn : r = col ∨ ent u.1 r col = 0
    · rw [if_pos hn]
      refine ⟨h1, h2, fun t ht htc => ?_⟩
      by_cases e : t = r
      · subst e; exact hn.resolve_left htc
      · exact h3 t (by omega) htc
    · rw [if_neg hn]
      have hrc : r ≠ col := fun e => hn (.inl e)
      have e : ∀ i t, ent (u.1.set r (addS (u.1.getD r []) (ent u.1 r col) (u.1.getD col []))) i t = if i = r then gadd (ent u.1 r t) (gmul (ent u.1 r col) (ent u.1 col t)) else ent u.1 i t := ent_set_add _ (by rw [hsr]; omega)
      dsimp only
      refine ⟨fun i j hi hj => ?_, ?_, fun t ht htc => ?_⟩
      · rw [e]
        by_cases hir : i = r
        · subst hir
          rw [if_pos rfl, h1 col j hc hj, if_neg (show ¬ col = j by omega), gmul_zero_right, gadd_zero]; exact h1 i j hi hj
        · rw [if_neg hir]; exact h1 i j hi hj
      · rw [e, if_neg (fun e => hrc e.symm)]; exact h2
      · rw [e]
        by_cases htr : t = r
        · rw [if_pos htr, h2, gmul_one, gadd_self]
        · rw [if_neg htr]; exact h3 t (by omega) htc
theorem clearS_unit (hs : Shape k size s) (hc : col < k) (hu : Unit k col (ent s.1)) (hp : ent s.1 col col ≠ 0) : Unit k (col + 1) (ent (clearS col s).1) := fun i j hi hj => by
  unfold clearS
  rw [hs.r]
  obtain ⟨h1, h2, h3⟩ := clear_unit hs hc hu hp k (Nat.le_refl _)
  by_cases e : j = col
  · subst e
    by_cases e2 : i = j
    · subst e2; rw [if_pos rfl]; exact h2
    · rw [if_neg e2]; exact h3 i hi e2
  · exact h1 i j hi (by omega)
theorem Ind.swap (hs : Shape k size s) (h : Ind k (ent s.1)) (ha : a < k) (hb : b < k) : Ind k (ent (swapS a b s).1) :=
  h.of fun d hd i hi => by
    have e : ∀ i t, ent (swapS a b s).1 i t = ent s.1 (if i = b then a else if i = a then b else i) t := ent_swap (by rw [hs.r]; exact ha) (by rw [hs.r]; exact hb)
    by_cases h1 : i = a
    · have h2 := hd b hb
      rw [dotN_congr (fun t _ => e b t), if_pos rfl] at h2
      rw [h1]; exact h2
    · by_cases h3 : i = b
      · have h2 := hd a ha
        rw [dotN_congr (fun t _ => e a t)] at h2
        by_cases h4 : a = b
        · exact absurd (h3.trans h4.symm) h1
        · rw [if_neg h4, if_pos rfl] at h2
          rw [h3]; exact h2
      · have h2 := hd i hi
        rw [dotN_congr (fun t _ => e i t), if_neg h3, if_neg h1] at h2
        exact h2
theorem Ind.clear0 (hs : Shape k size s) (h : Ind k (ent s.1)) (hc : col < k) (hp : ent s.1 col col ≠ 0) : Ind k (ent (clear0 col s).1) :=
  h.of fun d hd i hi => by
    have e : ∀ i t, ent (Proofs.YtlgcclhepegggaaDoor.clear0 col s).1 i t = if i = col then gmul (ginvZ (ent s.1 col col)) (ent s.1 col t) else ent s.1 i t := ent_set_scale _ (by rw [hs.r]; exact hc)
    have h2 := hd i hi
    rw [dotN_congr (fun t _ => e i t)] at h2
    by_cases h1 : i = col
    · subst h1
      simp only [if_true] at h2
      have := dotN_add k (fun _ => 0) (ent s.1 i) (ginvZ (ent s.1 i i)) d
      have z : dotN k (fun _ => 0) d = 0 := gsum_zero _ _ (fun t _ => gmul_zero_left _)
      rw [z, zero_gadd, dotN_congr (fun t _ => zero_gadd _), h2] at this
      exact gmul_eq_zero this.symm (by rw [ginvZ_ne hp]; exact ginv_ne hp)
    · simp only [if_neg h1] at h2; exact h2
theorem Ind.clearI {r : Nat} (hs : Shape k size s) (h : Ind k (ent s.1)) (hc : col < k) (hr : r < k) : Ind k (ent (clearI col r s).1) := by
  unfold Proofs.YtlgcclhepegggaaDoor.clearI
  split
  · exact h
  · rename_i hn
    have hrc : r ≠ col := fun e => hn (.inl e)
    refine h.of fun d hd i hi => ?_
    have e : ∀ i t, ent (s.1.set r (addS (s.1.getD r []) (ent s.1 r col) (s.1.getD col []))) i t = if i = r then gadd (ent s.1 r t) (gmul (ent s.1 r col) (ent s.1 col t)) else ent s.1 i t := ent_set_add _ (by rw [hs.r]; exact hr)
    have h0 := hd col hc
    rw [dotN_congr (fun t _ => e col t)] at h0
    simp only [if_neg (fun e => hrc (Eq.symm e) : ¬ col = r)] at h0
    have h2 := hd i hi
    rw [dotN_congr (fun t _ => e i t)] at h2
    by_cases h1 : i = r
    · subst h1
      simp only [if_true] at h2
      rw [dotN_add] at h2
      have h0' : dotN k (ent s.1 col) d = 0 := h0
      rw [h0', gmul_zero_right, gadd_zero] at h2
      exact h2
    · simp only [if_neg h1] at h2; exact h2
theorem Ind.clearUp (hs : Shape k size s) (h : Ind k (ent s.1)) (hc : col < k) (hp : ent s.1 col col ≠ 0) : ∀ i, i ≤ k → Ind k (ent (clearUp col s i).1)
  | 0, _ => h.clear0 hs hc hp
  | i + 1, hi => (Ind.clearUp hs h hc hp i (by omega)).clearI (hs.clearUp hc i (by omega)) hc (by omega)
end
theorem solveF_data {k size : Nat} {D : List (List UInt8)} : ∀ (n col : Nat) (s : St), n + col = k → Shape k size s → Ind k (ent s.1) → Unit k col (ent s.1) → Lin k size D s → Unit k k (ent (solveF n col s).1) ∧ Lin k size D (solveF n col s)
  | 0, col, s, hn, hs, hi, hu, hl => by
    obtain rfl : col = k := by omega
    exact ⟨hu, hl⟩
  | n + 1, col, s, hn, hs, hi, hu, hl => by
    have hc : col < k := by omega
    obtain ⟨p, h1, h2, h3⟩ : ∃ p, pivot s.1 col = some p ∧ p < k ∧ ent s.1 p col ≠ 0 := by
      cases e : pivot s.1 col with
      | some p =>
        obtain ⟨h1, h2, h3⟩ := pivF_is _ _ e
        rw [hs.r] at h2
        exact ⟨p, rfl, by omega, h3⟩
      | none =>
        obtain ⟨i, a, b, c⟩ := hi.pivot hu hc
        exfalso
        have : ∀ n i, i ≤ k → pivF s.1 col n i = none → ∀ u, i ≤ u → u < i + n → ent s.1 u col = 0 := by
          intro n
          induction n with
          | zero => intro i _ _ u h1 h2; omega
          | succ n ih =>
            intro i hi h u h1 h2
            unfold pivF at h
            split at h
            · rename_i h0
              by_cases e : u = i
              · subst e; exact h0
              · exact Classical.byContradiction fun hne => by
                  have := pivF_some (R := s.1) (col := col) n (i + 1)
                  by_cases hik : i + 1 ≤ k
                  · exact hne (ih (i + 1) hik h u (by omega) (by omega))
                  · -- beyond the rows the entries are noughts
                    apply hne
                    unfold ent
                    rw [getD_out (l := s.1) [] (by rw [hs.r]; omega)]; rfl
            · cases h
        exact c (this _ _ (by omega) e i a (by rw [hs.r]; omega))
    unfold solveF
    rw [h1]
    obtain ⟨h4, h5, h6⟩ := pivF_is _ _ h1
    have hsw := hs.swap col p
    have e : ∀ i t, ent (swapS col p s).1 i t = ent s.1 (if i = p then col else if i = col then p else i) t := ent_swap (by rw [hs.r]; exact hc) (by rw [hs.r]; exact h2)
    have hp : ent (swapS col p s).1 col col ≠ 0 := by
      rw [e]
      by_cases ee : col = p
      · rw [if_pos ee, ee]; exact ee ▸ h3
      · rw [if_neg ee, if_pos rfl]; exact h3
    have hus : Unit k col (ent (swapS col p s).1) := fun i j hi hj => by
      rw [e]
      by_cases e1 : i = p
      · rw [if_pos e1, hu col j hc hj, if_neg (by omega), if_neg (by omega)]
      · rw [if_neg e1]
        by_cases e2 : i = col
        · rw [if_pos e2, hu p j h2 hj, if_neg (by omega), if_neg (by omega)]
        · rw [if_neg e2]; exact hu i j hi hj
    refine solveF_data n (col + 1) _ (by omega) (hsw.clearS hc) ?_ (clearS_unit hsw hc hus hp) ?_
    · exact Ind.clearUp hsw (hi.swap hs hc h2) hc hp _ (by rw [hsw.r]; exact Nat.le_refl _)
    · exact (hl.swap hs hc h2).clearUp hsw hc _ (by rw [hsw.r]; exact Nat.le_refl _)
theorem lists_ext {k size : Nat} {A B : List (List UInt8)} (ha : A.length = k) (hb : B.length = k) (la : ∀ l ∈ A, l.length = size) (lb : ∀ l ∈ B, l.length = size) (h : ∀ i j, i < k → j < size → ent A i j = ent B i j) : A = B := by
  apply List.ext_getElem (by omega)
  intro i h1 h2
  have l1 := la _ (List.getElem_mem h1)
  have l2 := lb _ (List.getElem_mem h2)
  apply List.ext_getElem (by omega)
  intro j h3 h4
  have := h i j (by omega) (by omega)
  unfold ent at this
  rw [List.getD_eq_getElem?_getD, List.getD_eq_getElem?_getD, List.getD_eq_getElem?_getD, List.getD_eq_getElem?_getD, List.getElem?_eq_getElem h1, List.getElem?_eq_getElem h2] at this
  dsimp only [Option.getD_some] at this
  rw [List.getElem?_eq_getElem h3, List.getElem?_eq_getElem h4] at this
  exact this
/-- elimination gives the data -/
theorem solve_data {k size : Nat} {D : List (List UInt8)} {s : St} (hs : Shape k size s) (hi : Ind k (ent s.1)) (hl : Lin k size D s) (hD : D.length = k) (hDe : ∀ l ∈ D, l.length = size) : (solveS s).2 = D := by
  obtain ⟨h1, h2⟩ := solveF_data s.1.length 0 s (by rw [hs.r]; rfl) hs hi (fun i j hi hj => by omega) hl
  have h3 := hs.solve
  refine lists_ext h3.v hD h3.ev hDe fun i j hik hjs => ?_
  unfold solveS at h3 ⊢
  rw [h2 i j hik hjs]
  exact dotN_unit hik (fun t ht => h1 i t hik ht)
end Go.Proofs.YtlgcclhepegggaaDoor
