/- The walks of slices.IndexFunc, slices.DeleteFunc over letters, (*net.Net).Lose. -/
import Derived.Test.YtlgcclhepegggaaDoorNetOps2W
set_option linter.unusedVariables false
set_option maxRecDepth 100000
namespace Go.Proofs.YtlgcclhepegggaaDoor
open Go.RowKit

def keepP (t : Int) : Lt → Bool := fun o => decide (o.to ≠ t)
def loseF (X : Nat) : Value := .func (.func 62) #[] #[.pointer (some ⟨X, 0, none⟩)]
theorem lose1_any (o : Lt) (X : Nat) (t : Int) (b : Bool) (hb : (o.to == t) = b) (w : World) (hX : w.cell? ⟨X, 0, none⟩ = some (.int .i64 t)) : Calls Tryd.prog 62 #[.agg #[.int .i64 (o.n : Int), .int .i64 o.fr, .int .i64 o.to, .slice o.q o.xs.length o.c], .pointer (some ⟨X, 0, none⟩)] w fun e w' => e = .returned (.bool b) ∧ Only [] w w' := by
  have hXl := World.block_lt_of_cell? w _ hX
  go_enter Tryd.func62, Tryd.ntmps62
  go_wp2_with fail
  go_ret
  exact ⟨rfl, Only.alloc _ _⟩
set_option maxHeartbeats 4000000 in
theorem indexFunc_any (w0 : World) (q : Option Addr) (n c X : Nat) (L : List Lt) (t : Int) (hl : L.length = n) (hn : n ≤ 1000000) (hq : Rd w0 q (ltFlat L)) (hX : w0.cell? ⟨X, 0, none⟩ = some (.int .i64 t)) :
    Calls Tryd.prog 68 #[.slice q n c, loseF X] w0 fun e w' => Only [] w0 w' ∧ ((∃ (i : Nat) (o : Lt), e = .returned (.int .i64 (i : Int)) ∧ L[i]? = some o ∧ o.to = t ∧ (L.take i).filter (keepP t) = L.take i) ∨ (e = .returned (.int .i64 (-1)) ∧ L.filter (keepP t) = L)) := by
  have HX := Lib.hid hX
  have Hq := Lib.hid hq
  have Hl := Lib.hid hl
  clear hX hq hl
  unfold loseF
  go_enter Tryd.func68, Tryd.ntmps68
  go_wp2_with fail
  go_loopw [8] (fun a wr => ∃ (j : Nat), a = .int .i64 (j : Int) ∧ j ≤ n ∧ Hid (Only [] w0 wr) ∧ Hid ((L.take j).filter (keepP t) = L.take j)) (fun a _ => n - (intOf a).toNat)
  case atStart => exact ⟨0, rfl, Nat.zero_le _, Lib.hid (Only.refl _ _), Lib.hid (by simp)⟩
  case round =>
    obtain ⟨j, rfl, hj, HO, HP⟩ := hrel
    by_cases hlt : j < n
    · have hji : (j : Int) < (n : Int) := by omega
      obtain ⟨o, ho⟩ : ∃ o, L[j]? = some o := ⟨_, List.getElem?_eq_getElem (by rw [Hl.out]; exact hlt)⟩
      have hget := ltFlat_get ho
      obtain ⟨bq, oq, rfl, hcs⟩ : ∃ b off, q = some ⟨b, off, none⟩ ∧ ∀ (k : Nat) v, (ltFlat L)[k]? = some v → wr.cell? ⟨b, off + k, none⟩ = some v := by
        rcases Hq.out.only0 HO.out with h | ⟨b, off, e, h⟩
        · rw [h] at hget; cases hget.1
        · exact ⟨b, off, e, h⟩
      have c0 := hcs _ _ hget.1
      have c1 := hcs _ _ hget.2.1
      have c2 := hcs _ _ hget.2.2.1
      have c3 := hcs _ _ hget.2.2.2
      rw [← Nat.add_assoc] at c1 c2 c3
      have hXr := HO.out.cell HX.out (by simp)
      obtain ⟨b, hb⟩ : ∃ b : Bool, (o.to == t) = b := ⟨_, rfl⟩
      have h1 := lose1_any o X t b hb wr hXr
      have Ho := Lib.hid ho
      have Hb := Lib.hid hb
      clear hget hcs ho hb hXr
      go_wp2_with fail
      refine h1.mono ?_
      clear h1
      rintro e w1 ⟨rfl, o1⟩
      have HO1 := Lib.hid (HO.out.trans0 o1)
      clear o1
      cases b with
      | true =>
        go_wp2_with fail
        go_ret
        exact ⟨HO1.out, .inl ⟨j, o, rfl, Ho.out, by simpa using Hb.out, HP.out⟩⟩
      | false =>
        go_wp2_with fail
        refine ⟨⟨j + 1, by go_num, by omega, HO1, Lib.hid ?_⟩, ?_⟩
        · rw [List.take_add_one, Ho.out, List.filter_append, HP.out]
          have : keepP t o = true := by have := Hb.out; simp [keepP] at this ⊢; exact this
          simp [this]
        · show n - ((j : Int) + 1).toNat < n - ((j : Int)).toNat
          omega
    · obtain rfl : j = n := by omega
      have hji : ¬ (j : Int) < (j : Int) := by omega
      go_wp2_with fail
      go_ret
      refine ⟨HO.out, .inr ⟨rfl, ?_⟩⟩
      have := HP.out
      rw [List.take_of_length_le (by rw [Hl.out]; exact Nat.le_refl _)] at this
      first | exact this | exact List.filter_eq_self.1 this
theorem set4 {vs : List Value} {k : Nat} {a b c d : Value} (h : k + 4 ≤ vs.length) : (((vs.set k a).set (k + 1) b).set (k + 2) c).set (k + 3) d = vs.take k ++ [a, b, c, d] ++ vs.drop (k + 4) := by
  apply List.ext_getElem?
  intro j
  simp only [List.getElem?_set, List.getElem?_append, List.getElem?_take, List.length_take, List.length_append, List.length_cons, List.length_nil, List.length_set, List.getElem?_drop]
  rw [Nat.min_eq_left (by omega)]
  by_cases h1 : j < k
  · rw [if_neg (by omega), if_neg (by omega), if_neg (by omega), if_neg (by omega), if_pos (by omega), if_pos h1, if_pos h1]
  · by_cases h2 : j < k + 4
    · obtain ⟨r, rfl⟩ : ∃ r, j = k + r := ⟨j - k, by omega⟩
      have hr : r = 0 ∨ r = 1 ∨ r = 2 ∨ r = 3 := by omega
      rcases hr with rfl | rfl | rfl | rfl <;> simp [show k < vs.length by omega, show k + 1 < vs.length by omega, show k + 2 < vs.length by omega, show k + 3 < vs.length by omega] <;> (intro hh; exact absurd hh (by omega))
    · rw [if_neg (by omega), if_neg (by omega), if_neg (by omega), if_neg (by omega), if_neg (by omega)]
      congr 1
      omega
/-- a letter is written into the row's middle -/
theorem put4 {F : List Lt} {M R : List Value} {o : Lt} (hM : 4 ≤ M.length + 4) : ((((ltFlat F ++ (M ++ (o.cells ++ R))).set (F.length * 4) (.int .i64 (o.n : Int))).set (F.length * 4 + 1) (.int .i64 o.fr)).set (F.length * 4 + 2) (.int .i64 o.to)).set (F.length * 4 + 3) (.slice o.q o.xs.length o.c) = ltFlat (F ++ [o]) ++ ((M ++ o.cells).drop 4 ++ R) := by
  have hf := ltFlat_length F
  have hc : o.cells.length = 4 := rfl
  rw [set4 (by simp only [List.length_append, hf, hc]; omega), ltFlat_append, List.take_left' hf, ← List.append_assoc M o.cells R]
  rw [show F.length * 4 + 4 = (ltFlat F).length + 4 by rw [hf], List.drop_append, List.drop_of_length_le (by omega), Nat.add_sub_cancel_left, List.nil_append, List.drop_append_of_le_length (by simp only [List.length_append, hc]; omega), List.append_assoc]
  rw [List.append_assoc]
  rfl
theorem midRow {F : List Lt} {M R : List Value} {f j : Nat} (hf : F.length = f) (hM : M.length = (j - f) * 4) (hfj : f ≤ j) (r : Nat) : (ltFlat F ++ (M ++ R))[j * 4 + r]? = R[r]? := by
  have h := ltFlat_length F
  rw [hf] at h
  rw [List.getElem?_append_right (by omega), List.getElem?_append_right (by omega)]
  congr 1
  omega
set_option maxHeartbeats 8000000 in
theorem deleteFunc_any (w0 : World) (base n c X : Nat) (q : Option Addr) (L : List Lt) (t : Int) (hown : OwnK w0 base 37 4 (.slice q n c) n (ltFlat L)) (hl : L.length = n) (hn : n ≤ 1000000) (hX : w0.cell? ⟨X, 0, none⟩ = some (.int .i64 t)) (hXq : X ∉ blk q) :
    Calls Tryd.prog 61 #[.slice q n c, loseF X] w0 fun e w' => ∃ m : Nat, e = .returned (.slice q m c) ∧ m = (L.filter (keepP t)).length ∧ OwnK w' base 37 4 (.slice q m c) m (ltFlat (L.filter (keepP t))) ∧ Only (blk q) w0 w' := by
  have hif := indexFunc_any w0 q n c X L t hl hn hown.view.2.2.1 hX
  have Hown := Lib.hid hown
  have Hl := Lib.hid hl
  have HX := Lib.hid hX
  clear hown hl hX
  unfold loseF at *
  go_enter Tryd.func61, Tryd.ntmps61
  go_wp2_with fail
  refine hif.mono ?_
  clear hif
  rintro e w1 ⟨o1, ⟨i, o, rfl, ho, hto, hfi⟩ | ⟨rfl, hfi⟩⟩
  · have hi := (List.getElem?_eq_some_iff.1 ho).1
    have hln := Hl.out
    obtain ⟨g, rest, rfl, hg, r, hrl, hnc, hc⟩ := Hown.out.parts (by omega)
    have r1 := r.only0 o1
    have hXg : ¬ X = g := fun e => hXq (by simp [blk, e])
    have hi1 : ((i : Int) == -1) = false := by simp <;> omega
    have hdrop : L.drop i = o :: L.drop (i + 1) := by
      obtain ⟨hlt, e⟩ := List.getElem?_eq_some_iff.1 ho
      rw [← e, List.getElem_cons_drop]
    have hko : keepP t o = false := by simp [keepP, hto]
    have HS : Hid ((L.take i) = (L.take (i + 1)).filter (keepP t) ∧ (L.take i).length = i ∧ o.cells.length = (i + 1 - i) * 4) := Lib.hid ⟨by rw [List.take_add_one, ho, List.filter_append, hfi]; simp [hko], by rw [List.length_take]; omega, by rw [show i + 1 - i = 1 by omega]; rfl⟩
    have HR : Hid (Row w1 g 37 (ltFlat (L.take i) ++ (o.cells ++ (ltFlat (L.drop (i + 1)) ++ rest)))) := Lib.hid (by
      have e : ltFlat L ++ rest = ltFlat (L.take i) ++ (o.cells ++ (ltFlat (L.drop (i + 1)) ++ rest)) := by
        conv => lhs; rw [← List.take_append_drop i L, ltFlat_append, hdrop, show o :: L.drop (i + 1) = [o] ++ L.drop (i + 1) from rfl, ltFlat_append]
        rw [show ltFlat [o] = o.cells by simp [ltFlat]]
        simp only [List.append_assoc]
      rw [← e]; exact r1)
    have HO : Hid (Only [g] w0 w1) := Lib.hid (o1.mono (by simp))
    have Hrl := Lib.hid hrl
    have Hg := Lib.hid hg
    have hwi := IntWalk.i64_in ((i : Int) + 1) (by omega)
    have Hgx := Lib.hid hXg
    clear r r1 o1 ho hto hfi hdrop hko hrl hg hln hXq hXg
    go_wp2_with fail
    clear hwi hi1
    go_loopw [5, 6] (fun a b wr => ∃ (f j : Nat) (F : List Lt) (M : List Value), a = .int .i64 (f : Int) ∧ b = .int .i64 (j : Int) ∧ f < j ∧ j ≤ n ∧ Hid (F = (L.take j).filter (keepP t) ∧ F.length = f ∧ M.length = (j - f) * 4) ∧ Hid (Row wr g 37 (ltFlat F ++ (M ++ (ltFlat (L.drop j) ++ rest)))) ∧ Hid (Only [g] w0 wr)) (fun _ b _ => n - (intOf b).toNat)
    case atStart => exact ⟨i, i + 1, L.take i, o.cells, rfl, by go_num, by omega, by have := Hl.out; omega, HS, HR, HO⟩
    case round =>
      clear HS HR HO
      obtain ⟨f, j, F, M, rfl, rfl, hfj, hj, HS, HR, HO⟩ := hrel
      have hXr := HO.out.cell HX.out (by simpa using Hgx.out)
      by_cases hlt : j < n
      · have hji : (j : Int) < (n : Int) := by omega
        obtain ⟨o2, ho2⟩ : ∃ o, L[j]? = some o := ⟨_, List.getElem?_eq_getElem (by rw [Hl.out]; exact hlt)⟩
        have hdrop : L.drop j = o2 :: L.drop (j + 1) := by
          obtain ⟨hlt, e⟩ := List.getElem?_eq_some_iff.1 ho2
          rw [← e, List.getElem_cons_drop]
        have hrow := HR.out
        rw [hdrop, show ltFlat (o2 :: L.drop (j + 1)) = o2.cells ++ ltFlat (L.drop (j + 1)) from rfl, List.append_assoc] at hrow
        obtain ⟨R, hR⟩ : ∃ R, R = ltFlat (L.drop (j + 1)) ++ rest := ⟨_, rfl⟩
        rw [← hR] at hrow
        have hmid := midRow (R := o2.cells ++ R) HS.out.2.1 HS.out.2.2 (by omega)
        have c0 := hrow.cell ((hmid 0).trans rfl)
        have c1 := hrow.cell ((hmid 1).trans rfl)
        have c2 := hrow.cell ((hmid 2).trans rfl)
        have c3 := hrow.cell ((hmid 3).trans rfl)
        rw [Nat.add_zero] at c0
        obtain ⟨b, hb⟩ : ∃ b : Bool, (o2.to == t) = b := ⟨_, rfl⟩
        obtain ⟨w2, hw2⟩ : ∃ w2, w2 = wr.alloc (.cells #[.int .i64 (o2.n : Int), .int .i64 o2.fr, .int .i64 o2.to, .slice o2.q o2.xs.length o2.c] 37) := ⟨_, rfl⟩
        have o2' : Only [] wr w2 := by rw [hw2]; exact Only.alloc _ _
        have rB : Row w2 wr.heap.size 37 [.int .i64 (o2.n : Int), .int .i64 o2.fr, .int .i64 o2.to, .slice o2.q o2.xs.length o2.c] := by rw [hw2]; exact Row.newOf _ _ _ _ rfl
        have h1 := lose1_any o2 X t b hb w2 (o2'.cell hXr (by simp))
        have Hb := Lib.hid hb
        have Ho2 := Lib.hid ho2
        have Hrow := Lib.hid (hrow.only0 o2')
        have HrB := Lib.hid rB
        have HO2 := Lib.hid (HO.out.trans0 o2')
        have HR' := Lib.hid hR
        have hgl : g < wr.heap.size := HR.out.lt
        clear ho2 hdrop hrow hmid o2' rB hb hR HR
        go_wp2_with fail
        rw [← hw2]
        refine h1.mono ?_
        clear h1 hw2
        rintro e w3 ⟨rfl, o3⟩
        have HO3 := Lib.hid (HO2.out.trans0 o3)
        have hrow3 := Hrow.out.only0 o3
        have rB3 := HrB.out.only0 o3
        have Hrow3 := Lib.hid hrow3
        clear o3
        cases b with
        | true =>
          have HR4 : Hid (Row w3 g 37 (ltFlat F ++ ((M ++ o2.cells) ++ (ltFlat (L.drop (j + 1)) ++ rest)))) := Lib.hid (by
            have := Hrow3.out
            rw [HR'.out] at this
            rwa [List.append_assoc M])
          have HS4 : Hid (F = (L.take (j + 1)).filter (keepP t) ∧ F.length = f ∧ (M ++ o2.cells).length = (j + 1 - f) * 4) := Lib.hid ⟨by
            have hk : keepP t o2 = false := by have := Hb.out; simp at this; simp [keepP, this]
            rw [List.take_add_one, Ho2.out, List.filter_append, ← HS.out.1]
            simp [hk], HS.out.2.1, by rw [List.length_append, HS.out.2.2, show o2.cells.length = 4 from rfl]; omega⟩
          clear hrow3 rB3
          go_wp2_with fail
          refine ⟨⟨f, j + 1, F, M ++ o2.cells, rfl, by go_num, by omega, by omega, HS4, HR4, HO3⟩, ?_⟩
          show n - ((j : Int) + 1).toNat < n - ((j : Int)).toNat
          omega
        | false =>
          have hll := ltFlat_length F
          have hML := HS.out.2.2
          have hFL := HS.out.2.1
          have hlen : f * 4 + 4 ≤ (ltFlat F ++ (M ++ (o2.cells ++ R))).length := by
            simp only [List.length_append, hll, hFL, hML, show o2.cells.length = 4 from rfl]
            omega
          have d0 := hrow3.cell (List.getElem?_eq_getElem (l := ltFlat F ++ (M ++ (o2.cells ++ R))) (i := f * 4) (by omega))
          have d1 := hrow3.cell (List.getElem?_eq_getElem (l := ltFlat F ++ (M ++ (o2.cells ++ R))) (i := f * 4 + 1) (by omega))
          have d2 := hrow3.cell (List.getElem?_eq_getElem (l := ltFlat F ++ (M ++ (o2.cells ++ R))) (i := f * 4 + 2) (by omega))
          have d3 := hrow3.cell (List.getElem?_eq_getElem (l := ltFlat F ++ (M ++ (o2.cells ++ R))) (i := f * 4 + 3) (by omega))
          generalize (ltFlat F ++ (M ++ (o2.cells ++ R)))[f * 4]'_ = v0 at d0
          generalize (ltFlat F ++ (M ++ (o2.cells ++ R)))[f * 4 + 1]'_ = v1 at d1
          generalize (ltFlat F ++ (M ++ (o2.cells ++ R)))[f * 4 + 2]'_ = v2 at d2
          generalize (ltFlat F ++ (M ++ (o2.cells ++ R)))[f * 4 + 3]'_ = v3 at d3
          have f0 := hrow3.free (f * 4)
          have f1 := hrow3.free (f * 4 + 1)
          have f2 := hrow3.free (f * 4 + 2)
          have f3 := hrow3.free (f * 4 + 3)
          have b0 := rB3.cell (i := 0) rfl
          have b1 := rB3.cell (i := 1) rfl
          have b2 := rB3.cell (i := 2) rfl
          have b3 := rB3.cell (i := 3) rfl
          have hwf := IntWalk.i64_in ((f : Int) + 1) (by omega)
          have hfi : (f : Int) < (n : Int) := by omega
          have hr4 := (((hrow3.setCell (f * 4) (.int .i64 (o2.n : Int))).setCell (f * 4 + 1) (.int .i64 o2.fr)).setCell (f * 4 + 2) (.int .i64 o2.to)).setCell (f * 4 + 3) (.slice o2.q o2.xs.length o2.c)
          rw [← hFL, put4 (by omega), hFL, HR'.out] at hr4
          have HR4 := Lib.hid hr4
          have HS4 : Hid (F ++ [o2] = (L.take (j + 1)).filter (keepP t) ∧ (F ++ [o2]).length = f + 1 ∧ ((M ++ o2.cells).drop 4).length = (j + 1 - (f + 1)) * 4) := Lib.hid ⟨by
            have hk : keepP t o2 = true := by have := Hb.out; simp at this; simp [keepP, this]
            rw [List.take_add_one, Ho2.out, List.filter_append, ← HS.out.1]
            simp [hk], by simp [hFL], by rw [List.length_drop, List.length_append, hML, show o2.cells.length = 4 from rfl]; omega⟩
          have HO4 : Hid (Only [g] w0 ((((w3.setCell ⟨g, f * 4, none⟩ (.int .i64 (o2.n : Int))).setCell ⟨g, f * 4 + 1, none⟩ (.int .i64 o2.fr)).setCell ⟨g, f * 4 + 2, none⟩ (.int .i64 o2.to)).setCell ⟨g, f * 4 + 3, none⟩ (.slice o2.q o2.xs.length o2.c))) := Lib.hid ((((HO3.out.trans (Only.setCell _ ⟨g, f * 4, none⟩ _) (fun i hi _ => hi)).trans (Only.setCell _ ⟨g, f * 4 + 1, none⟩ _) (fun i hi _ => hi)).trans (Only.setCell _ ⟨g, f * 4 + 2, none⟩ _) (fun i hi _ => hi)).trans (Only.setCell _ ⟨g, f * 4 + 3, none⟩ _) (fun i hi _ => hi))
          clear hrow3 rB3 hll hML hFL hlen hr4
          go_wp2_with fail
          refine ⟨⟨f + 1, j + 1, F ++ [o2], (M ++ o2.cells).drop 4, by go_num, by go_num, by omega, by omega, HS4, HR4, HO4⟩, ?_⟩
          show n - ((j : Int) + 1).toNat < n - ((j : Int)).toNat
          omega
      · obtain rfl : j = n := by omega
        have hji : ¬ (j : Int) < (j : Int) := by omega
        have hfe := ltFlat_length F
        obtain ⟨hF, hFL, hML⟩ := HS.out
        rw [hFL] at hfe
        rw [List.take_of_length_le (by rw [Hl.out]; exact Nat.le_refl _)] at hF
        have hrow := HR.out
        rw [List.drop_of_length_le (by rw [Hl.out]; exact Nat.le_refl _), show ltFlat [] = [] from rfl, List.nil_append] at hrow
        have hrestl : rest.length = (c - j) * 4 := by
          have h1 := Hrl.out
          rw [List.length_append, ltFlat_length, Hl.out] at h1
          omega
        obtain ⟨Z2, w6, hcl, r6, hZ2, o6⟩ := clear_lt wr (g := g) (s := f) (m := j - f) (c := c - f) hrow (by simp only [List.length_append, hfe, hML, hrestl]; omega) (by omega)
        rw [List.take_append_of_le_length (by omega), List.take_of_length_le (l := ltFlat F) (by omega), List.append_assoc] at r6
        have own6 : OwnK w6 base 37 4 (.slice (some ⟨g, 0, none⟩) f c) f (ltFlat (L.filter (keepP t))) := by
          rw [← hF]
          refine ⟨hfe, .inr ⟨g, c, _, rfl, Hg.out, r6, by omega, by simp [maxLen]; omega, ?_, by simp [List.take_left' hfe]⟩⟩
          simp only [List.size_toArray, List.length_append, List.length_drop, hfe, hZ2, hML, hrestl]
          omega
        have Hown6 := Lib.hid own6
        have Hm : Hid (f = (L.filter (keepP t)).length) := Lib.hid (by rw [← hF]; exact hFL.symm)
        have HO6 : Hid (Only [g] w0 w6) := Lib.hid (HO.out.trans o6 (fun i hi _ => hi))
        have hmc : (f : Int) ≤ (c : Int) := by omega
        have hmj : (f : Int) ≤ (j : Int) := by omega
        have hcm : ¬ c = f := by omega
        clear hrow r6 hZ2 o6 own6 hF hFL hML hrestl hfe
        go_wp2_with fail
        go_ret
        exact ⟨f, rfl, Hm.out, Hown6.out, HO6.out⟩
  · have HO := Lib.hid o1
    have Hf := Lib.hid hfi
    have hown1 := Lib.hid (Hown.out.only0 o1)
    clear o1 hfi
    go_wp2_with fail
    go_ret
    refine ⟨n, rfl, by rw [Hf.out, Hl.out], by rw [Hf.out]; exact hown1.out, HO.out.mono (by simp)⟩
theorem bbs_sub {M L : List Lt} (hs : M.Sublist L) : (bbs M).Sublist (bbs L) := by
  unfold bbs
  induction hs with
  | slnil => simp
  | cons a _ ih => rw [List.flatMap_cons]; exact List.Sublist.trans ih (List.sublist_append_right _ _)
  | cons_cons a _ ih => rw [List.flatMap_cons, List.flatMap_cons]; exact List.Sublist.append (List.Sublist.refl _) ih
/-- a net whose row has lost letters -/
theorem NetAt.subl {w w' : World} {base B n c last m : Nat} {q : Option Addr} {L M : List Lt} (h : NetAt w base B q n c last L) (hs : M.Sublist L) (hm : M.length = m) (hst : Row w' B 89 [.slice q m c, .int .i64 (last : Int)]) (hown : OwnK w' base 37 4 (.slice q m c) m (ltFlat M)) (ho : Only (B :: blk q) w w') : NetAt w' base B q m c last M := by
  have hb : (bbs M).Sublist (bbs L) := bbs_sub hs
  have hsub : (B :: (blk q ++ bbs M)).Sublist (B :: (blk q ++ bbs L)) := (List.Sublist.append (List.Sublist.refl _) hb).cons_cons _
  have hnd := List.nodup_cons.1 h.nd
  refine ⟨hst, hown, fun o ho2 => ?_, hm, List.Nodup.sublist hsub h.nd, h.lo.1, fun x hx => h.lo.2 x (hb.subset hx)⟩
  have hmm := hs.subset ho2
  refine (h.ok o hmm).only ho (fun x hx hmx => ?_)
  have h3 := bbs_mem hmm hx
  rcases List.mem_cons.1 hmx with e | e
  · exact hnd.1 (by rw [← e]; exact List.mem_append_right _ h3)
  · exact (List.nodup_append.1 hnd.2).2.2 x e x h3 rfl
set_option maxHeartbeats 4000000 in
theorem lose_any (w0 : World) (base B : Nat) (q : Option Addr) (n c last : Nat) (L : List Lt) (h : NetAt w0 base B q n c last L) (hn : n ≤ 1000000) (t : Int) :
    Calls Tryd.prog 47 #[.pointer (some ⟨B, 0, none⟩), .int .i64 t] w0 fun e w' => ∃ m : Nat, e = .returned (.int .i64 ((n : Int) - (m : Int))) ∧ m ≤ n ∧ NetAt w' base B q m c last (L.filter (keepP t)) ∧ Only (B :: blk q) w0 w' := by
  obtain ⟨w1, hw1⟩ : ∃ w1, w1 = w0.alloc (.cells #[.int .i64 t] 3) := ⟨_, rfl⟩
  have o1 : Only [] w0 w1 := by rw [hw1]; exact Only.alloc _ _
  have rX : Row w1 w0.heap.size 3 [.int .i64 t] := by rw [hw1]; exact Row.newOf _ _ _ _ rfl
  have hn1 := h.only0 o1
  have hdf := deleteFunc_any w1 base n c w0.heap.size q L t hn1.own hn1.len hn (rX.cell (i := 0) rfl) (fun hm => by have := (h.blk_lt _ hm).2; omega)
  have cB := hn1.st.cell (i := 0) rfl
  have hBlt := h.st.lt
  have hBq : B ∉ blk q := fun hm => (List.nodup_cons.1 h.nd).1 (List.mem_append_left _ hm)
  have H := Lib.hid h
  have H1 := Lib.hid hn1
  have HO1 := Lib.hid o1
  have HBq := Lib.hid hBq
  have Hw1 := Lib.hid hw1
  rw [hw1] at cB
  clear h hn1 rX o1 hBq hw1
  unfold loseF at *
  go_enter Tryd.func47, Tryd.ntmps47
  go_wp2_with fail
  rw [← Hw1.out]
  refine hdf.mono ?_
  clear hdf cB
  rintro e w2 ⟨m, rfl, hm, own2, o2⟩
  have rB := H1.out.st.only o2 HBq.out
  have cB := rB.cell (i := 0) rfl
  have fB := rB.free 0
  have hmn : m ≤ n := by rw [hm, ← H.out.len]; exact List.length_filter_le _ _
  have oS : Only [B] w2 (w2.setCell ⟨B, 0, none⟩ (.slice q m c)) := Only.setCell w2 ⟨B, 0, none⟩ _
  have hO : Only (B :: blk q) w0 (w2.setCell ⟨B, 0, none⟩ (.slice q m c)) := ((HO1.out.mono (by simp)).trans (o2.mono (fun x hx => List.mem_cons_of_mem _ hx)) (fun i hi _ => hi)).trans (oS.mono (by simp)) (fun i hi _ => hi)
  have HN := Lib.hid (H.out.subl (m := m) List.filter_sublist hm.symm (rB.setCell 0 _) (own2.only oS (fun k hk hmk => by
    obtain rfl : k = B := by simpa using hmk
    exact HBq.out (blkOwn hk))) hO)
  have HO := Lib.hid hO
  have hw := IntWalk.i64_in ((n : Int) - (m : Int)) (by omega)
  have hXne : ¬ B = w0.heap.size := by omega
  clear hm own2 o2 rB oS hO
  go_wp2_with fail
  go_ret
  exact ⟨m, rfl, hmn, HN.out, HO.out⟩
end Go.Proofs.YtlgcclhepegggaaDoor
