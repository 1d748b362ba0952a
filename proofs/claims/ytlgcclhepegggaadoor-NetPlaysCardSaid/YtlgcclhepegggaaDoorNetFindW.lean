/- The walks of cmp.Compare, slices.BinarySearchFunc over letters, (*net.Net).find. -/
import Derived.Test.YtlgcclhepegggaaDoorNetBase
import Derived.Test.YtlgcclhepegggaaDoorErrNumW
set_option linter.unusedVariables false
set_option maxRecDepth 100000
namespace Go.Proofs.YtlgcclhepegggaaDoor
open Go.RowKit

def cmpI (a b : Int) : Int := if a < b then -1 else if b < a then 1 else 0
theorem isNaN_any (a : Int) (w : World) : Calls Tryd.prog 67 #[.int .i64 a] w fun e w' => e = .returned (.bool false) ∧ w = w' := by
  go_enter Tryd.func67, Tryd.ntmps67
  go_wp2_with fail
  go_ret
  exact ⟨rfl, rfl⟩
theorem compare_any (a b : Int) (w : World) : Calls Tryd.prog 58 #[.int .i64 a, .int .i64 b] w fun e w' => e = .returned (.int .i64 (cmpI a b)) ∧ w = w' := by
  have ha := isNaN_any a w
  have hb := isNaN_any b w
  unfold cmpI
  by_cases h1 : a < b
  · rw [if_pos h1]
    go_enter Tryd.func58, Tryd.ntmps58
    go_wp2_with fail
    (with_reducible refine (ha).mono ?_)
    rintro e w' ⟨rfl, rfl⟩
    go_wp2_with fail
    (with_reducible refine (hb).mono ?_)
    rintro e w' ⟨rfl, rfl⟩
    go_wp2_with fail
    go_ret
    exact ⟨rfl, rfl⟩
  · rw [if_neg h1]
    by_cases h2 : b < a
    · rw [if_pos h2]
      go_enter Tryd.func58, Tryd.ntmps58
      go_wp2_with fail
      (with_reducible refine (ha).mono ?_)
      rintro e w' ⟨rfl, rfl⟩
      go_wp2_with fail
      (with_reducible refine (hb).mono ?_)
      rintro e w' ⟨rfl, rfl⟩
      go_wp2_with fail
      go_ret
      exact ⟨rfl, rfl⟩
    · rw [if_neg h2]
      go_enter Tryd.func58, Tryd.ntmps58
      go_wp2_with fail
      (with_reducible refine (ha).mono ?_)
      rintro e w' ⟨rfl, rfl⟩
      go_wp2_with fail
      (with_reducible refine (hb).mono ?_)
      rintro e w' ⟨rfl, rfl⟩
      go_wp2_with fail
      go_ret
      exact ⟨rfl, rfl⟩
theorem findCmp_any (o : Lt) (x : Int) (w : World) : Calls Tryd.prog 57 #[.agg #[.int .i64 (o.n : Int), .int .i64 o.fr, .int .i64 o.to, .slice o.q o.xs.length o.c], .int .i64 x] w fun e w' => e = .returned (.int .i64 (cmpI (o.n : Int) x)) ∧ Only [] w w' := by
  have hc := fun w => compare_any (o.n : Int) x w
  generalize cmpI (o.n : Int) x = v at *
  go_enter Tryd.func57, Tryd.ntmps57
  go_wp2_with fail
  (with_reducible refine (hc _).mono ?_)
  rintro e w' ⟨rfl, rfl⟩
  go_wp2_with fail
  go_ret
  exact ⟨rfl, Only.alloc _ _⟩
set_option maxHeartbeats 4000000 in
theorem search_any (x : Int) (w0 : World) (base B : Nat) (q : Option Addr) (n c last : Nat) (L : List Lt) (h : NetAt w0 base B q n c last L) (hr : Rises last L) (hn : n ≤ 1000000) :
    Calls Tryd.prog 56 #[.slice q n c, .int .i64 x, .func (.func 57) #[] #[]] w0 fun e w' => ∃ i : Nat, ∃ b : Bool, e = .returned (.tuple #[.int .i64 (i : Int), .bool b]) ∧ i ≤ n ∧ (b = true → ∃ o, L[i]? = some o ∧ (o.n : Int) = x) ∧ (b = false → ∀ o ∈ L, (o.n : Int) ≠ x) ∧ Only [] w0 w' := by
  have H := Lib.hid h
  have Hr := Lib.hid hr
  clear h hr
  go_enter Tryd.func56, Tryd.ntmps56
  go_wp2_with fail
  go_loopw [9, 10] (fun a b wr => ∃ i j : Nat, a = .int .i64 (i : Int) ∧ b = .int .i64 (j : Int) ∧ i ≤ j ∧ j ≤ n ∧ Hid (∀ t o, t < i → L[t]? = some o → (o.n : Int) < x) ∧ Hid (∀ t o, j ≤ t → L[t]? = some o → x ≤ (o.n : Int)) ∧ Hid (Only [] w0 wr)) (fun a b _ => (intOf b).toNat - (intOf a).toNat)
  case atStart => exact ⟨0, n, rfl, rfl, Nat.zero_le _, Nat.le_refl _, Lib.hid (fun t o h => by omega), Lib.hid (fun t o h1 h2 => by have := (List.getElem?_eq_some_iff.1 h2).1; have := H.out.len; omega), Lib.hid (Only.refl _ _)⟩
  case round =>
    obtain ⟨i, j, rfl, rfl, hij, hjn, Hlo, Hhi, HO⟩ := hrel
    by_cases hlt : i < j
    · have hii : (i : Int) < (j : Int) := by omega
      obtain ⟨t, ht⟩ : ∃ t, t = (i + j) / 2 := ⟨_, rfl⟩
      have hmid : ((i : Int) + (j : Int)) / 2 = (t : Int) := by omega
      have hti : i ≤ t ∧ t < j := by omega
      have htn : (t : Int) < (n : Int) := by omega
      clear ht
      obtain ⟨o, ho⟩ : ∃ o, L[t]? = some o := ⟨_, List.getElem?_eq_getElem (by rw [H.out.len]; omega)⟩
      obtain ⟨g, rfl, c0, c1, c2, c3⟩ := (H.out.only0 HO.out).cell ho
      have Ho := Lib.hid ho
      have hc := fun w => findCmp_any o x w
      by_cases hx : (o.n : Int) < x
      · have hcv : cmpI (o.n : Int) x = -1 := by unfold cmpI; rw [if_pos hx]
        rw [hcv] at hc
        have Hlo2 : Hid (∀ s o, s < t + 1 → L[s]? = some o → (o.n : Int) < x) := Lib.hid fun s y hs hy => by
          by_cases e : s = t
          · subst e
            rw [Ho.out] at hy
            obtain rfl := Option.some.inj hy
            exact hx
          · have := Hr.out.lt hy Ho.out (by omega); omega
        clear ho hcv hx Hlo
        go_wp2_with fail
        (with_reducible refine (hc _).mono ?_)
        rintro e w1 ⟨rfl, o1⟩
        have HO1 := Lib.hid (HO.out.trans0 o1)
        clear o1 hc
        go_wp2_with fail
        go_roundw
        case rel => exact ⟨t + 1, j, by go_num, rfl, by omega, hjn, Hlo2, Hhi, HO1⟩
        case measure => simp [intOf]; omega
      · obtain ⟨v, hv0, hcv⟩ : ∃ v : Int, ¬ v < 0 ∧ cmpI (o.n : Int) x = v := by
          refine ⟨_, ?_, rfl⟩
          unfold cmpI
          rw [if_neg hx]
          split <;> omega
        rw [hcv] at hc
        have Hhi2 : Hid (∀ s o, t ≤ s → L[s]? = some o → x ≤ (o.n : Int)) := Lib.hid fun s y hs hy => by
          by_cases e : s = t
          · subst e
            rw [Ho.out] at hy
            obtain rfl := Option.some.inj hy
            omega
          · have := Hr.out.lt Ho.out hy (by omega); omega
        clear ho hcv hx Hhi
        go_wp2_with fail
        (with_reducible refine (hc _).mono ?_)
        rintro e w1 ⟨rfl, o1⟩
        have HO1 := Lib.hid (HO.out.trans0 o1)
        clear o1 hc
        go_wp2_with fail
        go_roundw
        case rel => exact ⟨i, t, rfl, rfl, by omega, by omega, Hlo, Hhi2, HO1⟩
        case measure => simp [intOf]; omega
    · obtain rfl : i = j := by omega
      have hii : ¬ (i : Int) < (i : Int) := by omega
      by_cases hin : i < n
      · have hni : (i : Int) < (n : Int) := by omega
        obtain ⟨o, ho⟩ : ∃ o, L[i]? = some o := ⟨_, List.getElem?_eq_getElem (by rw [H.out.len]; omega)⟩
        obtain ⟨g, rfl, c0, c1, c2, c3⟩ := (H.out.only0 HO.out).cell ho
        have Ho := Lib.hid ho
        have hc := fun w => findCmp_any o x w
        by_cases hx : (o.n : Int) = x
        · have hcv : cmpI (o.n : Int) x = 0 := by unfold cmpI; rw [if_neg (by omega), if_neg (by omega)]
          rw [hcv] at hc
          have Hx := Lib.hid hx
          clear ho hcv hx
          go_wp2_with fail
          (with_reducible refine (hc _).mono ?_)
          rintro e w1 ⟨rfl, o1⟩
          have HO1 := Lib.hid (HO.out.trans0 o1)
          clear o1 hc
          go_wp2_with fail
          go_ret2
          exact ⟨i, true, rfl, hjn, fun _ => ⟨o, Ho.out, Hx.out⟩, (fun h => by cases h), HO1.out⟩
        · obtain ⟨v, hv0, hcv⟩ : ∃ v : Int, (v == 0) = false ∧ cmpI (o.n : Int) x = v := by
            refine ⟨_, ?_, rfl⟩
            unfold cmpI
            split
            · rfl
            · rw [if_pos (by omega)]; rfl
          rw [hcv] at hc
          have Hno : Hid (∀ y ∈ L, (y.n : Int) ≠ x) := Lib.hid fun y hy => by
            obtain ⟨s, hs⟩ := List.getElem?_of_mem hy
            intro e
            by_cases h1 : s < i
            · have := Hlo.out s y h1 hs; omega
            · by_cases h2 : s = i
              · subst h2
                rw [Ho.out] at hs
                obtain rfl := Option.some.inj hs
                exact hx e
              · have a1 := Hr.out.lt Ho.out hs (by omega)
                have a2 := Hhi.out i o (Nat.le_refl _) Ho.out
                omega
          clear ho hcv hx
          go_wp2_with fail
          (with_reducible refine (hc _).mono ?_)
          rintro e w1 ⟨rfl, o1⟩
          have HO1 := Lib.hid (HO.out.trans0 o1)
          clear o1 hc
          go_wp2_with fail
          go_ret2
          exact ⟨i, false, rfl, hjn, (fun h => by cases h), fun _ => Hno.out, HO1.out⟩
      · obtain rfl : i = n := by omega
        have hni : ¬ (i : Int) < (i : Int) := by omega
        have Hno : Hid (∀ y ∈ L, (y.n : Int) ≠ x) := Lib.hid fun y hy => by
          obtain ⟨s, hs⟩ := List.getElem?_of_mem hy
          have h1 := (List.getElem?_eq_some_iff.1 hs).1
          have := Hlo.out s y (by have := H.out.len; omega) hs
          omega
        go_wp2_with fail
        go_ret2
        exact ⟨i, .inl ⟨rfl, Nat.le_refl _, Hno.out, HO.out⟩⟩

set_option maxHeartbeats 4000000 in
/-- the letter's place, or none -/
theorem find_any (x : Int) (w0 : World) (base B : Nat) (q : Option Addr) (n c last : Nat) (L : List Lt) (h : NetAt w0 base B q n c last L) (hr : Rises last L) (hn : n ≤ 1000000) (a : Addr) (hE : ErrAt w0 2 a) :
    Calls Tryd.prog 42 #[.pointer (some ⟨B, 0, none⟩), .int .i64 x] w0 fun e w' => Only [] w0 w' ∧ ((∃ i o, e = .returned (.tuple #[.int .i64 ((i : Nat) : Int), .nilIface]) ∧ i < n ∧ L[i]? = some o ∧ (o.n : Int) = x) ∨ (e = .returned (.tuple #[.int .i64 0, ev a]) ∧ ∀ o ∈ L, (o.n : Int) ≠ x)) := by
  have hs := search_any x w0 base B q n c last L h hr hn
  have c0 := h.st.cell (i := 0) rfl
  have H := Lib.hid h
  have HE := Lib.hid hE
  clear h hE
  unfold ev
  go_enter Tryd.func42, Tryd.ntmps42
  go_wp2_with fail
  refine hs.mono ?_
  clear hs
  rintro e w1 ⟨i, b, rfl, hi, h1, h2, o1⟩
  cases b with
  | true =>
    obtain ⟨o, ho, hx⟩ := h1 rfl
    have Ho := Lib.hid ho
    have Hx := Lib.hid hx
    have HO := Lib.hid o1
    clear h1 h2 ho hx o1
    go_wp2_with fail
    go_ret2
    exact ⟨HO.out, .inl ⟨i, o, rfl, by have := (List.getElem?_eq_some_iff.1 Ho.out).1; have := H.out.len; omega, Ho.out, Hx.out⟩⟩
  | false =>
    have Hno := Lib.hid (h2 rfl)
    have HO := Lib.hid o1
    have hgc := (HE.out.only0 o1).cell
    clear h1 h2 o1
    go_wp2_with fail
    go_quiet (fail)
    go_wp2_with fail
    go_ret2
    exact ⟨HO.out.trans0 (Only.drewN _ _), .inr ⟨rfl, Hno.out⟩⟩
end Go.Proofs.YtlgcclhepegggaaDoor
