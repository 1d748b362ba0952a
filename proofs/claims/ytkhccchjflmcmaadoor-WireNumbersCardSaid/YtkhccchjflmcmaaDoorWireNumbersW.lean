/- The walk of WireNumbers. -/
import Derived.Test.YtkhccchjflmcmaaDoorWireAlive
import Derived.Test.YtkhccchjflmcmaaDoorBytesW
set_option linter.unusedVariables false
namespace Go.Proofs.YtkhccchjflmcmaaDoor
open Go.RowKit

theorem wireNumbers_any (a b : Int) (w : World) : Calls Tryd.prog 3 #[.int .i64 a, .int .i64 b] w fun e w' => e = .returned (.bool true) ∧ Only [] w w' := by
  have ha := and_mask63 a
  have hb := and_mask63 b
  have la := mask63_lt a
  have lb := mask63_lt b
  generalize mask63 a = A at ha la
  generalize mask63 b = B at hb lb
  have l9a := nb_len9 A la
  have l9b := nb_len9 B lb
  have l1a := nb_pos A
  have hk := nb_apart_take A B
  have hmono := nb_mono B A
  go_enter Tryd.func3, Tryd.ntmps3
  go_wp2_with fail
  (with_reducible refine (alive05 w).mono ?_)
  rintro e w1 ⟨rfl, o1⟩
  go_wp2_with fail
  (with_reducible refine (newWriter w1).mono ?_)
  rintro e w2 ⟨B2, F2, rfl, hw2, ho2, hF2⟩
  go_wp2_with fail
  (with_reducible refine (newWriter w2).mono ?_)
  rintro e w3 ⟨B3, F3, rfl, hw3, ho3, hF3⟩
  go_wp2_with fail
  have hv3 := hw2.only0 ho3
  (with_reducible refine (num_any w3 F2 B2 [] false A la hv3 (by simp; omega)).mono ?_)
  rintro e w4 ⟨rfl, F4, hw4, ho4, hF4⟩
  go_wp2_with fail
  have n24 : ∀ k ∈ F3, k ∉ F2 := fun k h3 h2 => by have := hw2.lt k h2; have := hF3 k h3; omega
  have hw34 := hw3.only ho4 n24
  (with_reducible refine (num_any w4 F3 B3 [] false B lb hw34 (by simp; omega)).mono ?_)
  rintro e w5 ⟨rfl, F5, hw5, ho5, hF5⟩
  go_wp2_with fail
  have n45 : ∀ k ∈ F4, k ∉ F3 := fun k h4 h3 => by
    rcases hF4 k h4 with h | h
    · exact n24 k h3 h
    · have := hw3.lt k h3; omega
  have hw45 := hw4.only ho5 n45
  rw [List.nil_append] at hw45 hw5
  (with_reducible refine (done_any w5 F4 B2 (nb A) hw45 (by omega)).mono ?_)
  rintro e w6 ⟨p1, c1, rfl, ow1, o6⟩
  go_wp2_with fail
  (with_reducible refine (done_any w6 F5 B3 (nb B) (hw5.only0 o6) (by omega)).mono ?_)
  rintro e w7 ⟨p2, c2, rfl, ow2, o7⟩
  have hz : Only [] w w7 := by
    have h3 := (o1.trans0 ho2).trans0 ho3
    have s1 := o1.size; have s2 := ho2.size; have s3 := ho3.size
    have h4 := h3.transN ho4 (fun k hk => by have := hF2 k hk; omega)
    have h5 := h4.transN ho5 (fun k hk => by have := hF3 k hk; omega)
    exact (h5.trans0 o6).trans0 o7
  have l1b := nb_pos B
  obtain ⟨g1, rfl, _, _⟩ := ow1.at (by omega)
  obtain ⟨g2, rfl, _, _⟩ := ow2.at (by omega)
  obtain ⟨r1, _, hp1, hc1, _, _⟩ := (ow1.only0 o7).view
  obtain ⟨r2, _, hp2, hc2, _, _⟩ := ow2.view
  clear hw2 hw3 hv3 hw4 hw34 n24 n45 hw45 hw5 o1 ho2 hF2 ho3 hF3 ho4 hF4 ho5 hF5 ow1 ow2 o6 o7
  generalize hx : nb A = xs at *
  generalize hy : nb B = ys at *
  have t1 : decide ((xs.length : Int) < 1) = false := by simp; omega
  have t2 : decide ((9 : Int) < (xs.length : Int)) = false := by simp; omega
  by_cases hab : A = B
  · subst hab
    obtain rfl : xs = ys := hx.symm.trans hy
    clear hk hmono hx hy
    go_wp2_with fail
    (with_reducible refine (sameBytes_any (some ⟨g1, 0, none⟩) (some ⟨g2, 0, none⟩) xs xs xs.length xs.length c1 c2 true w7 rfl rfl hp1 hp2 r1 r2 (by simp)).mono ?_)
    rintro e w8 ⟨rfl, rfl⟩
    go_wp2_with fail
    go_ret
    exact ⟨rfl, hz⟩
  · have t3 : ((A : Int) == (B : Int)) = false := by simp; omega
    obtain ⟨k, hk'⟩ : ∃ k, k = if ys.length < xs.length then ys.length else xs.length := ⟨_, rfl⟩
    have t4 : (if (ys.length : Int) < (xs.length : Int) then (ys.length : Int) else (xs.length : Int)) = (k : Int) := by rw [hk']; split <;> split <;> omega
    have hne := hk hab k hk'
    have k1 : k ≤ xs.length := by rw [hk']; split <;> omega
    have k2 : k ≤ ys.length := by rw [hk']; split <;> omega
    have t5 : decide ((A : Int) < (B : Int) ∧ (ys.length : Int) < (xs.length : Int)) = false := by
      rw [decide_eq_false_iff_not]
      rintro ⟨h, h'⟩
      by_cases h2 : A ≤ B
      · have := hmono h2; omega
      · omega
    have q1 : decide ((c1 : Int) < (k : Int)) = false := by simp; omega
    have q2 : decide ((c2 : Int) < (k : Int)) = false := by simp; omega
    have d1 := fun j => conv_bytes (P := Tryd.prog) (c := c1) (n := k) (w7.drewN j) Tryd.underlying26 Tryd.underlying5 Tryd.underlying9 (u8s_take xs k ▸ (r1.take k).only0 (Only.drewN w7 j)) (by rw [List.length_take]; omega) (by simp)
    have d2 := fun j => conv_bytes (P := Tryd.prog) (c := c2) (n := k) (w7.drewN j) Tryd.underlying26 Tryd.underlying5 Tryd.underlying9 (u8s_take ys k ▸ (r2.take k).only0 (Only.drewN w7 j)) (by rw [List.length_take]; omega) (by simp)
    have t6 : (List.take k xs == List.take k ys) = false := by simpa using hne
    generalize List.take k xs = X at d1 t6
    generalize List.take k ys = Y at d2 t6
    have Hmono : Hid (A < B → xs.length ≤ ys.length) := fun h => hmono (by omega)
    have Hk := Lib.hid hk'
    clear hk hne hmono hk' hx hy
    by_cases h : A < B
    · have t7 : ((A : Int) < (B : Int)) := by omega
      have t8 : ¬ ((ys.length : Int) < (xs.length : Int)) := by have := Hmono.out h; omega
      obtain rfl : k = xs.length := by rw [Hk.out, if_neg (by omega)]
      go_wp2_with fail
      go_quiet (fail)
      go_wp2_with fail
      go_ret
      exact ⟨rfl, hz.trans0 (Only.drewN _ _)⟩
    · have t7 : decide ((A : Int) < (B : Int)) = false := by simp; omega
      by_cases h2 : ys.length < xs.length
      · have t8 : ((ys.length : Int) < (xs.length : Int)) := by omega
        obtain rfl : k = ys.length := by rw [Hk.out, if_pos (by omega)]
        go_wp2_with fail
        go_quiet (fail)
        go_wp2_with fail
        go_ret
        exact ⟨rfl, hz.trans0 (Only.drewN _ _)⟩
      · have t8 : ¬ ((ys.length : Int) < (xs.length : Int)) := by omega
        obtain rfl : k = xs.length := by rw [Hk.out, if_neg (by omega)]
        go_wp2_with fail
        go_quiet (fail)
        go_wp2_with fail
        go_ret
        exact ⟨rfl, hz.trans0 (Only.drewN _ _)⟩
end Go.Proofs.YtkhccchjflmcmaaDoor
