/- The walk of bollardlaw03.ShaCuts. -/
import Derived.Test.YtmddehbfimpjdaaHashAtW
import Derived.Test.YtmddehbfimpjdaaAlive03W
set_option linter.unusedVariables false
namespace Go.Proofs.Ytmddehbfimpjdaa
open Go.RowKit

theorem modpos (x : Int) (n : Nat) : ∃ i : Nat, (x.tmod ((n : Int) + 1) + ((n : Int) + 1)) % ((n : Int) + 1) = (i : Int) ∧ i ≤ n := by
  refine ⟨((x.tmod ((n : Int) + 1) + ((n : Int) + 1)) % ((n : Int) + 1)).toNat, ?_, ?_⟩
  · have : 0 ≤ (x.tmod ((n : Int) + 1) + ((n : Int) + 1)) % ((n : Int) + 1) := Int.emod_nonneg _ (by omega)
    omega
  · have : (x.tmod ((n : Int) + 1) + ((n : Int) + 1)) % ((n : Int) + 1) < (n : Int) + 1 := Int.emod_lt_of_pos _ (by omega)
    omega
theorem Rd.addk {w : World} {p : Option Addr} {vs : List Value} (h : Rd w p vs) (k : Nat) : Rd w (p.map (fun x => x.add k)) (vs.drop k) := by
  rcases h with rfl | ⟨b, off, rfl, h⟩
  · exact .inl (by simp)
  · exact .inr ⟨b, off + k, by simp [Addr.add_lit], fun j v hv => by
      rw [List.getElem?_drop] at hv
      have := h (k + j) v hv
      rwa [← Nat.add_assoc] at this⟩
theorem cut3 (xs : List UInt8) (a b : Nat) (h : a ≤ b) : xs.take a ++ ((xs.drop a).take (b - a)) ++ xs.drop b = xs := by
  have h1 := List.take_append_drop a (xs.take b)
  rw [List.take_take, Nat.min_eq_left h, List.drop_take] at h1
  rw [h1, List.take_append_drop]
set_option maxHeartbeats 2000000 in
theorem shaCuts_walk (p : Option Addr) (xs : List UInt8) (n c : Nat) (x y : Int) (W0 : World) (hn : xs.length = n) (hb : n ≤ 140737488351232) (hnc : n ≤ c) (hc : c ≤ 140737488351232) (hp : p = none → n = 0 ∧ c = 0) (hx : Rd W0 p (u8s xs))
    (hx1 : -9223372036854775808 ≤ x ∧ x ≤ 9223372036854775807) (hy1 : -9223372036854775808 ≤ y ∧ y ≤ 9223372036854775807) :
    Calls Try.prog 7 #[.slice p n c, .int .i64 x, .int .i64 y] W0 fun e w' => e = .returned (.bool true) ∧ Only [] W0 w' := by
  obtain ⟨i, hi, hin⟩ := modpos x n
  obtain ⟨j, hj, hjn⟩ := modpos y n
  have Hi := Lib.hid hi
  have Hj := Lib.hid hj
  clear hi hj
  have hxb1 : -((n : Int) + 1) < x.tmod ((n : Int) + 1) := by have := Int.lt_tmod_of_pos x (b := (n : Int) + 1) (by omega); omega
  have hxb2 : x.tmod ((n : Int) + 1) < (n : Int) + 1 := Int.tmod_lt_of_pos _ (by omega)
  have hyb1 : -((n : Int) + 1) < y.tmod ((n : Int) + 1) := by have := Int.lt_tmod_of_pos y (b := (n : Int) + 1) (by omega); omega
  have hyb2 : y.tmod ((n : Int) + 1) < (n : Int) + 1 := Int.tmod_lt_of_pos _ (by omega)
  go_enter Try.func7, Try.ntmps7
  go_wp2_with fail
  (with_reducible refine (alive03_any W0).mono ?_)
  rintro e w1 ⟨rfl, h1⟩
  go_wp2_with fail
  have hne : (n : Int) + 1 ≠ 0 := by omega
  go_quiet (fail)
  rw [Hi.out, Hj.out]
  have ho2 : Only [] W0 (w1.drewN nq) := h1.trans0 (Only.drewN _ _)
  generalize w1.drewN nq = w2 at ho2 ⊢
  clear Hi Hj hxb1 hxb2 hyb1 hyb2 hx1 hy1 h1
  by_cases hgt : j < i
  · have hgt' : (j : Int) < (i : Int) := by omega
    go_wp2_with fail
    (with_reducible refine (new_at W0 w2 ho2).mono ?_)
    rintro e w3 ⟨B, F, rfl, hA, hA2, hF⟩
    clear hA2 hF ho2
    go_wp2_with fail
    have ht1 := hx.take j
    rw [u8s_take] at ht1
    (with_reducible refine (write_at W0 w3 F B [] (xs.take j) p j j hA ht1 (by rw [List.length_take]; omega) (fun h => by have := hp h; omega) (by omega) (by simp; omega)).mono ?_)
    rintro e w4 ⟨rfl, F4, hB, hB2, hF4⟩
    rw [List.nil_append] at hB
    clear hA hB2 hF4 ht1
    go_wp2_with fail
    (with_reducible refine (sum_at W0 w4 F4 B (xs.take j) hB (by rw [List.length_take]; omega)).mono ?_)
    rintro e w5 ⟨rfl, h5⟩
    have hC := hB.only0 h5
    clear hB h5
    go_wp2_with fail
    have ht2 := (hx.addk j).take (i - j)
    rw [u8s_drop, u8s_take] at ht2
    (with_reducible refine (write_at W0 w5 F4 B (xs.take j) ((xs.drop j).take (i - j)) (Option.map (fun x => x.add j) p) (i - j) (i - j) hC ht2 (by rw [List.length_take, List.length_drop]; omega) (fun h => by have := hp (by simpa using h); omega) (by omega) (by rw [List.length_take]; omega)).mono ?_)
    rintro e w6 ⟨rfl, F6, hD, hD2, hF6⟩
    clear hC ht2 hD2 hF6
    by_cases hcB : c = i
    · have hcB' : (c : Int) = (i : Int) := by omega
      go_wp2_with fail
      have ht3 : Rd W0 p (u8s (xs.drop i)) := by rw [List.drop_eq_nil_of_le (by omega)]; exact Rd.nil _ _
      (with_reducible refine (write_at W0 w6 F6 B _ (xs.drop i) p (n - i) 0 hD ht3 (by rw [List.length_drop]; omega) (fun h => by have := hp h; omega) (by omega) (by rw [List.length_append, List.length_take, List.length_take, List.length_drop]; omega)).mono ?_)
      rintro e w7 ⟨rfl, F7, hE, hE2, hF7⟩
      rw [cut3 xs j i (by omega)] at hE
      clear hD ht3 hE2 hF7
      go_wp2_with fail
      (with_reducible refine (sum_at W0 w7 F7 B xs hE (by omega)).mono ?_)
      rintro e w8 ⟨rfl, h8⟩
      have hG := hE.only0 h8
      clear hE h8
      go_wp2_with fail
      (with_reducible refine (shaSum_any p xs n _ w8 hn (by omega) (fun h => by have := hp h; omega) (hx.only0 hG.low)).mono ?_)
      rintro e w9 ⟨rfl, h9⟩
      have hL := hG.only0 h9
      clear hG h9
      have hlA : (shaB xs).length = 32 := rfl
      generalize shaB xs = A at hlA ⊢
      have hq := eqIn32 A A hlA hlA w9
      have hq2 := eq32 A A hlA hlA w9
      rw [beq_self_eq_true] at hq hq2
      have hgd := guard32
      go_wp2_with fail
      (with_reducible refine (len_at W0 w9 F7 B xs hL).mono ?_)
      rintro e w10 ⟨rfl, rfl⟩
      have hln : (xs.length : Int) = (n : Int) := by omega
      go_wp2_with fail
      go_ret
      exact ⟨rfl, hL.low⟩
    · have hcB' : ¬ (c : Int) = (i : Int) := by omega
      go_wp2_with fail
      have ht3 := hx.addk i
      rw [u8s_drop] at ht3
      (with_reducible refine (write_at W0 w6 F6 B _ (xs.drop i) (Option.map (fun x => x.add i) p) (n - i) (c - i) hD ht3 (by rw [List.length_drop]; omega) (fun h => by have := hp (by simpa using h); omega) (by omega) (by rw [List.length_append, List.length_take, List.length_take, List.length_drop]; omega)).mono ?_)
      rintro e w7 ⟨rfl, F7, hE, hE2, hF7⟩
      rw [cut3 xs j i (by omega)] at hE
      clear hD ht3 hE2 hF7
      go_wp2_with fail
      (with_reducible refine (sum_at W0 w7 F7 B xs hE (by omega)).mono ?_)
      rintro e w8 ⟨rfl, h8⟩
      have hG := hE.only0 h8
      clear hE h8
      go_wp2_with fail
      (with_reducible refine (shaSum_any p xs n _ w8 hn (by omega) (fun h => by have := hp h; omega) (hx.only0 hG.low)).mono ?_)
      rintro e w9 ⟨rfl, h9⟩
      have hL := hG.only0 h9
      clear hG h9
      have hlA : (shaB xs).length = 32 := rfl
      generalize shaB xs = A at hlA ⊢
      have hq := eqIn32 A A hlA hlA w9
      have hq2 := eq32 A A hlA hlA w9
      rw [beq_self_eq_true] at hq hq2
      have hgd := guard32
      go_wp2_with fail
      (with_reducible refine (len_at W0 w9 F7 B xs hL).mono ?_)
      rintro e w10 ⟨rfl, rfl⟩
      have hln : (xs.length : Int) = (n : Int) := by omega
      go_wp2_with fail
      go_ret
      exact ⟨rfl, hL.low⟩
  · have hgt' : ¬ (j : Int) < (i : Int) := by omega
    by_cases heq : i = j
    · subst heq
      go_wp2_with fail
      (with_reducible refine (new_at W0 w2 ho2).mono ?_)
      rintro e w3 ⟨B, F, rfl, hA, hA2, hF⟩
      clear hA2 hF ho2
      go_wp2_with fail
      have ht1 := hx.take i
      rw [u8s_take] at ht1
      (with_reducible refine (write_at W0 w3 F B [] (xs.take i) p i i hA ht1 (by rw [List.length_take]; omega) (fun h => by have := hp h; omega) (by omega) (by simp; omega)).mono ?_)
      rintro e w4 ⟨rfl, F4, hB, hB2, hF4⟩
      rw [List.nil_append] at hB
      clear hA hB2 hF4 ht1
      go_wp2_with fail
      (with_reducible refine (sum_at W0 w4 F4 B (xs.take i) hB (by rw [List.length_take]; omega)).mono ?_)
      rintro e w5 ⟨rfl, h5⟩
      have hC := hB.only0 h5
      clear hB h5
      go_wp2_with fail
      have ht2 : Rd W0 p (u8s ((xs.drop i).take (i - i))) := by rw [Nat.sub_self, List.take_zero]; exact Rd.nil _ _
      (with_reducible refine (write_at W0 w5 F4 B (xs.take i) ((xs.drop i).take (i - i)) p 0 0 hC ht2 (by simp) (fun _ => ⟨rfl, rfl⟩) (by omega) (by rw [List.length_take]; omega)).mono ?_)
      rintro e w6 ⟨rfl, F6, hD, hD2, hF6⟩
      clear hC ht2 hD2 hF6
      by_cases hcB : c = i
      · have hcB' : (c : Int) = (i : Int) := by omega
        go_wp2_with fail
        have ht3 : Rd W0 p (u8s (xs.drop i)) := by rw [List.drop_eq_nil_of_le (by omega)]; exact Rd.nil _ _
        (with_reducible refine (write_at W0 w6 F6 B _ (xs.drop i) p (n - i) 0 hD ht3 (by rw [List.length_drop]; omega) (fun h => by have := hp h; omega) (by omega) (by rw [List.length_append, List.length_take, List.length_take, List.length_drop]; omega)).mono ?_)
        rintro e w7 ⟨rfl, F7, hE, hE2, hF7⟩
        rw [cut3 xs i i (by omega)] at hE
        clear hD ht3 hE2 hF7
        go_wp2_with fail
        (with_reducible refine (sum_at W0 w7 F7 B xs hE (by omega)).mono ?_)
        rintro e w8 ⟨rfl, h8⟩
        have hG := hE.only0 h8
        clear hE h8
        go_wp2_with fail
        (with_reducible refine (shaSum_any p xs n _ w8 hn (by omega) (fun h => by have := hp h; omega) (hx.only0 hG.low)).mono ?_)
        rintro e w9 ⟨rfl, h9⟩
        have hL := hG.only0 h9
        clear hG h9
        have hlA : (shaB xs).length = 32 := rfl
        generalize shaB xs = A at hlA ⊢
        have hq := eqIn32 A A hlA hlA w9
        have hq2 := eq32 A A hlA hlA w9
        rw [beq_self_eq_true] at hq hq2
        have hgd := guard32
        go_wp2_with fail
        (with_reducible refine (len_at W0 w9 F7 B xs hL).mono ?_)
        rintro e w10 ⟨rfl, rfl⟩
        have hln : (xs.length : Int) = (n : Int) := by omega
        go_wp2_with fail
        go_ret
        exact ⟨rfl, hL.low⟩
      · have hcB' : ¬ (c : Int) = (i : Int) := by omega
        go_wp2_with fail
        have ht3 := hx.addk i
        rw [u8s_drop] at ht3
        (with_reducible refine (write_at W0 w6 F6 B _ (xs.drop i) (Option.map (fun x => x.add i) p) (n - i) (c - i) hD ht3 (by rw [List.length_drop]; omega) (fun h => by have := hp (by simpa using h); omega) (by omega) (by rw [List.length_append, List.length_take, List.length_take, List.length_drop]; omega)).mono ?_)
        rintro e w7 ⟨rfl, F7, hE, hE2, hF7⟩
        rw [cut3 xs i i (by omega)] at hE
        clear hD ht3 hE2 hF7
        go_wp2_with fail
        (with_reducible refine (sum_at W0 w7 F7 B xs hE (by omega)).mono ?_)
        rintro e w8 ⟨rfl, h8⟩
        have hG := hE.only0 h8
        clear hE h8
        go_wp2_with fail
        (with_reducible refine (shaSum_any p xs n _ w8 hn (by omega) (fun h => by have := hp h; omega) (hx.only0 hG.low)).mono ?_)
        rintro e w9 ⟨rfl, h9⟩
        have hL := hG.only0 h9
        clear hG h9
        have hlA : (shaB xs).length = 32 := rfl
        generalize shaB xs = A at hlA ⊢
        have hq := eqIn32 A A hlA hlA w9
        have hq2 := eq32 A A hlA hlA w9
        rw [beq_self_eq_true] at hq hq2
        have hgd := guard32
        go_wp2_with fail
        (with_reducible refine (len_at W0 w9 F7 B xs hL).mono ?_)
        rintro e w10 ⟨rfl, rfl⟩
        have hln : (xs.length : Int) = (n : Int) := by omega
        go_wp2_with fail
        go_ret
        exact ⟨rfl, hL.low⟩
    · skip
      go_wp2_with fail
      (with_reducible refine (new_at W0 w2 ho2).mono ?_)
      rintro e w3 ⟨B, F, rfl, hA, hA2, hF⟩
      clear hA2 hF ho2
      go_wp2_with fail
      have ht1 := hx.take i
      rw [u8s_take] at ht1
      (with_reducible refine (write_at W0 w3 F B [] (xs.take i) p i i hA ht1 (by rw [List.length_take]; omega) (fun h => by have := hp h; omega) (by omega) (by simp; omega)).mono ?_)
      rintro e w4 ⟨rfl, F4, hB, hB2, hF4⟩
      rw [List.nil_append] at hB
      clear hA hB2 hF4 ht1
      go_wp2_with fail
      (with_reducible refine (sum_at W0 w4 F4 B (xs.take i) hB (by rw [List.length_take]; omega)).mono ?_)
      rintro e w5 ⟨rfl, h5⟩
      have hC := hB.only0 h5
      clear hB h5
      go_wp2_with fail
      have ht2 := (hx.addk i).take (j - i)
      rw [u8s_drop, u8s_take] at ht2
      (with_reducible refine (write_at W0 w5 F4 B (xs.take i) ((xs.drop i).take (j - i)) (Option.map (fun x => x.add i) p) (j - i) (j - i) hC ht2 (by rw [List.length_take, List.length_drop]; omega) (fun h => by have := hp (by simpa using h); omega) (by omega) (by rw [List.length_take]; omega)).mono ?_)
      rintro e w6 ⟨rfl, F6, hD, hD2, hF6⟩
      clear hC ht2 hD2 hF6
      by_cases hcB : c = j
      · have hcB' : (c : Int) = (j : Int) := by omega
        go_wp2_with fail
        have ht3 : Rd W0 p (u8s (xs.drop j)) := by rw [List.drop_eq_nil_of_le (by omega)]; exact Rd.nil _ _
        (with_reducible refine (write_at W0 w6 F6 B _ (xs.drop j) p (n - j) 0 hD ht3 (by rw [List.length_drop]; omega) (fun h => by have := hp h; omega) (by omega) (by rw [List.length_append, List.length_take, List.length_take, List.length_drop]; omega)).mono ?_)
        rintro e w7 ⟨rfl, F7, hE, hE2, hF7⟩
        rw [cut3 xs i j (by omega)] at hE
        clear hD ht3 hE2 hF7
        go_wp2_with fail
        (with_reducible refine (sum_at W0 w7 F7 B xs hE (by omega)).mono ?_)
        rintro e w8 ⟨rfl, h8⟩
        have hG := hE.only0 h8
        clear hE h8
        go_wp2_with fail
        (with_reducible refine (shaSum_any p xs n _ w8 hn (by omega) (fun h => by have := hp h; omega) (hx.only0 hG.low)).mono ?_)
        rintro e w9 ⟨rfl, h9⟩
        have hL := hG.only0 h9
        clear hG h9
        have hlA : (shaB xs).length = 32 := rfl
        generalize shaB xs = A at hlA ⊢
        have hq := eqIn32 A A hlA hlA w9
        have hq2 := eq32 A A hlA hlA w9
        rw [beq_self_eq_true] at hq hq2
        have hgd := guard32
        go_wp2_with fail
        (with_reducible refine (len_at W0 w9 F7 B xs hL).mono ?_)
        rintro e w10 ⟨rfl, rfl⟩
        have hln : (xs.length : Int) = (n : Int) := by omega
        go_wp2_with fail
        go_ret
        exact ⟨rfl, hL.low⟩
      · have hcB' : ¬ (c : Int) = (j : Int) := by omega
        go_wp2_with fail
        have ht3 := hx.addk j
        rw [u8s_drop] at ht3
        (with_reducible refine (write_at W0 w6 F6 B _ (xs.drop j) (Option.map (fun x => x.add j) p) (n - j) (c - j) hD ht3 (by rw [List.length_drop]; omega) (fun h => by have := hp (by simpa using h); omega) (by omega) (by rw [List.length_append, List.length_take, List.length_take, List.length_drop]; omega)).mono ?_)
        rintro e w7 ⟨rfl, F7, hE, hE2, hF7⟩
        rw [cut3 xs i j (by omega)] at hE
        clear hD ht3 hE2 hF7
        go_wp2_with fail
        (with_reducible refine (sum_at W0 w7 F7 B xs hE (by omega)).mono ?_)
        rintro e w8 ⟨rfl, h8⟩
        have hG := hE.only0 h8
        clear hE h8
        go_wp2_with fail
        (with_reducible refine (shaSum_any p xs n _ w8 hn (by omega) (fun h => by have := hp h; omega) (hx.only0 hG.low)).mono ?_)
        rintro e w9 ⟨rfl, h9⟩
        have hL := hG.only0 h9
        clear hG h9
        have hlA : (shaB xs).length = 32 := rfl
        generalize shaB xs = A at hlA ⊢
        have hq := eqIn32 A A hlA hlA w9
        have hq2 := eq32 A A hlA hlA w9
        rw [beq_self_eq_true] at hq hq2
        have hgd := guard32
        go_wp2_with fail
        (with_reducible refine (len_at W0 w9 F7 B xs hL).mono ?_)
        rintro e w10 ⟨rfl, rfl⟩
        have hln : (xs.length : Int) = (n : Int) := by omega
        go_wp2_with fail
        go_ret
        exact ⟨rfl, hL.low⟩
end Go.Proofs.Ytmddehbfimpjdaa
