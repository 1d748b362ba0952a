/- The walks of mac.Derive and bollardref04.Derive. -/
import Derived.Test.YtmddehbfimpjdaaRefMacW
import Derived.Test.YtmddehbfimpjdaaMacSumW
import Derived.Test.YtmddehbfimpjdaaOpenStrs
import Derived.Test.YtmddehbfimpjdaaBox32
import Derived.Laws.Concat
set_option linter.unusedVariables false
namespace Go.Proofs.Ytmddehbfimpjdaa
open Go.RowKit

/-- a key made of a first one and words -/
def deriveB (key : List UInt8) (words : List (List UInt8)) : List UInt8 := words.foldl macB key
def bollard : List UInt8 := [66, 79, 76, 76, 65, 82, 68]
theorem deriveB_snoc (key : List UInt8) (ws : List (List UInt8)) (w : List UInt8) : deriveB key (ws ++ [w]) = macB (deriveB key ws) w := by unfold deriveB; rw [List.foldl_append]; rfl
theorem deriveB_app (key : List UInt8) (ws vs : List (List UInt8)) : deriveB key (ws ++ vs) = deriveB (deriveB key ws) vs := by unfold deriveB; rw [List.foldl_append]
theorem cat_bytes (xs : List UInt8) : (⟨#[66, 79, 76, 76, 65, 82, 68]⟩ ++ ⟨xs.toArray⟩ : ByteArray) = ⟨(bollard ++ xs).toArray⟩ := by
  apply ByteArray.ext
  rw [ByteArray.data_append]
  apply Array.ext'
  simp [bollard]

set_option maxHeartbeats 4000000 in
theorem macDerive_any (q : Option Addr) (xs : List UInt8) (S : ByteArray) (ss : List (List UInt8)) (n c : Nat) (ww : World) (hS : S = ⟨xs.toArray⟩) (hb : xs.length ≤ 140737488351232) (hn : ss.length = n) (hn2 : n ≤ 9223372036854775807) (hq : q = none → n = 0 ∧ c = 0) (hx : Strs ww q ss) :
    Calls Try.prog 25 #[.string S, .slice q n c] ww fun e w' => ∃ p m d, e = .returned (.slice p m d) ∧ Rd w' p (u8s (deriveB (bollard ++ xs) ss)) ∧ (deriveB (bollard ++ xs) ss).length = m ∧ (p = none → m = 0 ∧ d = 0) ∧ m ≤ 140737488351239 ∧ m ≤ d ∧ Only [] ww w' := by
  have hsz : S.size = xs.length := by rw [hS]; simp [ByteArray.size]
  have hadd := run_string_add_sum (P := Try.prog) ⟨#[66, 79, 76, 76, 65, 82, 68]⟩ S (w := ww) (by rw [hsz]; show 7 + _ ≤ _; omega)
  obtain ⟨T, hT⟩ : ∃ T : ByteArray, T = ⟨#[66, 79, 76, 76, 65, 82, 68]⟩ ++ S := ⟨_, rfl⟩
  rw [← hT] at hadd
  have hT2 : T = ⟨(bollard ++ xs).toArray⟩ := by rw [hT, hS]; exact cat_bytes xs
  obtain ⟨K, hK⟩ : ∃ K, K = bollard ++ xs := ⟨_, rfl⟩
  have hKl : K.length ≤ 140737488351239 := by rw [hK, List.length_append]; show 7 + _ ≤ _; omega
  rw [← hK] at hT2 ⊢
  obtain ⟨g1, c1, w1, hcv, hg1, hr1, ho1, hc1⟩ := conv_str ww T K hT2 K.length rfl
  obtain ⟨k, hk⟩ : ∃ k, k = K.length := ⟨_, rfl⟩
  rw [← hk] at hcv hKl hc1
  have Hk := Lib.hid hk
  have R1 := Lib.hid hr1
  have Ho1 := Lib.hid ho1
  have Hx := Lib.hid hx
  have Hn := Lib.hid hn
  clear hk hK hT hT2 hr1 ho1 hg1 hx hn hsz hS
  go_enter Try.func25, Try.ntmps25
  go_wp2_with fail
  go_loopw [14, 5] (fun i s wr => ∃ (j : Nat) (p : Option Addr) (m d : Nat) (B : List UInt8), i = .int .i64 (j : Int) ∧ s = .slice p m d ∧ j ≤ n ∧ Hid (B = deriveB K (ss.take j)) ∧ Hid (B.length = m) ∧ Hid (m ≤ 140737488351239 ∧ m ≤ d) ∧ Hid (p = none → m = 0 ∧ d = 0) ∧ Hid (Rd wr p (u8s B)) ∧ Hid (Only [] ww wr)) (fun i _ _ => n - (intOf i).toNat)
  case atStart => exact ⟨0, _, k, _, K, rfl, rfl, by omega, Lib.hid rfl, Lib.hid Hk.out.symm, Lib.hid ⟨hKl, hc1⟩, Lib.hid (by simp), R1, Ho1⟩
  case round =>
    clear R1 Ho1 hcv hc1
    obtain ⟨j, p, m, d, B0, rfl, rfl, hj, HB0, Hm, Hmb, Hp, R, Ho⟩ := hrel
    by_cases hlt : j < n
    · have hji : (j : Int) < (n : Int) := by omega
      obtain ⟨s, hs⟩ : ∃ s, ss[j]? = some s := ⟨_, List.getElem?_eq_getElem (by rw [Hn.out]; exact hlt)⟩
      obtain ⟨b, off, rfl, hsl, hc⟩ := (Hx.out.only0 Ho.out) j s hs
      obtain ⟨U, hU⟩ : ∃ U : ByteArray, U = ⟨s.toArray⟩ := ⟨_, rfl⟩
      rw [← hU] at hc
      obtain ⟨g2, c2, w2, hcv2, hg2, hr2, ho2, hc2⟩ := conv_str wr U s hU s.length rfl
      obtain ⟨l, hl⟩ : ∃ l, l = s.length := ⟨_, rfl⟩
      rw [← hl] at hcv2 hsl
      have Hl := Lib.hid hl
      have R2 := Lib.hid hr2
      have Ho2 := Lib.hid (Ho.out.trans0 ho2)
      have Rk := Lib.hid (R.out.only0 ho2)
      have Hs := Lib.hid hs
      clear hl hr2 ho2 hs hU R Ho hg2 hc2
      go_wp2_with fail
      (with_reducible refine (macSum_any p (some ⟨g2, 0, none⟩) B0 s m d l c2 w2 Hm.out (by have := Hmb.out.1; omega) Hp.out Rk.out Hl.out.symm (by omega) (by simp) R2.out).mono ?_)
      rintro e w4 ⟨rfl, h4⟩
      have ho4 := Ho2.out.trans0 h4
      have hlB := macB_len B0 s
      have HB : Hid (macB B0 s = deriveB K (ss.take (j + 1))) := Lib.hid (by
        rw [List.take_add_one, Hs.out, HB0.out]; exact (deriveB_snoc K _ s).symm)
      clear HB0
      generalize macB B0 s = B at hlB HB ⊢
      obtain ⟨w5, Hst, hrow, o5, -⟩ := box32 w4 B hlB
      have Hrow := Lib.hid hrow.rd0
      have Hlow := Lib.hid (ho4.trans0 o5)
      clear o5 hrow
      clear ho4 h4 hcv2 hc
      go_wp2_with (first | ((with_reducible show wpList _ _ _ _ _ _); refine wpl_store (ty := 25) (x := .tmp 8) (y := .tmp 21) rfl rfl rfl rfl Hst.out ?_))
      refine ⟨⟨j + 1, _, 32, 32, B, by go_num, rfl, by omega, HB, Lib.hid hlB, Lib.hid ⟨by omega, by omega⟩, Lib.hid (by simp), Hrow, Hlow⟩, by simp [intOf]; omega⟩
    · obtain rfl : j = n := by omega
      have hji : ¬ (j : Int) < (j : Int) := by omega
      have HB : Hid (B0 = deriveB K ss) := Lib.hid (by have := HB0.out; rwa [List.take_of_length_le (by rw [Hn.out]; exact Nat.le_refl _)] at this)
      go_wp2_with fail
      go_ret
      exact ⟨p, m, d, rfl, by rw [← HB.out]; exact R.out, by rw [← HB.out]; exact Hm.out, Hp.out, Hmb.out.1, Hmb.out.2, Ho.out⟩

set_option maxHeartbeats 4000000 in
theorem refDerive_any (q : Option Addr) (xs : List UInt8) (S : ByteArray) (ss : List (List UInt8)) (n c : Nat) (ww : World) (hS : S = ⟨xs.toArray⟩) (hb : xs.length ≤ 140737488351232) (hn : ss.length = n) (hn2 : n ≤ 9223372036854775807) (hq : q = none → n = 0 ∧ c = 0) (hx : Strs ww q ss) :
    Calls Try.prog 26 #[.string S, .slice q n c] ww fun e w' => ∃ p m d, e = .returned (.slice p m d) ∧ Rd w' p (u8s (deriveB (bollard ++ xs) ss)) ∧ (deriveB (bollard ++ xs) ss).length = m ∧ (p = none → m = 0 ∧ d = 0) ∧ m ≤ 140737488351239 ∧ m ≤ d ∧ Only [] ww w' := by
  have hsz : S.size = xs.length := by rw [hS]; simp [ByteArray.size]
  have hadd := run_string_add_sum (P := Try.prog) ⟨#[66, 79, 76, 76, 65, 82, 68]⟩ S (w := ww) (by rw [hsz]; show 7 + _ ≤ _; omega)
  obtain ⟨T, hT⟩ : ∃ T : ByteArray, T = ⟨#[66, 79, 76, 76, 65, 82, 68]⟩ ++ S := ⟨_, rfl⟩
  rw [← hT] at hadd
  have hT2 : T = ⟨(bollard ++ xs).toArray⟩ := by rw [hT, hS]; exact cat_bytes xs
  obtain ⟨K, hK⟩ : ∃ K, K = bollard ++ xs := ⟨_, rfl⟩
  have hKl : K.length ≤ 140737488351239 := by rw [hK, List.length_append]; show 7 + _ ≤ _; omega
  rw [← hK] at hT2 ⊢
  obtain ⟨g1, c1, w1, hcv, hg1, hr1, ho1, hc1⟩ := conv_str ww T K hT2 K.length rfl
  obtain ⟨k, hk⟩ : ∃ k, k = K.length := ⟨_, rfl⟩
  rw [← hk] at hcv hKl hc1
  have Hk := Lib.hid hk
  have R1 := Lib.hid hr1
  have Ho1 := Lib.hid ho1
  have Hx := Lib.hid hx
  have Hn := Lib.hid hn
  clear hk hK hT hT2 hr1 ho1 hg1 hx hn hsz hS
  go_enter Try.func26, Try.ntmps26
  go_wp2_with fail
  go_loopw [14, 5] (fun i s wr => ∃ (j : Nat) (p : Option Addr) (m d : Nat) (B : List UInt8), i = .int .i64 (j : Int) ∧ s = .slice p m d ∧ j ≤ n ∧ Hid (B = deriveB K (ss.take j)) ∧ Hid (B.length = m) ∧ Hid (m ≤ 140737488351239 ∧ m ≤ d) ∧ Hid (p = none → m = 0 ∧ d = 0) ∧ Hid (Rd wr p (u8s B)) ∧ Hid (Only [] ww wr)) (fun i _ _ => n - (intOf i).toNat)
  case atStart => exact ⟨0, _, k, _, K, rfl, rfl, by omega, Lib.hid rfl, Lib.hid Hk.out.symm, Lib.hid ⟨hKl, hc1⟩, Lib.hid (by simp), R1, Ho1⟩
  case round =>
    clear R1 Ho1 hcv hc1
    obtain ⟨j, p, m, d, B0, rfl, rfl, hj, HB0, Hm, Hmb, Hp, R, Ho⟩ := hrel
    by_cases hlt : j < n
    · have hji : (j : Int) < (n : Int) := by omega
      obtain ⟨s, hs⟩ : ∃ s, ss[j]? = some s := ⟨_, List.getElem?_eq_getElem (by rw [Hn.out]; exact hlt)⟩
      obtain ⟨b, off, rfl, hsl, hc⟩ := (Hx.out.only0 Ho.out) j s hs
      obtain ⟨U, hU⟩ : ∃ U : ByteArray, U = ⟨s.toArray⟩ := ⟨_, rfl⟩
      rw [← hU] at hc
      obtain ⟨g2, c2, w2, hcv2, hg2, hr2, ho2, hc2⟩ := conv_str wr U s hU s.length rfl
      obtain ⟨l, hl⟩ : ∃ l, l = s.length := ⟨_, rfl⟩
      rw [← hl] at hcv2 hsl
      have Hl := Lib.hid hl
      have R2 := Lib.hid hr2
      have Ho2 := Lib.hid (Ho.out.trans0 ho2)
      have Rk := Lib.hid (R.out.only0 ho2)
      have Hs := Lib.hid hs
      clear hl hr2 ho2 hs hU R Ho hg2 hc2
      go_wp2_with fail
      (with_reducible refine (refMac_any p (some ⟨g2, 0, none⟩) B0 s m d l c2 w2 Hm.out (by have := Hmb.out.1; omega) Hp.out Rk.out Hl.out.symm (by omega) (by simp) R2.out).mono ?_)
      rintro e w4 ⟨rfl, h4⟩
      have ho4 := Ho2.out.trans0 h4
      have hlB := macB_len B0 s
      have HB : Hid (macB B0 s = deriveB K (ss.take (j + 1))) := Lib.hid (by
        rw [List.take_add_one, Hs.out, HB0.out]; exact (deriveB_snoc K _ s).symm)
      clear HB0
      generalize macB B0 s = B at hlB HB ⊢
      obtain ⟨w5, Hst, hrow, o5, -⟩ := box32 w4 B hlB
      have o6 : Only [] w5 (w5.alloc (.cells #[] 5)) := Only.alloc _ _
      have ow6 : Own (w5.alloc (.cells #[] 5)) w5.heap.size 5 (.slice (some ⟨w5.heap.size, 0, none⟩) 0 0) [] := Own.ofRow (vs := []) (rest := []) (Nat.le_refl _) (Row.new w5 _ []) rfl (by omega)
      obtain ⟨p', c', w7, hr, o7, h7⟩ := append_fresh (P := Try.prog) (bytes := 1) (c := 32) (q := some ⟨w4.heap.size, 0, none⟩) (m := 32) (news := u8s B) (t := 22) (ty := 22) (w5.alloc (.cells #[] 5)) Try.underlying22 infoU8s rfl ow6 ((hrow.only0 o6).rd0) (by rw [u8s_length, hlB]) (by simp) (fun v hv => u8s_one hv) (by omega) (by omega) o6.size
      have Hr := Lib.hid hr
      have Hv := Lib.hid o7.view
      have Hlow := Lib.hid ((ho4.trans0 o5).trans0 (o6.trans0 h7))
      clear hr o7 h7 ow6 o6 o5 hrow
      clear ho4 h4 hcv2 hc
      go_wp2_with (first | ((with_reducible show wpList _ _ _ _ _ _); refine wpl_store (ty := 25) (x := .tmp 8) (y := .tmp 21) rfl rfl rfl rfl Hst.out ?_) | (at_builtin; refine wpl_append (s := .tmp 22) (x := .tmp 23) rfl rfl rfl rfl Hr.out ?_))
      refine ⟨⟨j + 1, p', 32, c', B, by go_num, rfl, by omega, HB, Lib.hid hlB, Lib.hid ⟨by omega, Hv.out.2.2.2.1⟩, Lib.hid Hv.out.2.2.1, Lib.hid Hv.out.1, Hlow⟩, by simp [intOf]; omega⟩
    · obtain rfl : j = n := by omega
      have hji : ¬ (j : Int) < (j : Int) := by omega
      have HB : Hid (B0 = deriveB K ss) := Lib.hid (by have := HB0.out; rwa [List.take_of_length_le (by rw [Hn.out]; exact Nat.le_refl _)] at this)
      go_wp2_with fail
      go_ret
      exact ⟨p, m, d, rfl, by rw [← HB.out]; exact R.out, by rw [← HB.out]; exact Hm.out, Hp.out, Hmb.out.1, Hmb.out.2, Ho.out⟩

end Go.Proofs.Ytmddehbfimpjdaa
