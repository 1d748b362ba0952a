/- The walks of bollardnum.SameLists, bollardlaw02.RsEncodes. -/
import Derived.Test.YtlgcclhepegggaaDoorRsRefEncW
import Derived.Test.YtlgcclhepegggaaDoorRsSizesW
import Derived.Test.YtlgcclhepegggaaDoorBytesW
set_option linter.unusedVariables false
set_option maxRecDepth 100000
namespace Go.Proofs.YtlgcclhepegggaaDoor
open Go.RowKit

theorem Lists.nil (w : World) (p : Option Addr) : Lists w p [] := fun j L h => by simp at h
set_option maxHeartbeats 2000000 in
theorem sameLists_any (p q : Option Addr) (A : List (List UInt8)) (n c d : Nat) (w : World) (hn : A.length = n) (hb : n ≤ 1000000) (hp : Lists w p A) (hq : Lists w q A) :
    Calls Tryd.prog 32 #[.slice p n c, .slice q n d] w fun e w' => e = .returned (.bool true) ∧ Only [] w w' := by
  have Hn := Lib.hid hn
  have Hp := Lib.hid hp
  have Hq := Lib.hid hq
  clear hn hp hq
  go_enter Tryd.func32, Tryd.ntmps32
  go_wp2_with fail
  go_loopw [13] (fun x wr => ∃ j : Nat, x = .int .i64 (j : Int) ∧ j ≤ n ∧ Hid (Only [] w wr)) (fun x _ => n - (intOf x).toNat)
  case atStart => exact ⟨0, rfl, Nat.zero_le _, Lib.hid (Only.refl _ _)⟩
  case round =>
    obtain ⟨j, rfl, hj, HO⟩ := hrel
    by_cases hlt : j < n
    · obtain ⟨l, hl⟩ : ∃ l, A[j]? = some l := ⟨_, List.getElem?_eq_getElem (by rw [Hn.out]; exact hlt)⟩
      obtain ⟨b3, o3, q3, c3, rfl, hc1, r3, n3, -⟩ := (Hp.out.only0 HO.out) j l hl
      obtain ⟨b4, o4, q4, c4, rfl, hc2, r4, n4, -⟩ := (Hq.out.only0 HO.out) j l hl
      have hji : (j : Int) < (n : Int) := by omega
      clear hl
      go_wp2_with fail
      -- <<S6
      refine wp_region_rg2 (Only []) [[(0, none)], [(5, none)], [(16, some 1), (17, some 0)], [(18, some 0)], [(19, some 0)], [(1, none)], [(5, none)], [(21, some 1), (22, some 0)], [(23, some 0)], [(24, some 0)], [(20, some 5), (25, some 0)]] [(26, 0)] [none, none, none, none, none, none, none, none, none, none, none, none, none, none, none, none, some 16, some 17, some 18, some 19, some 20, some 21, some 22, some 23, some 24, some 25, some 26, none] (by kernel_rfl) rfl (by kernel_rfl) (fun _ => Only.refl _ _) (fun _ _ _ h k => h.trans0 k) (Only.drew _) (by kernel_rfl) ?_
      -- 0: s16 := move t0
      apply rg_ev
      · intro a w hR hf
        obtain ⟨e0, -⟩ := hf
        replace e0 : a.tmps.getD 0 undef = _ := e0
        refine rg_plain rfl fun K hK => ?_
        go_simp
        exact hK _ _ rfl (Only.refl _ _)
      -- 1: s17 := move t5
      apply rg_ev
      · intro a w hR hf
        obtain ⟨e5, -⟩ := hf
        replace e5 : a.tmps.getD 5 undef = _ := e5
        refine rg_plain rfl fun K hK => ?_
        go_simp
        exact hK _ _ rfl (Only.refl _ _)
      -- 2: s18 := indexAddr 64 t16 t17
      apply rg_ev
      · intro a w hR hf
        obtain ⟨e16, e17, -⟩ := hf
        replace e16 : a.tmps.getD 16 undef = _ := e16
        replace e17 : a.tmps.getD 17 undef = _ := e17
        refine rg_plain rfl fun K hK => ?_
        have hji : (j : Int) < (n : Int) := by omega
        go_simp
        exact hK _ _ rfl (Only.refl _ _)
      -- 3: s19 := load 27 t18
      apply rg_ev
      · intro a w hR hf
        obtain ⟨e18, -⟩ := hf
        replace e18 : a.tmps.getD 18 undef = _ := e18
        refine rg_plain rfl fun K hK => ?_
        have h3 := hR.cell hc1 (by simp)
        go_simp
        exact hK _ _ rfl (Only.refl _ _)
      -- 4: s20 := convert 27 9 t19
      apply rg_ev
      · intro a w hR hf
        obtain ⟨e19, -⟩ := hf
        replace e19 : a.tmps.getD 19 undef = _ := e19
        refine rg_plain rfl fun K hK => ?_
        have h4 := conv_bytes (P := Tryd.prog) (c := c3) w Tryd.underlying27 Tryd.underlying5 Tryd.underlying9 (r3.only0 hR) rfl n3
        go_simp
        exact hK _ _ rfl (Only.refl _ _)
      -- 5: s21 := move t1
      apply rg_ev
      · intro a w hR hf
        obtain ⟨e1, -⟩ := hf
        replace e1 : a.tmps.getD 1 undef = _ := e1
        refine rg_plain rfl fun K hK => ?_
        go_simp
        exact hK _ _ rfl (Only.refl _ _)
      -- 6: s22 := move t5
      apply rg_ev
      · intro a w hR hf
        obtain ⟨e5, -⟩ := hf
        replace e5 : a.tmps.getD 5 undef = _ := e5
        refine rg_plain rfl fun K hK => ?_
        go_simp
        exact hK _ _ rfl (Only.refl _ _)
      -- 7: s23 := indexAddr 64 t21 t22
      apply rg_ev
      · intro a w hR hf
        obtain ⟨e21, e22, -⟩ := hf
        replace e21 : a.tmps.getD 21 undef = _ := e21
        replace e22 : a.tmps.getD 22 undef = _ := e22
        refine rg_plain rfl fun K hK => ?_
        have hji : (j : Int) < (n : Int) := by omega
        go_simp
        exact hK _ _ rfl (Only.refl _ _)
      -- 8: s24 := load 27 t23
      apply rg_ev
      · intro a w hR hf
        obtain ⟨e23, -⟩ := hf
        replace e23 : a.tmps.getD 23 undef = _ := e23
        refine rg_plain rfl fun K hK => ?_
        have h8 := hR.cell hc2 (by simp)
        go_simp
        exact hK _ _ rfl (Only.refl _ _)
      -- 9: s25 := convert 27 9 t24
      apply rg_ev
      · intro a w hR hf
        obtain ⟨e24, -⟩ := hf
        replace e24 : a.tmps.getD 24 undef = _ := e24
        refine rg_plain rfl fun K hK => ?_
        have h9 := conv_bytes (P := Tryd.prog) (c := c4) w Tryd.underlying27 Tryd.underlying5 Tryd.underlying9 (r4.only0 hR) rfl n4
        go_simp
        exact hK _ _ rfl (Only.refl _ _)
      -- 10: s26 := binOp Binneq 9 t20 t25 9
      apply rg_ev
      · intro a w hR hf
        obtain ⟨e20, e25, -⟩ := hf
        replace e20 : a.tmps.getD 20 undef = _ := e20
        replace e25 : a.tmps.getD 25 undef = _ := e25
        refine rg_plain rfl fun K hK => ?_
        go_simp
        exact hK _ _ rfl (Only.refl _ _)
      intro f6 w6 hR6 hf
      dsimp only [mergeT]
      obtain ⟨e26, -⟩ := hf
      replace e26 : f6 26 = _ := e26
      rw [e26]
      -- S6>>
      have HO6 := Lib.hid (HO.out.trans0 hR6)
      clear hR6
      go_wp2_with fail
      exact ⟨⟨j + 1, by go_num, by omega, HO6⟩, by simp [intOf]; omega⟩
    · obtain rfl : j = n := by omega
      have hji : ¬ (j : Int) < (j : Int) := by omega
      go_wp2_with fail
      go_ret
      exact ⟨rfl, HO.out⟩

theorem refEncode_bad (k m : Int) (p : Option Addr) (n c : Nat) (w : World) (h : legal k m = false ∨ 1024 < n) (hk : -9223372036854775808 ≤ k ∧ k ≤ 9223372036854775807) (hm : -9223372036854775808 ≤ m ∧ m ≤ 9223372036854775807) (x : Int)
    (hx : (if legal k m = false then (1 : Int) else 11) = x) :
    Calls Tryd.prog 31 #[.int .i64 k, .int .i64 m, .slice p n c] w fun e w' => e = .returned (.tuple #[.slice none 0 0, .int .i64 x]) ∧ w = w' := by
  have hrf := refSize_bad k m (n : Int) (h.elim .inl (fun h => .inr (.inr (by omega)))) hk hm w
  rw [if_neg (show ¬ (n : Int) < 0 by omega), hx] at hrf
  have hx0 : (x == 0) = false := by subst hx; split <;> rfl
  clear h hx
  go_enter Tryd.func31, Tryd.ntmps31
  go_wp2_with fail
  (with_reducible refine (hrf).mono ?_)
  rintro e w' ⟨rfl, rfl⟩
  go_wp2_with fail
  go_ret2
  exact ⟨rfl, rfl⟩

def AllR (size : Nat) (gs : List Nat) (w : World) : Prop := ∀ g ∈ gs, ∃ zs : List UInt8, zs.length = size ∧ Row w g 5 (u8s zs)
/-- the rows of a list of blocks turn, each remains a row -/
def KeepR (size : Nat) (gs : List Nat) (a b : World) : Prop := Only gs a b ∧ (AllR size gs a → AllR size gs b)
theorem KeepR.of0 {size : Nat} {gs : List Nat} {a b : World} (h : Only [] a b) : KeepR size gs a b := ⟨h.mono (by simp), fun hr g hg => by obtain ⟨zs, h1, h2⟩ := hr g hg; exact ⟨zs, h1, h2.only0 h⟩⟩
theorem KeepR.one {size g : Nat} {gs : List Nat} {a b : World} {zs : List UInt8} (h : Only [g] a b) (hg : g ∈ gs) (hz : zs.length = size) (r : Row b g 5 (u8s zs)) : KeepR size gs a b :=
  ⟨h.mono (by simpa using hg), fun hr x hx => by
    by_cases e : x = g
    · subst e; exact ⟨zs, hz, r⟩
    · obtain ⟨ys, h1, h2⟩ := hr x hx; exact ⟨ys, h1, h2.only h (by simpa using e)⟩⟩
theorem KeepR.trans {size : Nat} {gs : List Nat} {a b c : World} (h : KeepR size gs a b) (h2 : KeepR size gs b c) : KeepR size gs a c := ⟨h.1.trans h2.1 (fun i hi _ => hi), fun x => h2.2 (h.2 x)⟩

set_option maxHeartbeats 8000000 in
theorem rsEncodes_any (k m : Int) (p : Option Addr) (xs : List UInt8) (n c : Nat) (az : List Addr) (w0 : World) (hk : -9223372036854775808 ≤ k ∧ k ≤ 9223372036854775807) (hm : -9223372036854775808 ≤ m ∧ m ≤ 9223372036854775807)
    (hn : xs.length = n) (hb : n ≤ 140737488351232) (hp : p = none → n = 0 ∧ c = 0) (hx : Rd w0 p (u8s xs)) (hE : ErrAll w0 az) :
    Calls Tryd.prog 7 #[.int .i64 k, .int .i64 m, .slice p n c] w0 fun e w' => e = .returned (.bool true) ∧ Only [] w0 w' := by
  obtain ⟨aP, hP, eP⟩ := hE.at (i := 0) rfl
  obtain ⟨aD, hD, eD⟩ := hE.at (i := 2) rfl
  obtain ⟨aL, hL, eL⟩ := hE.at (i := 10) rfl
  have hal := alive02_any w0 aD eD
  have HE := Lib.hid hE
  have HeP := Lib.hid eP
  have HeL := Lib.hid eL
  have HP := Lib.hid hP
  have HL := Lib.hid hL
  have Hn := Lib.hid hn
  have Hp := Lib.hid hp
  have Hx := Lib.hid hx
  clear hE eP eL hP hL hD eD hn hp hx
  by_cases hbad : legal k m = false ∨ 1024 < n
  · -- refused
    obtain ⟨x, hx⟩ : ∃ x : Int, (if legal k m = false then (1 : Int) else 11) = x := ⟨_, rfl⟩
    obtain ⟨ae, henc, hnum⟩ : ∃ ae : Addr, (∀ (w : World) (q : Option Addr) (d : Nat), Only [] w0 w → Calls Tryd.prog 30 #[.int .i64 k, .int .i64 m, .slice q n d] w fun e w' => e = .returned (.tuple #[.slice none 0 0, ev ae]) ∧ Only [] w w') ∧
        (∀ w, Only [] w0 w → Calls Tryd.prog 28 #[ev ae] w fun e w' => e = .returned (.int .i64 x) ∧ Only [] w w') := by
      by_cases hl : legal k m = false
      · rw [if_pos hl] at hx
        subst hx
        exact ⟨aP, fun w q d ho => encode_params k m hl hk hm q n d w aP (HeP.out.only0 ho), fun w ho => num_err w az 0 aP (HE.out.only0 ho) HP.out⟩
      · rw [if_neg hl] at hx
        subst hx
        have hl2 : legal k m = true := by simpa using hl
        exact ⟨aL, fun w q d ho => encode_large k m hl2 q n d (hbad.resolve_left hl) w aL (HeL.out.only0 ho), fun w ho => num_err w az 10 aL (HE.out.only0 ho) HL.out⟩
    have hrf := fun w => refEncode_bad k m p n c w hbad hk hm x hx
    have Henc := Lib.hid henc
    have Hnum := Lib.hid hnum
    have Hrf := Lib.hid hrf
    clear hx henc hnum hrf
    go_enter Tryd.func7, Tryd.ntmps7
    go_wp2_with fail
    (with_reducible refine (hal).mono ?_)
    rintro e w1 ⟨rfl, o1⟩
    have HO1 := Lib.hid o1
    clear o1 hal
    go_wp2_with fail
    (with_reducible refine (bytes_any p xs n c w1 Hn.out hb Hp.out (Hx.out.only0 HO1.out)).mono ?_)
    rintro e w2 ⟨g, rfl, hg, r2, o2⟩
    have HO2 := Lib.hid (HO1.out.trans0 o2)
    have HIn := Lib.hid r2
    clear o2 r2 hg
    go_wp2_with fail
    have henc := Henc.out w2 (some ⟨g, 0, none⟩) (n + 6) HO2.out
    unfold ev at henc
    (with_reducible refine (henc).mono ?_)
    rintro e w3 ⟨rfl, o3⟩
    have HO3 := Lib.hid (HO2.out.trans0 o3)
    have HIn3 := Lib.hid (HIn.out.only0 o3)
    clear o3 henc HIn
    go_wp2_with fail
    (with_reducible refine (Hrf.out w3).mono ?_)
    rintro e w' ⟨rfl, rfl⟩
    go_wp2_with fail
    have hnum := Hnum.out w3 HO3.out
    unfold ev at hnum
    (with_reducible refine (hnum).mono ?_)
    rintro e w4 ⟨rfl, o4⟩
    have HO4 := Lib.hid (HO3.out.trans0 o4)
    have HIn4 := Lib.hid (HIn3.out.only0 o4)
    clear o4 hnum HIn3
    go_wp2_with fail
    (with_reducible refine (sameLists_any none none [] 0 0 0 w4 rfl (by omega) (Lists.nil _ _) (Lists.nil _ _)).mono ?_)
    rintro e w5 ⟨rfl, o5⟩
    have HO5 := Lib.hid (HO4.out.trans0 o5)
    have HIn5 := Lib.hid (HIn4.out.only0 o5)
    clear o5 HIn4
    go_wp2_with fail
    (with_reducible refine (kept_any g p xs n c n w5 Hn.out hb Hp.out (by omega) HIn5.out (Hx.out.only0 HO5.out)).mono ?_)
    rintro e w6 ⟨rfl, o6⟩
    have HO6 := Lib.hid (HO5.out.trans0 o6.only)
    have HIn6 := Lib.hid (HIn5.out.only0 o6.only)
    clear o6 HIn5
    go_wp2_with fail
    go_loopw [12] (fun x wr => x = .int .i64 1 ∧ Hid (Only [] w6 wr)) (fun x _ => 0)
    case atStart => exact ⟨rfl, Lib.hid (Only.refl _ _)⟩
    case round =>
      obtain ⟨rfl, HO⟩ := hrel
      go_wp2_with fail
      (with_reducible refine (kept_any g p xs n c n wr Hn.out hb Hp.out (by omega) (HIn6.out.only0 HO.out) (Hx.out.only0 (HO6.out.trans0 HO.out))).mono ?_)
      rintro e w7 ⟨rfl, o7⟩
      have HO7 := Lib.hid ((HO6.out.trans0 HO.out).trans0 o7.only)
      clear o7
      go_wp2_with fail
      go_ret
      exact ⟨rfl, HO7.out⟩
  · have hl : legal k m = true := by
      cases h : legal k m with
      | true => rfl
      | false => exact absurd (.inl h) hbad
    have hn1 : n ≤ 1024 := by
      rcases Nat.lt_or_ge 1024 n with h | h
      · exact absurd (.inr h) hbad
      · exact h
    clear hbad
    obtain ⟨l1, l2, l3⟩ := legal_iff.1 hl
    obtain ⟨k, rfl⟩ : ∃ t : Nat, k = t := ⟨k.toNat, by omega⟩
    obtain ⟨m, rfl⟩ : ∃ t : Nat, m = t := ⟨m.toNat, by omega⟩
    have henc := fun (w : World) (q : Option Addr) (c : Nat) (hq : q = none → n = 0 ∧ c = 0) (h : Rd w q (u8s xs)) => encode_ok q xs n c k m w hl Hn.out hn1 hq h
    have href := fun (w : World) (ho : Only [] w0 w) => refEncode_ok p xs n c k m w hl Hn.out hn1 Hp.out (Hx.out.only0 ho)
    have hel := encB_len k m (shardLen k n) xs
    have hsl := shardLen_le (k := k) hn1
    generalize encB k m (shardLen k n) xs = E at *
    generalize shardLen k n = size at *
    have Henc := Lib.hid henc
    have Href := Lib.hid href
    have Hel := Lib.hid hel
    clear henc href hel hl
    go_enter Tryd.func7, Tryd.ntmps7
    go_wp2_with fail
    (with_reducible refine (hal).mono ?_)
    rintro e w1 ⟨rfl, o1⟩
    have HO1 := Lib.hid o1
    clear o1 hal
    go_wp2_with fail
    (with_reducible refine (bytes_any p xs n c w1 Hn.out hb Hp.out (Hx.out.only0 HO1.out)).mono ?_)
    rintro e w2 ⟨gin, rfl, hg, r2, o2⟩
    have HO2 := Lib.hid (HO1.out.trans0 o2)
    have HIn := Lib.hid r2
    have rin : Rd w2 (some ⟨gin, 0, none⟩) (u8s xs) := by
      have := r2.rd0.take n
      rwa [u8s_take, List.take_left' Hn.out] at this
    have Hgin2 := Lib.hid (r2.lt)
    have Hrin := Lib.hid rin
    clear o2 r2 hg rin
    go_wp2_with fail
    (with_reducible refine (Henc.out w2 (some ⟨gin, 0, none⟩) (n + 6) (by simp) Hrin.out).mono ?_)
    rintro e w3 ⟨q, c3, gs, rfl, nl3, o3⟩
    have HO3 := Lib.hid (HO2.out.trans0 o3)
    have HIn3 := Lib.hid (HIn.out.only0 o3)
    have HNL := Lib.hid nl3
    have Hgin : Hid (gin ∉ gs) := Lib.hid (fun hm => by have := (nl3.low gin hm).1; have := Hgin2.out; omega)
    have Hlow : Hid (∀ x ∈ gs, w0.heap.size ≤ x) := Lib.hid (fun x hx => Nat.le_trans HO2.out.size (nl3.low x hx).1)
    clear o3 nl3 HIn Hrin Hgin2
    go_wp2_with fail
    (with_reducible refine (Href.out w3 HO3.out).mono ?_)
    rintro e w4 ⟨q4, c4, gs4, rfl, nl4, o4⟩
    have HO4 := Lib.hid (HO3.out.trans0 o4)
    have HIn4 := Lib.hid (HIn3.out.only0 o4)
    have HNL4 := Lib.hid (HNL.out.only0 o4)
    have HLs := Lib.hid nl4.lists
    clear o4 nl4 HIn3 HNL Href Henc
    go_wp2_with fail
    (with_reducible refine (num_nil w4).mono ?_)
    rintro e w' ⟨rfl, rfl⟩
    go_wp2_with fail
    have hkm : ((k + m : Nat) : Int) = (k : Int) + (m : Int) := by omega
    (with_reducible refine (sameLists_any q q4 E (k + m) c3 c4 w4 Hel.out (by omega) HNL4.out.lists HLs.out).mono ?_)
    rintro e w5 ⟨rfl, o5⟩
    have HO5 := Lib.hid (HO4.out.trans0 o5)
    have HIn5 := Lib.hid (HIn4.out.only0 o5)
    have HNL5 := Lib.hid (HNL4.out.only0 o5)
    clear o5 HIn4 HNL4 HLs
    go_wp2_with fail
    (with_reducible refine (kept_any gin p xs n c n w5 Hn.out hb Hp.out (by omega) HIn5.out (Hx.out.only0 HO5.out)).mono ?_)
    rintro e w6 ⟨rfl, o6⟩
    have HO6 := Lib.hid (HO5.out.trans0 o6.only)
    have HIn6 := Lib.hid (HIn5.out.only0 o6.only)
    have hnl := HNL5.out.only0 o6.only
    have hrl := hnl.each
    have hown := hnl.own
    rw [Hel.out] at hown
    obtain ⟨gq, rfl, -, -⟩ := hown.at (by omega)
    have Hgq : Hid (gq ∉ gs) := Lib.hid (fun hm => (hnl.low gq hm).2 (by simp [blk]))
    have Hnd := Lib.hid hnl.apart
    have hlen := hnl.len
    rw [Hel.out] at hlen
    have Hgl := Lib.hid hlen
    have Hown := Lib.hid hown
    have HAll0 : Hid (AllR size gs w6) := Lib.hid (fun g hg => by
      obtain ⟨i, hi⟩ := List.getElem?_of_mem hg
      have hil := (List.getElem?_eq_some_iff.1 hi).1
      have hL := List.getElem?_eq_getElem (l := E) (i := i) (by rw [Hel.out, ← Hgl.out]; exact hil)
      exact ⟨_, hrl _ (List.mem_of_getElem? hL), hnl.row i g _ hi hL⟩)
    clear o6 HIn5 HNL5 hnl hrl hown hlen
    go_wp2_with fail
    go_loopw [12] (fun x wr => ∃ i : Nat, x = .int .i64 (i : Int) ∧ 1 ≤ i ∧ i ≤ k + m ∧ Hid (KeepR size gs w6 wr)) (fun x _ => k + m - (intOf x).toNat)
    case atStart => exact ⟨1, rfl, Nat.le_refl _, by omega, Lib.hid (KeepR.of0 (Only.refl _ _))⟩
    case round =>
      obtain ⟨i, rfl, hi0, hi, HK⟩ := hrel
      have hsz := HK.out.1
      by_cases hlt : i < k + m
      · have hii : (i : Int) < (k : Int) + (m : Int) := by omega
        obtain ⟨gi, hgi⟩ : ∃ g, gs[i]? = some g := ⟨_, List.getElem?_eq_getElem (by rw [Hgl.out]; exact hlt)⟩
        obtain ⟨gp, hgp⟩ : ∃ g, gs[i - 1]? = some g := ⟨_, List.getElem?_eq_getElem (by rw [Hgl.out]; omega)⟩
        have him := List.mem_of_getElem? hgi
        have hpm := List.mem_of_getElem? hgp
        have Hne : Hid (gi ≠ gp) := Lib.hid (fun e => by
          subst e
          have := (List.getElem?_inj (by rw [Hgl.out]; exact hlt) Hnd.out).1 (hgi.trans hgp.symm)
          omega)
        have hsv : ∀ (j g : Nat), gs[j]? = some g → (slsV size gs)[j]? = some (.slice (some ⟨g, 0, none⟩) size size) := fun j g h => by unfold slsV; rw [List.getElem?_map, h]; rfl
        have hci := HK.out.1.cell (Hown.out.cellAt (hsv i gi hgi)) (by simpa using Hgq.out)
        have hcp := HK.out.1.cell (Hown.out.cellAt (hsv (i - 1) gp hgp)) (by simpa using Hgq.out)
        have HAll := Lib.hid (HK.out.2 HAll0.out)
        have HIn := Lib.hid (HIn6.out.only HK.out.1 Hgin.out)
        clear hgi hgp hsv
        go_wp2_with fail
        have hRr : ∀ a, KeepR size gs a a := fun a => KeepR.of0 (Only.refl _ _)
        have hRt : ∀ a b e, KeepR size gs a b → KeepR size gs b e → KeepR size gs a e := fun a b e h h2 => h.trans h2
        have hRd : KeepR size gs wr wr.drew := KeepR.of0 (Only.drew _)
        -- <<R11
        refine wp_region_rg2 (KeepR size gs) [[(8, none)], [(12, none)], [(53, some 1), (54, some 0)], [(55, some 0)], [(8, none)], [(12, none)], [(58, some 0)], [(57, some 2), (59, some 0)], [(60, some 0)], [(56, some 5), (61, some 0)], [(62, some 0)], [(63, some 0)], [(64, some 0), (7, none)], [(64, some 1), (8, none)], [(64, some 2), (12, none)], [(64, some 3), (67, some 0)], [(64, some 4), (66, some 2), (68, some 0)], [(64, some 5), (69, some 0)], [(64, some 6), (65, some 5), (70, some 0)], [(64, some 7), (71, some 0)], [(64, some 8), (72, some 0)]] [(73, 0)] [none, none, none, none, none, none, none, none, none, none, none, none, none, none, none, none, none, none, none, none, none, none, none, none, none, none, none, none, none, none, none, none, none, none, none, none, none, none, none, none, none, none, none, none, none, none, none, none, none, none, none, none, none, some 53, some 54, some 55, some 56, some 57, some 58, some 59, some 60, some 61, some 62, some 63, some 64, some 65, some 66, some 67, some 68, some 69, some 70, some 71, some 72, some 73, none, none, none] (by kernel_rfl) rfl (by kernel_rfl) hRr hRt hRd (by kernel_rfl) ?_
        -- 0: s53 := move t8
        apply rg_ev
        · intro a w hR hf
          obtain ⟨e8, -⟩ := hf
          replace e8 : a.tmps.getD 8 undef = _ := e8
          refine rg_plain rfl fun K hK => ?_
          go_simp
          exact hK _ _ rfl (hRr _)
        -- 1: s54 := move t12
        apply rg_ev
        · intro a w hR hf
          obtain ⟨e12, -⟩ := hf
          replace e12 : a.tmps.getD 12 undef = _ := e12
          refine rg_plain rfl fun K hK => ?_
          go_simp
          exact hK _ _ rfl (hRr _)
        -- 2: s55 := indexAddr 64 t53 t54
        apply rg_ev
        · intro a w hR hf
          obtain ⟨e53, e54, -⟩ := hf
          replace e53 : a.tmps.getD 53 undef = _ := e53
          replace e54 : a.tmps.getD 54 undef = _ := e54
          refine rg_plain rfl fun K hK => ?_
          have hji : (i : Int) < (k : Int) + (m : Int) := by omega
          go_simp
          exact hK _ _ rfl (hRr _)
        -- 3: s56 := load 27 t55
        apply rg_ev
        · intro a w hR hf
          obtain ⟨e55, -⟩ := hf
          replace e55 : a.tmps.getD 55 undef = _ := e55
          refine rg_plain rfl fun K hK => ?_
          have h3 := hR.1.cell hci (by simpa using Hgq.out)
          go_simp
          exact hK _ _ rfl (hRr _)
        -- 4: s57 := move t8
        apply rg_ev
        · intro a w hR hf
          obtain ⟨e8, -⟩ := hf
          replace e8 : a.tmps.getD 8 undef = _ := e8
          refine rg_plain rfl fun K hK => ?_
          go_simp
          exact hK _ _ rfl (hRr _)
        -- 5: s58 := move t12
        apply rg_ev
        · intro a w hR hf
          obtain ⟨e12, -⟩ := hf
          replace e12 : a.tmps.getD 12 undef = _ := e12
          refine rg_plain rfl fun K hK => ?_
          go_simp
          exact hK _ _ rfl (hRr _)
        -- 6: s59 := binOp Binsub 3 t58 (const (1:i64)) 3
        apply rg_ev
        · intro a w hR hf
          obtain ⟨e58, -⟩ := hf
          replace e58 : a.tmps.getD 58 undef = _ := e58
          refine rg_plain rfl fun K hK => ?_
          have hw := IntWalk.i64_in ((i : Int) - 1) (by omega)
          go_simp
          exact hK _ _ rfl (hRr _)
        -- 7: s60 := indexAddr 64 t57 t59
        apply rg_ev
        · intro a w hR hf
          obtain ⟨e57, e59, -⟩ := hf
          replace e57 : a.tmps.getD 57 undef = _ := e57
          replace e59 : a.tmps.getD 59 undef = _ := e59
          refine rg_plain rfl fun K hK => ?_
          have hi1 : (1 : Int) ≤ (i : Int) := by omega
          have hi2 : (i : Int) - 1 < (k : Int) + (m : Int) := by omega
          have hi3 : ((i : Int) - 1).toNat = i - 1 := by omega
          go_simp
          exact hK _ _ rfl (hRr _)
        -- 8: s61 := load 27 t60
        apply rg_ev
        · intro a w hR hf
          obtain ⟨e60, -⟩ := hf
          replace e60 : a.tmps.getD 60 undef = _ := e60
          refine rg_plain rfl fun K hK => ?_
          have h8 := hR.1.cell hcp (by simpa using Hgq.out)
          go_simp
          exact hK _ _ rfl (hRr _)
        -- 9: s62 := call { value (Operand.func 34), args := #[t56, t61], #[27, 27] }
        apply rg_ev
        · intro a w hR hf
          obtain ⟨e56, e61, -⟩ := hf
          replace e56 : a.tmps.getD 56 undef = _ := e56
          replace e61 : a.tmps.getD 61 undef = _ := e61
          refine rg_plain rfl fun K hK => ?_
          go_simp
          obtain ⟨zs, hzl, rz⟩ := hR.2 HAll.out gp hpm
          obtain ⟨ys, hyl, ry⟩ := hR.2 HAll.out gi him
          (with_reducible refine (apart_any (some ⟨gi, 0, none⟩) ys zs size size gp size size w hyl (by simp) ry.rd0 (fun a ha => by obtain rfl := Option.some.inj ha; exact Hne.out) rz hzl (Nat.le_refl _) (by omega)).mono ?_)
          rintro e w' ⟨rfl, ho, zs', hzl', rz'⟩
          exact hK _ _ rfl (KeepR.one ho hpm hzl' rz')
        -- 10: s63 := unOp Unnot 4 t62
        apply rg_ev
        · intro a w hR hf
          obtain ⟨e62, -⟩ := hf
          replace e62 : a.tmps.getD 62 undef = _ := e62
          refine rg_plain rfl fun K hK => ?_
          go_simp
          exact hK _ _ rfl (hRr _)
        -- 11: s64 := move t63
        apply rg_ev
        · intro a w hR hf
          obtain ⟨e63, -⟩ := hf
          replace e63 : a.tmps.getD 63 undef = _ := e63
          refine rg_plain rfl fun K hK => ?_
          go_simp
          exact hK _ _ rfl (hRr _)
        -- 12: s65 := move t7 [if 11=false]
        apply rg_ev
        · intro a w hR hf
          obtain ⟨e64, e7, -⟩ := hf
          replace e64 : a.tmps.getD 64 undef = _ := e64
          replace e7 : a.tmps.getD 7 undef = _ := e7
          refine rg_want rfl rfl e64 fun K hK => ?_
          clear e64
          go_simp
          exact hK _ _ rfl (hRr _)
        -- 13: s66 := move t8 [if 11=false]
        apply rg_ev
        · intro a w hR hf
          obtain ⟨e64, e8, -⟩ := hf
          replace e64 : a.tmps.getD 64 undef = _ := e64
          replace e8 : a.tmps.getD 8 undef = _ := e8
          refine rg_want rfl rfl e64 fun K hK => ?_
          clear e64
          go_simp
          exact hK _ _ rfl (hRr _)
        -- 14: s67 := move t12 [if 11=false]
        apply rg_ev
        · intro a w hR hf
          obtain ⟨e64, e12, -⟩ := hf
          replace e64 : a.tmps.getD 64 undef = _ := e64
          replace e12 : a.tmps.getD 12 undef = _ := e12
          refine rg_want rfl rfl e64 fun K hK => ?_
          clear e64
          go_simp
          exact hK _ _ rfl (hRr _)
        -- 15: s68 := binOp Binsub 3 t67 (const (1:i64)) 3 [if 11=false]
        apply rg_ev
        · intro a w hR hf
          obtain ⟨e64, e67, -⟩ := hf
          replace e64 : a.tmps.getD 64 undef = _ := e64
          replace e67 : a.tmps.getD 67 undef = _ := e67
          refine rg_want rfl rfl e64 fun K hK => ?_
          clear e64
          have hw := IntWalk.i64_in ((i : Int) - 1) (by omega)
          go_simp
          exact hK _ _ rfl (hRr _)
        -- 16: s69 := indexAddr 64 t66 t68 [if 11=false]
        apply rg_ev
        · intro a w hR hf
          obtain ⟨e64, e66, e68, -⟩ := hf
          replace e64 : a.tmps.getD 64 undef = _ := e64
          replace e66 : a.tmps.getD 66 undef = _ := e66
          replace e68 : a.tmps.getD 68 undef = _ := e68
          refine rg_want rfl rfl e64 fun K hK => ?_
          clear e64
          have hi1 : (1 : Int) ≤ (i : Int) := by omega
          have hi2 : (i : Int) - 1 < (k : Int) + (m : Int) := by omega
          have hi3 : ((i : Int) - 1).toNat = i - 1 := by omega
          go_simp
          exact hK _ _ rfl (hRr _)
        -- 17: s70 := load 27 t69 [if 11=false]
        apply rg_ev
        · intro a w hR hf
          obtain ⟨e64, e69, -⟩ := hf
          replace e64 : a.tmps.getD 64 undef = _ := e64
          replace e69 : a.tmps.getD 69 undef = _ := e69
          refine rg_want rfl rfl e64 fun K hK => ?_
          clear e64
          have h8 := hR.1.cell hcp (by simpa using Hgq.out)
          go_simp
          exact hK _ _ rfl (hRr _)
        -- 18: s71 := call { value (Operand.func 34), args := #[t65, t70], #[27, 27] } [if 11=false]
        apply rg_ev
        · intro a w hR hf
          obtain ⟨e64, e65, e70, -⟩ := hf
          replace e64 : a.tmps.getD 64 undef = _ := e64
          replace e65 : a.tmps.getD 65 undef = _ := e65
          replace e70 : a.tmps.getD 70 undef = _ := e70
          refine rg_want rfl rfl e64 fun K hK => ?_
          clear e64
          go_simp
          obtain ⟨zs, hzl, rz⟩ := hR.2 HAll.out gp hpm
          have rin : Rd w (some ⟨gin, 0, none⟩) (u8s xs) := by
            have := (HIn.out.only hR.1 Hgin.out).rd0.take n
            rwa [u8s_take, List.take_left' Hn.out] at this
          (with_reducible refine (apart_any (some ⟨gin, 0, none⟩) xs zs n (n + 6) gp size size w Hn.out (by simp) rin (fun a ha => by obtain rfl := Option.some.inj ha; exact fun e => absurd hpm (by rw [← show gin = gp from e]; exact Hgin.out)) rz hzl (Nat.le_refl _) (by omega)).mono ?_)
          rintro e w' ⟨rfl, ho, zs', hzl', rz'⟩
          exact hK _ _ rfl (KeepR.one ho hpm hzl' rz')
        -- 19: s72 := unOp Unnot 4 t71 [if 11=false]
        apply rg_ev
        · intro a w hR hf
          obtain ⟨e64, e71, -⟩ := hf
          replace e64 : a.tmps.getD 64 undef = _ := e64
          replace e71 : a.tmps.getD 71 undef = _ := e71
          refine rg_want rfl rfl e64 fun K hK => ?_
          clear e64
          go_simp
          exact hK _ _ rfl (hRr _)
        -- 20: s73 := pick t64 (const (Value.bool true)) t72
        apply rg_ev
        · intro a w hR hf
          obtain ⟨e64, e72, -⟩ := hf
          replace e64 : a.tmps.getD 64 undef = _ := e64
          replace e72 : a.tmps.getD 72 undef = _ := e72
          refine rg_plain rfl fun K hK => ?_
          go_simp
          exact hK _ _ rfl (hRr _)
        intro f11 w11 hR11 hf
        dsimp only [mergeT]
        obtain ⟨e73, -⟩ := hf
        replace e73 : f11 73 = _ := e73
        rw [e73]
        -- R11>>
        have HK2 := Lib.hid (HK.out.trans hR11)
        clear hR11 hRr hRt hRd HAll HIn hci hcp
        go_wp2_with fail
        exact ⟨⟨i + 1, by go_num, by omega, by omega, HK2⟩, by simp [intOf]; omega⟩
      · obtain rfl : i = k + m := by omega
        have hii : ¬ ((k + m : Nat) : Int) < (k : Int) + (m : Int) := by omega
        go_wp2_with fail
        have HO0 := Lib.hid (HO6.out.transN hsz Hlow.out)
        (with_reducible refine (kept_any gin p xs n c n wr Hn.out hb Hp.out (by omega) (HIn6.out.only hsz Hgin.out) (Hx.out.only0 HO0.out)).mono ?_)
        rintro e w7 ⟨rfl, o7⟩
        have HO7 := Lib.hid (HO0.out.trans0 o7.only)
        clear o7
        go_wp2_with fail
        go_ret
        exact ⟨rfl, HO7.out⟩
end Go.Proofs.YtlgcclhepegggaaDoor
