/- The walk of bollardlaw04.MacDerives. -/
import Derived.Test.YtmddehbfimpjdaaAlive04W
import Derived.Test.YtmddehbfimpjdaaDeriveW
import Derived.Test.YtmddehbfimpjdaaRegion6
set_option linter.unusedVariables false
namespace Go.Proofs.Ytmddehbfimpjdaa
open Go.RowKit

/-- a slice that reads as these bytes -/
def SlR (zs : List UInt8) : Value → World → Prop := fun v w => ∃ p m d, v = .slice p m d ∧ zs.length = m ∧ Rd w p (u8s zs) ∧ (p = none → m = 0 ∧ d = 0)
theorem SlR.stable (zs : List UInt8) : Stable (Only []) (SlR zs) := fun v w w' ⟨p, m, d, h1, h2, h3, h4⟩ ho => ⟨p, m, d, h1, h2, h3.only0 ho, h4⟩
/-- the head of a block that holds these cells -/
def PtrR (base : Nat) (e : TypeId) (vs : List Value) : Value → World → Prop := fun v w => ∃ g, v = .pointer (some ⟨g, 0, none⟩) ∧ base ≤ g ∧ Row w g e vs
theorem PtrR.stable (base : Nat) (e : TypeId) (vs : List Value) : Stable (Only []) (PtrR base e vs) := fun v w w' ⟨g, h1, h2, h3⟩ ho => ⟨g, h1, h2, h3.only0 ho⟩
theorem Strs.take {w : World} {p : Option Addr} {ss : List (List UInt8)} (h : Strs w p ss) (k : Nat) : Strs w p (ss.take k) := fun j s hj => by
  rw [List.getElem?_take] at hj
  split at hj
  · exact h j s hj
  · cases hj

set_option maxHeartbeats 4000000 in
theorem macDerives_walk (q : Option Addr) (xs : List UInt8) (S : ByteArray) (ss : List (List UInt8)) (n c : Nat) (W0 : World) (hS : S = ⟨xs.toArray⟩) (hb : xs.length ≤ 140737488351232) (hn : ss.length = n) (hnc : n ≤ c) (hn2 : n ≤ 9223372036854775807) (hq : q = none → n = 0 ∧ c = 0) (hx : Strs W0 q ss) :
    Calls Try.prog 9 #[.string S, .slice q n c] W0 fun e w' => e = .returned (.bool true) ∧ Only [] W0 w' := by
  have hsz : S.size = xs.length := by rw [hS]; simp [ByteArray.size]
  obtain ⟨K, hK⟩ : ∃ K, K = bollard ++ xs := ⟨_, rfl⟩
  obtain ⟨Z, hZ⟩ : ∃ Z, Z = deriveB K ss := ⟨_, rfl⟩
  obtain ⟨D, hD⟩ : ∃ D : ByteArray, D = ⟨Z.toArray⟩ := ⟨_, rfl⟩
  have Hcv : Hid (∀ w p m d, Z.length = m → (p = none → m = 0 ∧ d = 0) → Rd w p (u8s Z) → (Go.convert 22 9 (.slice p m d)).run Try.prog w = .ok (.string D) w) := Lib.hid fun w p m d h1 h2 h3 => by
    rw [hD]; exact conv_bytes w Try.underlying22 Try.underlying5 Try.underlying9 h3 h1 h2
  have H1 : Hid (∀ w, Only [] W0 w → Calls Try.prog 25 #[.string S, .slice q n c] w fun e w' => ∃ p m d, e = .returned (.slice p m d) ∧ Rd w' p (u8s Z) ∧ Z.length = m ∧ (p = none → m = 0 ∧ d = 0) ∧ m ≤ 140737488351239 ∧ m ≤ d ∧ Only [] w w') := Lib.hid fun w h => by
    rw [hZ, hK]; exact macDerive_any q xs S ss n c w hS hb hn hn2 hq (hx.only0 h)
  have H2 : Hid (∀ w, Only [] W0 w → Calls Try.prog 26 #[.string S, .slice q n c] w fun e w' => ∃ p m d, e = .returned (.slice p m d) ∧ Rd w' p (u8s Z) ∧ Z.length = m ∧ (p = none → m = 0 ∧ d = 0) ∧ m ≤ 140737488351239 ∧ m ≤ d ∧ Only [] w w') := Lib.hid fun w h => by
    rw [hZ, hK]; exact refDerive_any q xs S ss n c w hS hb hn hn2 hq (hx.only0 h)
  have Hadd : Hid (n = 0 → ∀ w, (Op.stringOp .add ⟨#[66, 79, 76, 76, 65, 82, 68]⟩ S).run Try.prog w = .ok (.string D) w) := Lib.hid fun h w => by
    have := run_string_add_sum (P := Try.prog) ⟨#[66, 79, 76, 76, 65, 82, 68]⟩ S (w := w) (by rw [hsz]; show 7 + _ ≤ _; omega)
    rw [this, hD, hZ, hS, cat_bytes, hK]
    have : ss = [] := List.eq_nil_of_length_eq_zero (by omega)
    rw [this]; rfl
  have Hlast : Hid (∀ k s, n = k + 1 → ss[k]? = some s → Z = macB (deriveB K (ss.take k)) s) := Lib.hid fun k s h hs => by
    rw [hZ, ← deriveB_snoc]
    congr 1
    have e := List.take_of_length_le (l := ss) (i := k + 1) (by omega)
    rw [List.take_add_one, hs] at e
    exact e.symm
  have H3 : Hid (∀ k w, k ≤ n → Only [] W0 w → Calls Try.prog 25 #[.string S, .slice q k c] w fun e w' => ∃ p m d, e = .returned (.slice p m d) ∧ Rd w' p (u8s (deriveB K (ss.take k))) ∧ (deriveB K (ss.take k)).length = m ∧ (p = none → m = 0 ∧ d = 0) ∧ m ≤ 140737488351239 ∧ m ≤ d ∧ Only [] w w') := Lib.hid fun k w hk h => by
    rw [hK]; exact macDerive_any q xs S (ss.take k) k c w hS hb (by rw [List.length_take, hn]; omega) (by omega) (fun h0 => ⟨by have := hq h0; omega, (hq h0).2⟩) ((hx.only0 h).take k)
  have HdL : Hid (∀ k, (deriveB K (ss.take k)).length ≤ 140737488351239) := Lib.hid fun k => by
    cases h : (ss.take k).reverse with
    | nil =>
      have h2 : ss.take k = [] := by rw [← List.reverse_reverse (ss.take k), h]; rfl
      rw [h2, hK]; show (bollard ++ xs).length ≤ _; rw [List.length_append]; show 7 + _ ≤ _; omega
    | cons a r =>
      have h2 : ss.take k = r.reverse ++ [a] := by rw [← List.reverse_reverse (ss.take k), h]; simp
      rw [h2, deriveB_snoc, macB_len]; omega
  have Hx := Lib.hid hx
  have Hn := Lib.hid hn
  have HD := Lib.hid hD
  clear hx hn hS hsz hD hZ hK hq
  go_enter Try.func9, Try.ntmps9
  go_wp2_with fail
  (with_reducible refine (alive04_any W0).mono ?_)
  rintro e w1 ⟨rfl, h1⟩
  go_wp2_with fail
  (with_reducible refine (H1.out w1 h1).mono ?_)
  rintro e wr ⟨p, m, d, rfl, hR, hm, hp, hmb, -, h2⟩
  have ho2 := h1.trans0 h2
  have HR := Lib.hid hR
  have Hm := Lib.hid hm
  have Hp := Lib.hid hp
  clear hR hm hp H1 h1 h2
  go_wp2_with fail
  -- <<r4
  refine wp_region_rg2 (Only []) [[(5, none)], [(13, some 0)], [(0, none)], [(1, none)], [(15, some 1), (16, some 0)], [(17, some 0)], [(14, some 4), (18, some 0)]] [(19, 0)] [none, none, none, none, none, none, none, none, none, none, none, none, none, some 13, some 14, some 15, some 16, some 17, some 18, some 19, none, none, none, none, none, none, none, none, none, none, none, none, none, none, none, none, none, none, none, none, none, none, none, none, none, none, none] (by kernel_rfl) rfl (by kernel_rfl) (fun _ => Only.refl _ _) (fun _ _ _ h k => h.trans0 k) (Only.drew _) (by kernel_rfl) ?_
  -- 0: s13 := move t5
  apply rg_ev
  · intro a w hR hf
    obtain ⟨e5, -⟩ := hf
    replace e5 : a.tmps.getD 5 undef = _ := e5
    refine rg_plain rfl fun K hK => ?_
    go_simp
    exact hK _ _ rfl (Only.refl _ _)
  -- 1: s14 := convert 22 9 t13
  apply rg_ev
  · intro a w hR hf
    obtain ⟨e13, -⟩ := hf
    replace e13 : a.tmps.getD 13 undef = _ := e13
    refine rg_plain rfl fun K hK => ?_
    have hcv := Hcv.out w p m d Hm.out Hp.out (HR.out.only0 hR)
    go_simp
    exact hK _ _ rfl (Only.refl _ _)
  -- 2: s15 := move t0
  apply rg_ev
  · intro a w hR hf
    obtain ⟨e0, -⟩ := hf
    replace e0 : a.tmps.getD 0 undef = _ := e0
    refine rg_plain rfl fun K hK => ?_
    go_simp
    exact hK _ _ rfl (Only.refl _ _)
  -- 3: s16 := move t1
  apply rg_ev
  · intro a w hR hf
    obtain ⟨e1, -⟩ := hf
    replace e1 : a.tmps.getD 1 undef = _ := e1
    refine rg_plain rfl fun K hK => ?_
    go_simp
    exact hK _ _ rfl (Only.refl _ _)
  -- 4: s17 := call { value (Operand.func 26), args := #[t15, t16], #[9, 45] }
  refine ⟨SlR Z, SlR.stable Z, fun a w hR hf => ?_, ?_⟩
  · obtain ⟨e15, e16, -⟩ := hf
    replace e15 : a.tmps.getD 15 undef = _ := e15
    replace e16 : a.tmps.getD 16 undef = _ := e16
    refine rg_plain rfl fun K hK => ?_
    go_simp
    (with_reducible refine (H2.out w (ho2.trans0 hR)).mono ?_)
    rintro e w' ⟨p', m', d', rfl, hr, hl, hp', -, -, ho⟩
    exact hK _ _ ⟨p', m', d', rfl, hl, hr, hp'⟩ ho
  -- 5: s18 := convert 22 9 t17
  apply rg_ev
  · intro a w hR hf
    obtain ⟨e17, -⟩ := hf
    replace e17 : SlR Z (a.tmps.getD 17 undef) w := e17
    refine rg_plain rfl fun K hK => ?_
    obtain ⟨p', m', d', e17, hl, hr, hp'⟩ := e17
    have hcv := Hcv.out w p' m' d' hl hp' hr
    go_simp
    exact hK _ _ rfl (Only.refl _ _)
  -- 6: s19 := binOp Binneq 9 t14 t18 9
  apply rg_ev
  · intro a w hR hf
    obtain ⟨e14, e18, -⟩ := hf
    replace e14 : a.tmps.getD 14 undef = _ := e14
    replace e18 : a.tmps.getD 18 undef = _ := e18
    refine rg_plain rfl fun K hK => ?_
    go_simp
    exact hK _ _ rfl (Only.refl _ _)
  intro f4 w4 hR4 hf
  dsimp only [mergeT]
  obtain ⟨e19, -⟩ := hf
  replace e19 : f4 19 = _ := e19
  rw [e19]
  -- r4>>
  have ho4 := ho2.trans0 hR4
  have HR4 := Lib.hid (HR.out.only0 hR4)
  clear hR4 ho2 HR
  by_cases h0 : n = 0
  · have hadd := Hadd.out h0 w4
    have hcv := Hcv.out w4 p m d Hm.out Hp.out HR4.out
    have hn0 : ((n : Int) == 0) = true := by simp [h0]
    go_wp2_with fail
    go_ret
    exact ⟨rfl, ho4⟩
  · obtain ⟨k, hk⟩ : ∃ k, n = k + 1 := ⟨n - 1, by omega⟩
    subst hk
    have hk1 : (((k + 1 : Nat) : Int) == 0) = false := by simp; omega
    obtain ⟨s, hs⟩ : ∃ s, ss[k]? = some s := ⟨_, List.getElem?_eq_getElem (by rw [Hn.out]; omega)⟩
    obtain ⟨b, off, rfl, hsl, hc⟩ := (Hx.out.only0 ho4) k s hs
    obtain ⟨U, hU⟩ : ∃ U : ByteArray, U = ⟨s.toArray⟩ := ⟨_, rfl⟩
    rw [← hU] at hc
    have HU := Lib.hid hU
    have Hc := Lib.hid hc
    have hZs := Hlast.out k s rfl hs
    replace H3 := Lib.hid (fun w h => H3.out k w (by omega) h)
    obtain ⟨Z1, hZ1⟩ : ∃ Z1, Z1 = deriveB K (ss.take k) := ⟨_, rfl⟩
    rw [← hZ1] at hZs
    have HZl : Hid (Z.length = 32) := Lib.hid (by rw [hZs]; rfl)
    have HZs := Lib.hid hZs
    have HZ1 : Hid (Z1.length ≤ 140737488351239) := Lib.hid (by
      rw [hZ1]
      exact HdL.out k)
    rw [← hZ1] at H3
    have hkc : (k : Int) ≤ (c : Int) := by omega
    have hk2 : (k : Int) < (k : Int) + 1 := by omega
    clear hc hU hs hZs hZ1 Hlast Hadd Hx Hn
    go_wp2_with fail
    have hRr : ∀ a, Below w4.heap.size a a := fun a => Below.refl _ _
    have hRt : ∀ a b e, Below w4.heap.size a b → Below w4.heap.size b e → Below w4.heap.size a e := fun a b e h h2 => h.trans h2
    have hRd : Below w4.heap.size w4 w4.drew := (Only.drew _).below
    have hRs : ∀ j w, DirtR [(12, Below w4.heap.size)] j w w := DirtR.refl (by intro x hx w; obtain rfl := List.mem_singleton.1 hx; exact Below.refl _ _)
    -- <<r9
    refine wp_region_rg6 (Below w4.heap.size) (DirtR [(12, Below w4.heap.size)]) [[(0, none)], [(1, none)], [(6, none)], [(32, some 1), (33, some 0)], [(31, some 3), (34, some 0)], [(1, none)], [(6, none)], [(36, some 1), (37, some 0)], [(38, some 0)], [(39, some 0)], [(35, some 5), (40, some 0)], [], [(7, some 0), (41, some 1)]] [] [(7, 0)] [none, none, none, none, none, none, none, some 7, none, none, none, none, none, none, none, none, none, none, none, none, none, none, none, none, none, none, none, none, none, none, none, some 31, some 32, some 33, some 34, some 35, some 36, some 37, some 38, some 39, some 40, some 41, none, none, none, none, none] (by kernel_rfl) rfl (by kernel_rfl) hRr hRt hRs hRd (by kernel_rfl) ?_
    -- 0: s31 := move t0
    apply rgl_ev rfl
    · intro a w hR hf
      obtain ⟨e0, -⟩ := hf
      replace e0 : a.tmps.getD 0 undef = _ := e0
      refine rg_plain rfl fun K hK => ?_
      go_simp
      exact hK _ _ rfl ⟨hRr _, hRs _ _⟩
    -- 1: s32 := move t1
    apply rgl_ev rfl
    · intro a w hR hf
      obtain ⟨e1, -⟩ := hf
      replace e1 : a.tmps.getD 1 undef = _ := e1
      refine rg_plain rfl fun K hK => ?_
      go_simp
      exact hK _ _ rfl ⟨hRr _, hRs _ _⟩
    -- 2: s33 := move t6
    apply rgl_ev rfl
    · intro a w hR hf
      obtain ⟨e6, -⟩ := hf
      replace e6 : a.tmps.getD 6 undef = _ := e6
      refine rg_plain rfl fun K hK => ?_
      go_simp
      exact hK _ _ rfl ⟨hRr _, hRs _ _⟩
    -- 3: s34 := slice 45 t32 none (some t33) none
    apply rgl_ev rfl
    · intro a w hR hf
      obtain ⟨e32, e33, -⟩ := hf
      replace e32 : a.tmps.getD 32 undef = _ := e32
      replace e33 : a.tmps.getD 33 undef = _ := e33
      refine rg_plain rfl fun K hK => ?_
      go_simp
      exact hK _ _ rfl ⟨hRr _, hRs _ _⟩
    -- 4: s35 := call { value (Operand.func 25), args := #[t31, t34], #[9, 45] }
    refine rgl_at (SlR Z1) (stands5_of (SlR.stable _) (by intro x hx hk; obtain rfl := List.mem_singleton.1 hx; exact Bool.noConfusion (hk.symm.trans (by kernel_rfl : _ = true)))) rfl (fun a w hR hf => ?_) ?_
    · obtain ⟨e31, e34, -⟩ := hf
      replace e31 : a.tmps.getD 31 undef = _ := e31
      replace e34 : a.tmps.getD 34 undef = _ := e34
      refine rg_plain rfl fun K hK => ?_
      go_simp
      (with_reducible refine (H3.out w (ho4.trans0 (Only.ofBelow hR))).mono ?_)
      rintro e w' ⟨p', m', d', rfl, hr, hl, hp', hmb', -, ho⟩
      exact hK _ _ ⟨p', m', d', rfl, hl, hr, hp'⟩ ⟨ho.below.mono hR.size, ho⟩
    -- 5: s36 := move t1
    apply rgl_ev rfl
    · intro a w hR hf
      obtain ⟨e1, -⟩ := hf
      replace e1 : a.tmps.getD 1 undef = _ := e1
      refine rg_plain rfl fun K hK => ?_
      go_simp
      exact hK _ _ rfl ⟨hRr _, hRs _ _⟩
    -- 6: s37 := move t6
    apply rgl_ev rfl
    · intro a w hR hf
      obtain ⟨e6, -⟩ := hf
      replace e6 : a.tmps.getD 6 undef = _ := e6
      refine rg_plain rfl fun K hK => ?_
      go_simp
      exact hK _ _ rfl ⟨hRr _, hRs _ _⟩
    -- 7: s38 := indexAddr 45 t36 t37
    apply rgl_ev rfl
    · intro a w hR hf
      obtain ⟨e36, e37, -⟩ := hf
      replace e36 : a.tmps.getD 36 undef = _ := e36
      replace e37 : a.tmps.getD 37 undef = _ := e37
      refine rg_plain rfl fun K hK => ?_
      go_simp
      exact hK _ _ rfl ⟨hRr _, hRs _ _⟩
    -- 8: s39 := load 9 t38
    apply rgl_ev rfl
    · intro a w hR hf
      obtain ⟨e38, -⟩ := hf
      replace e38 : a.tmps.getD 38 undef = _ := e38
      refine rg_plain rfl fun K hK => ?_
      have hc := (Only.ofBelow hR).cell Hc.out (by simp)
      go_simp
      exact hK _ _ rfl ⟨hRr _, hRs _ _⟩
    -- 9: s40 := convert 9 22 t39
    refine rgl_at (SlR s) (stands5_of (SlR.stable _) (by intro x hx hk; obtain rfl := List.mem_singleton.1 hx; exact Bool.noConfusion (hk.symm.trans (by kernel_rfl : _ = true)))) rfl (fun a w hR hf => ?_) ?_
    · obtain ⟨e39, -⟩ := hf
      replace e39 : a.tmps.getD 39 undef = _ := e39
      refine rg_plain rfl fun K hK => ?_
      obtain ⟨g2, c2, w2, hcv2, hg2, hr2, ho2, hc2⟩ := conv_str w U s HU.out s.length rfl
      go_simp
      exact hK _ _ ⟨_, _, _, rfl, rfl, hr2, by simp⟩ ⟨ho2.below.mono hR.size, ho2⟩
    -- 10: s41 := call { value (Operand.func 15), args := #[t35, t40], #[22, 22] }
    apply rgl_ev rfl
    · intro a w hR hf
      obtain ⟨e35, e40, -⟩ := hf
      replace e35 : SlR Z1 (a.tmps.getD 35 undef) w := e35
      replace e40 : SlR s (a.tmps.getD 40 undef) w := e40
      refine rg_plain rfl fun K hK => ?_
      obtain ⟨p1, m1, d1, e35, hl1, hr1, hp1⟩ := e35
      obtain ⟨p2, m2, d2, e40, hl2, hr2, hp2⟩ := e40
      go_simp
      (with_reducible refine (macSum_any p1 p2 Z1 s m1 d1 m2 d2 w hl1 (by have := HZ1.out; omega) hp1 hr1 hl2 (by omega) hp2 hr2).mono ?_)
      rintro e w' ⟨rfl, ho⟩
      exact hK _ _ rfl ⟨ho.below.mono hR.size, ho⟩
    -- 11: s7 := alloc 25
    refine rgl_at (PtrR w4.heap.size 25 (u8s (List.replicate 32 0))) (stands5_of (PtrR.stable _ _ _) (by intro x hx hk; obtain rfl := List.mem_singleton.1 hx; exact Bool.noConfusion (hk.symm.trans (by kernel_rfl : _ = true)))) rfl (fun a w hR hf => ?_) ?_
    · refine rg_plain rfl fun K hK => ?_
      go_simp
      exact hK _ _ ⟨w.heap.size, rfl, hR.size, Row.newOf _ _ _ _ (by rfl)⟩ ⟨(Only.alloc w _).below.mono hR.size, Only.alloc w _⟩
    -- 12: sNone := store 25 t7 t41
    refine rgl_store (t := 7) (PtrR w4.heap.size 25 (u8s (macB Z1 s))) (stands5_of (PtrR.stable _ _ _) (by intro x hx hk; obtain rfl := List.mem_singleton.1 hx; exact Bool.noConfusion (hk.symm.trans (by kernel_rfl : _ = true)))) rfl (fun a w hR hf => ?_) ?_
    · obtain ⟨e7, e41, -⟩ := hf
      replace e7 : PtrR w4.heap.size 25 (u8s (List.replicate 32 0)) (a.tmps.getD 7 undef) w := e7
      replace e41 : a.tmps.getD 41 undef = _ := e41
      refine rg_plain rfl fun K hK => ?_
      obtain ⟨g, e7, hg, r⟩ := e7
      have hsz : (Try.prog.info? 25).map (·.size) = some (u8s (macB Z1 s)).length := by rw [u8s_length, macB_len]; kernel_rfl
      have hst := r.storeAt (P := Try.prog) hsz (by rw [u8s_length, u8s_length, macB_len]; rfl) (fun u hu => u8s_one hu)
      have hrow := r.setRow (u8s (macB Z1 s))
      have hos := (Only.setRow w g (u8s (macB Z1 s)).toArray).belowOf hR.size (by intro x hx; obtain rfl := List.mem_singleton.1 hx; exact hg)
      exact rg_store (x := .tmp 7) (y := .tmp 41) rfl e7 e41 hst (show K a _ from hK (a.tmps.getD 7 undef) _ ⟨rfl, g, e7, hg, hrow⟩ ⟨hos, hos⟩)
    intro f9 w9 hR9 hf hl9
    dsimp only [mergeT]
    obtain ⟨l7, -⟩ := hl9
    replace l7 : PtrR w4.heap.size 25 (u8s (macB Z1 s)) (f9 7) w9 := l7
    -- r9>>
    obtain ⟨g, e7, hg, hrow⟩ := l7
    rw [e7]
    rw [← HZs.out] at hrow
    have ho9 := ho4.trans0 (Only.ofBelow hR9)
    have Hrow := Lib.hid hrow
    have HR9 := Lib.hid (HR4.out.only0 (Only.ofBelow hR9))
    clear hrow hR9 hRr hRt hRd hRs HR4 H3 HZs e7
    go_wp2_with fail
    -- <<r10
    refine wp_region_rg2 (Only []) [[(7, none)], [(42, some 0)], [(5, none)], [(44, some 0)], [(43, some 2), (45, some 0)], [(46, some 0)]] [(4, 0)] [none, none, none, none, some 4, none, none, none, none, none, none, none, none, none, none, none, none, none, none, none, none, none, none, none, none, none, none, none, none, none, none, none, none, none, none, none, none, none, none, none, none, none, some 42, some 43, some 44, some 45, some 46] (by kernel_rfl) rfl (by kernel_rfl) (fun _ => Only.refl _ _) (fun _ _ _ h k => h.trans0 k) (Only.drew _) (by kernel_rfl) ?_
    -- 0: s42 := slice 25 t7 none none none
    apply rg_ev
    · intro a w hR hf
      obtain ⟨e7, -⟩ := hf
      replace e7 : a.tmps.getD 7 undef = _ := e7
      refine rg_plain rfl fun K hK => ?_
      go_simp
      exact hK _ _ rfl (Only.refl _ _)
    -- 1: s43 := convert 22 9 t42
    apply rg_ev
    · intro a w hR hf
      obtain ⟨e42, -⟩ := hf
      replace e42 : a.tmps.getD 42 undef = _ := e42
      refine rg_plain rfl fun K hK => ?_
      have hcv := Hcv.out w (some ⟨g, 0, none⟩) 32 32 HZl.out (by simp) (Hrow.out.only0 hR).rd0
      go_simp
      exact hK _ _ rfl (Only.refl _ _)
    -- 2: s44 := move t5
    apply rg_ev
    · intro a w hR hf
      obtain ⟨e5, -⟩ := hf
      replace e5 : a.tmps.getD 5 undef = _ := e5
      refine rg_plain rfl fun K hK => ?_
      go_simp
      exact hK _ _ rfl (Only.refl _ _)
    -- 3: s45 := convert 22 9 t44
    apply rg_ev
    · intro a w hR hf
      obtain ⟨e44, -⟩ := hf
      replace e44 : a.tmps.getD 44 undef = _ := e44
      refine rg_plain rfl fun K hK => ?_
      have hcv := Hcv.out w p m d Hm.out Hp.out (HR9.out.only0 hR)
      go_simp
      exact hK _ _ rfl (Only.refl _ _)
    -- 4: s46 := binOp Bineql 9 t43 t45 9
    apply rg_ev
    · intro a w hR hf
      obtain ⟨e43, e45, -⟩ := hf
      replace e43 : a.tmps.getD 43 undef = _ := e43
      replace e45 : a.tmps.getD 45 undef = _ := e45
      refine rg_plain rfl fun K hK => ?_
      go_simp
      exact hK _ _ rfl (Only.refl _ _)
    -- 5: s4 := assign t46
    apply rg_ev
    · intro a w hR hf
      obtain ⟨e46, -⟩ := hf
      replace e46 : a.tmps.getD 46 undef = _ := e46
      refine rg_plain rfl fun K hK => ?_
      go_simp
      exact hK _ _ rfl (Only.refl _ _)
    intro f10 w10 hR10 hf
    dsimp only [mergeT]
    obtain ⟨e4, -⟩ := hf
    replace e4 : f10 4 = _ := e4
    rw [e4]
    -- r10>>
    have ho10 := ho9.trans0 hR10
    go_wp2_with fail
    go_ret
    exact ⟨rfl, ho10⟩
end Go.Proofs.Ytmddehbfimpjdaa
