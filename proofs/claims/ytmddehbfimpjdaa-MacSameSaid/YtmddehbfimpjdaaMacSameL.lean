/- The walk of bollardlaw04.MacSame. -/
import Derived.Test.YtmddehbfimpjdaaAlive04W
import Derived.Test.YtmddehbfimpjdaaMacSameW
import Derived.Test.YtmddehbfimpjdaaRegion5
import Derived.Test.YtmddehbfimpjdaaMacFillsW
set_option linter.unusedVariables false
namespace Go.Proofs.Ytmddehbfimpjdaa
open Go.RowKit

set_option maxHeartbeats 8000000 in
theorem macSame_walk (p q : Option Addr) (xs ys : List UInt8) (n c m d : Nat) (W0 : World) (hn : xs.length = n) (hb : n ≤ 140737488351232) (hnc : n ≤ c) (hp : p = none → n = 0 ∧ c = 0) (hx : Rd W0 p (u8s xs))
    (hm : ys.length = m) (hbm : m ≤ 140737488351232) (hq : q = none → m = 0 ∧ d = 0) (hy : Rd W0 q (u8s ys)) :
    Calls Try.prog 10 #[.slice p n c, .slice q m d] W0 fun e w' => e = .returned (.bool true) ∧ Only [] W0 w' := by
  have Hn := Lib.hid hn
  have Hm := Lib.hid hm
  have Hp := Lib.hid hp
  have Hq := Lib.hid hq
  have Hx := Lib.hid hx
  have Hy := Lib.hid hy
  clear hn hm hp hq hx hy
  go_enter Try.func10, Try.ntmps10
  go_wp2_with fail
  (with_reducible refine (alive04_any W0).mono ?_)
  rintro e wr ⟨rfl, h1⟩
  have Hrd := Lib.hid (Hx.out.only0 h1)
  have Hrd2 := Lib.hid (Hy.out.only0 h1)
  have Hs1 : Hid (∀ w, Below wr.heap.size wr w → Calls Try.prog 27 #[.slice p n c, .slice q m d] w fun e w' => e = .returned (.bool (xs == ys)) ∧ Only [] w w') := Lib.hid fun w h => same_any p q xs ys n m c d w Hn.out Hm.out (by omega) (by omega) (Rd.below Hrd.out h) (Rd.below Hrd2.out h)
  have Hs2 : Hid (∀ w q2 c2, Below wr.heap.size wr w → Rd w q2 (u8s xs) → Calls Try.prog 27 #[.slice p n c, .slice q2 n c2] w fun e w' => e = .returned (.bool true) ∧ Only [] w w') := Lib.hid fun w q2 c2 h h2 => by
    have := same_any p q2 xs xs n n c c2 w Hn.out Hn.out (by omega) (by omega) (Rd.below Hrd.out h) h2
    rwa [beq_self_eq_true] at this
  have hne : (xs == xs ++ [0]) = false := by
    rw [Bool.eq_false_iff]
    intro h
    have := congrArg List.length (beq_iff_eq.1 h)
    simp at this
  have Hs3 : Hid (∀ w q2 c2, Below wr.heap.size wr w → Rd w q2 (u8s (xs ++ [0])) → Calls Try.prog 27 #[.slice p n c, .slice q2 (n + 1) c2] w fun e w' => e = .returned (.bool false) ∧ Only [] w w') := Lib.hid fun w q2 c2 h h2 => by
    have := same_any p q2 xs (xs ++ [0]) n (n + 1) c c2 w Hn.out (by rw [List.length_append, Hn.out]; rfl) (by omega) (by omega) (Rd.below Hrd.out h) h2
    rwa [hne] at this
  obtain ⟨s1, hs1⟩ : ∃ s : ByteArray, s = ⟨xs.toArray⟩ := ⟨_, rfl⟩
  obtain ⟨s2, hs2⟩ : ∃ s : ByteArray, s = ⟨ys.toArray⟩ := ⟨_, rfl⟩
  have Hcv1 : Hid (∀ w, Below wr.heap.size wr w → (Go.convert 22 9 (.slice p n c)).run Try.prog w = .ok (.string s1) w) := Lib.hid fun w h => by
    rw [hs1]; exact conv_bytes w Try.underlying22 Try.underlying5 Try.underlying9 (Rd.below Hrd.out h) Hn.out Hp.out
  have Hcv2 : Hid (∀ w, Below wr.heap.size wr w → (Go.convert 22 9 (.slice q m d)).run Try.prog w = .ok (.string s2) w) := Lib.hid fun w h => by
    rw [hs2]; exact conv_bytes w Try.underlying22 Try.underlying5 Try.underlying9 (Rd.below Hrd2.out h) Hm.out Hq.out
  have hstr : (s1.toList == s2.toList) = (xs == ys) := by rw [ByteArray.toList_eq, ByteArray.toList_eq, hs1, hs2]
  obtain ⟨bb, hbb⟩ : ∃ b, b = (xs == ys) := ⟨_, rfl⟩
  rw [← hbb] at hstr Hs1
  have Hstr := Lib.hid hstr
  clear hstr hs1 hs2 hne hbb
  go_wp2_with fail
  have hRr : ∀ a, Below wr.heap.size a a := fun a => Below.refl _ _
  have hRt : ∀ a b e, Below wr.heap.size a b → Below wr.heap.size b e → Below wr.heap.size a e := fun a b e h h2 => h.trans h2
  have hRd : Below wr.heap.size wr wr.drew := (Only.drew _).below
  have hRs : ∀ j w, DirtR [(22, Below wr.heap.size)] j w w := DirtR.refl (by intro x hx w; obtain rfl := List.mem_singleton.1 hx; exact Below.refl _ _)
  -- <<r3
  refine wp_region_rg5 (Below wr.heap.size) (DirtR [(22, Below wr.heap.size)]) [[(0, none)], [(1, none)], [(7, some 1), (8, some 0)], [(0, none)], [(10, some 0)], [(1, none)], [(12, some 0)], [(11, some 2), (13, some 0)], [(9, some 5), (14, some 0)], [(15, some 0)], [(16, some 0), (0, none)], [(16, some 1)], [(16, some 2), (0, none)], [(16, some 3), (18, some 1), (19, some 0)], [(16, some 4), (17, some 3), (20, some 0)], [(16, some 5), (21, some 0)], [(22, some 0)], [(23, some 0), (0, none)], [(23, some 1)], [(23, some 2), (0, none)], [(23, some 3), (25, some 1), (26, some 0)], [(23, some 4)], [(23, some 5), (27, some 1), (28, some 0)], [(23, some 6), (24, some 5), (29, some 0)], [(23, some 7), (30, some 0)], [(23, some 8), (31, some 0)], [(32, some 0)]] [(4, 0)] [none, none, none, none, some 4, none, none, some 7, some 8, some 9, some 10, some 11, some 12, some 13, some 14, some 15, some 16, some 17, some 18, some 19, some 20, some 21, some 22, some 23, some 24, some 25, some 26, some 27, some 28, some 29, some 30, some 31, some 32] (by kernel_rfl) rfl (by kernel_rfl) hRr hRt hRs hRd (by kernel_rfl) ?_
  -- 0: s7 := move t0
  apply rgu_ev
  · intro a w hR hf
    obtain ⟨e0, -⟩ := hf
    replace e0 : a.tmps.getD 0 undef = _ := e0
    refine rg_plain rfl fun K hK => ?_
    go_simp
    exact hK _ _ rfl ⟨hRr _, hRs _ _⟩
  -- 1: s8 := move t1
  apply rgu_ev
  · intro a w hR hf
    obtain ⟨e1, -⟩ := hf
    replace e1 : a.tmps.getD 1 undef = _ := e1
    refine rg_plain rfl fun K hK => ?_
    go_simp
    exact hK _ _ rfl ⟨hRr _, hRs _ _⟩
  -- 2: s9 := call { value (Operand.func 27), args := #[t7, t8], #[22, 22] }
  apply rgu_ev
  · intro a w hR hf
    obtain ⟨e7, e8, -⟩ := hf
    replace e7 : a.tmps.getD 7 undef = _ := e7
    replace e8 : a.tmps.getD 8 undef = _ := e8
    refine rg_plain rfl fun K hK => ?_
    go_simp
    (with_reducible refine (Hs1.out w hR).mono ?_)
    rintro e w' ⟨rfl, ho⟩
    exact hK _ _ rfl ⟨ho.below.mono hR.size, ho⟩
  -- 3: s10 := move t0
  apply rgu_ev
  · intro a w hR hf
    obtain ⟨e0, -⟩ := hf
    replace e0 : a.tmps.getD 0 undef = _ := e0
    refine rg_plain rfl fun K hK => ?_
    go_simp
    exact hK _ _ rfl ⟨hRr _, hRs _ _⟩
  -- 4: s11 := convert 22 9 t10
  apply rgu_ev
  · intro a w hR hf
    obtain ⟨e10, -⟩ := hf
    replace e10 : a.tmps.getD 10 undef = _ := e10
    refine rg_plain rfl fun K hK => ?_
    have hcv := Hcv1.out w hR
    go_simp
    exact hK _ _ rfl ⟨hRr _, hRs _ _⟩
  -- 5: s12 := move t1
  apply rgu_ev
  · intro a w hR hf
    obtain ⟨e1, -⟩ := hf
    replace e1 : a.tmps.getD 1 undef = _ := e1
    refine rg_plain rfl fun K hK => ?_
    go_simp
    exact hK _ _ rfl ⟨hRr _, hRs _ _⟩
  -- 6: s13 := convert 22 9 t12
  apply rgu_ev
  · intro a w hR hf
    obtain ⟨e12, -⟩ := hf
    replace e12 : a.tmps.getD 12 undef = _ := e12
    refine rg_plain rfl fun K hK => ?_
    have hcv := Hcv2.out w hR
    go_simp
    exact hK _ _ rfl ⟨hRr _, hRs _ _⟩
  -- 7: s14 := binOp Bineql 9 t11 t13 9
  apply rgu_ev
  · intro a w hR hf
    obtain ⟨e11, e13, -⟩ := hf
    replace e11 : a.tmps.getD 11 undef = _ := e11
    replace e13 : a.tmps.getD 13 undef = _ := e13
    refine rg_plain rfl fun K hK => ?_
    have hstr := Hstr.out
    go_simp
    exact hK _ _ rfl ⟨hRr _, hRs _ _⟩
  -- 8: s15 := binOp Bineql 4 t9 t14 4
  apply rgu_ev
  · intro a w hR hf
    obtain ⟨e9, e14, -⟩ := hf
    replace e9 : a.tmps.getD 9 undef = _ := e9
    replace e14 : a.tmps.getD 14 undef = _ := e14
    refine rg_plain rfl fun K hK => ?_
    go_simp
    exact hK _ _ rfl ⟨hRr _, hRs _ _⟩
  -- 9: s16 := move t15
  apply rgu_ev
  · intro a w hR hf
    obtain ⟨e15, -⟩ := hf
    replace e15 : a.tmps.getD 15 undef = _ := e15
    refine rg_plain rfl fun K hK => ?_
    go_simp
    exact hK _ _ rfl ⟨hRr _, hRs _ _⟩
  -- 10: s17 := move t0 [if 9=true]
  apply rgu_ev
  · intro a w hR hf
    obtain ⟨e16, e0, -⟩ := hf
    replace e16 : a.tmps.getD 16 undef = _ := e16
    replace e0 : a.tmps.getD 0 undef = _ := e0
    refine rg_want rfl rfl e16 fun K hK => ?_
    clear e16
    go_simp
    exact hK _ _ rfl ⟨hRr _, hRs _ _⟩
  -- 11: s18 := buildSlice 22 0 #[] [if 9=true]
  refine ⟨Own0 wr.heap.size, stands5_of (fun v w w' h ho => Own0.stable _ h ho) (by intro x hx hk; obtain rfl := List.mem_singleton.1 hx; exact Bool.noConfusion (hk.symm.trans (by kernel_rfl : _ = true))), fun a w hR hf => ?_, ?_⟩
  · obtain ⟨e16, -⟩ := hf
    replace e16 : a.tmps.getD 16 undef = _ := e16
    refine rg_want rfl rfl e16 fun K hK => ?_
    clear e16
    go_simp
    exact hK _ _ ⟨_, rfl, Own.ofRow (vs := []) (rest := []) hR.size (Row.new w _ []) rfl (by omega)⟩ ⟨(Only.alloc w _).below.mono hR.size, Only.alloc w _⟩
  -- 12: s19 := move t0 [if 9=true]
  apply rgu_ev
  · intro a w hR hf
    obtain ⟨e16, e0, -⟩ := hf
    replace e16 : a.tmps.getD 16 undef = _ := e16
    replace e0 : a.tmps.getD 0 undef = _ := e0
    refine rg_want rfl rfl e16 fun K hK => ?_
    clear e16
    go_simp
    exact hK _ _ rfl ⟨hRr _, hRs _ _⟩
  -- 13: s20 := call { builtin append, args := #[t18, t19], #[22, 22] } [if 9=true]
  refine ⟨SlB wr.heap.size n xs, stands5_of (SlB.stable _ _ _) (by intro x hx hk; obtain rfl := List.mem_singleton.1 hx; exact Bool.noConfusion (hk.symm.trans (by kernel_rfl : _ = true))), fun a w hR hf => ?_, ?_⟩
  · obtain ⟨e16, e18, e19, -⟩ := hf
    replace e16 : a.tmps.getD 16 undef = _ := e16
    replace e18 : Own0 wr.heap.size (a.tmps.getD 18 undef) w := e18
    replace e19 : a.tmps.getD 19 undef = _ := e19
    refine rg_want rfl rfl e16 fun K hK => ?_
    clear e16
    obtain ⟨q18, e18, o18⟩ := e18
    obtain ⟨p', c', w3, hr, o3, h3⟩ := append_fresh (P := Try.prog) (bytes := 1) (c := c) (q := p) (m := n) (news := u8s xs) (t := 22) (ty := 22) w Try.underlying22 infoU8s rfl o18 (Rd.below Hrd.out hR) (by rw [u8s_length, Hn.out]) Hp.out (fun v hv => u8s_one hv) (by omega) (by omega) hR.size
    refine rg_append (s := .tmp 18) (x := .tmp 19) rfl e18 e19 hr ?_
    exact hK _ _ ⟨p', c', rfl, o3⟩ ⟨h3.below.mono hR.size, h3⟩
  -- 14: s21 := call { value (Operand.func 27), args := #[t17, t20], #[22, 22] } [if 9=true]
  apply rgu_ev
  · intro a w hR hf
    obtain ⟨e16, e17, e20, -⟩ := hf
    replace e16 : a.tmps.getD 16 undef = _ := e16
    replace e17 : a.tmps.getD 17 undef = _ := e17
    replace e20 : SlB wr.heap.size n xs (a.tmps.getD 20 undef) w := e20
    refine rg_want rfl rfl e16 fun K hK => ?_
    clear e16
    obtain ⟨q20, c20, e20, o20⟩ := e20
    go_simp
    (with_reducible refine (Hs2.out w q20 c20 hR o20.view.1).mono ?_)
    rintro e w' ⟨rfl, ho⟩
    exact hK _ _ rfl ⟨ho.below.mono hR.size, ho⟩
  -- 15: s22 := pick t16 t21 (const (Value.bool false))
  apply rgu_ev
  · intro a w hR hf
    obtain ⟨e16, e21, -⟩ := hf
    replace e16 : a.tmps.getD 16 undef = _ := e16
    replace e21 : a.tmps.getD 21 undef = _ := e21
    refine rg_plain rfl fun K hK => ?_
    go_simp
    exact hK _ _ rfl ⟨hRr _, hRs _ _⟩
  -- 16: s23 := move t22
  apply rgu_ev
  · intro a w hR hf
    obtain ⟨e22, -⟩ := hf
    replace e22 : a.tmps.getD 22 undef = _ := e22
    refine rg_plain rfl fun K hK => ?_
    go_simp
    exact hK _ _ rfl ⟨hRr _, hRs _ _⟩
  -- 17: s24 := move t0 [if 16=true]
  apply rgu_ev
  · intro a w hR hf
    obtain ⟨e23, e0, -⟩ := hf
    replace e23 : a.tmps.getD 23 undef = _ := e23
    replace e0 : a.tmps.getD 0 undef = _ := e0
    refine rg_want rfl rfl e23 fun K hK => ?_
    clear e23
    go_simp
    exact hK _ _ rfl ⟨hRr _, hRs _ _⟩
  -- 18: s25 := buildSlice 22 0 #[] [if 16=true]
  refine ⟨Own0 wr.heap.size, stands5_of (fun v w w' h ho => Own0.stable _ h ho) (by intro x hx hk; obtain rfl := List.mem_singleton.1 hx; exact Bool.noConfusion (hk.symm.trans (by kernel_rfl : _ = true))), fun a w hR hf => ?_, ?_⟩
  · obtain ⟨e23, -⟩ := hf
    replace e23 : a.tmps.getD 23 undef = _ := e23
    refine rg_want rfl rfl e23 fun K hK => ?_
    clear e23
    go_simp
    exact hK _ _ ⟨_, rfl, Own.ofRow (vs := []) (rest := []) hR.size (Row.new w _ []) rfl (by omega)⟩ ⟨(Only.alloc w _).below.mono hR.size, Only.alloc w _⟩
  -- 19: s26 := move t0 [if 16=true]
  apply rgu_ev
  · intro a w hR hf
    obtain ⟨e23, e0, -⟩ := hf
    replace e23 : a.tmps.getD 23 undef = _ := e23
    replace e0 : a.tmps.getD 0 undef = _ := e0
    refine rg_want rfl rfl e23 fun K hK => ?_
    clear e23
    go_simp
    exact hK _ _ rfl ⟨hRr _, hRs _ _⟩
  -- 20: s27 := call { builtin append, args := #[t25, t26], #[22, 22] } [if 16=true]
  refine ⟨SlB wr.heap.size n xs, stands5_of (SlB.stable _ _ _) (by intro x hx hk; obtain rfl := List.mem_singleton.1 hx; exact Bool.noConfusion (hk.symm.trans (by kernel_rfl : _ = true))), fun a w hR hf => ?_, ?_⟩
  · obtain ⟨e23, e25, e26, -⟩ := hf
    replace e23 : a.tmps.getD 23 undef = _ := e23
    replace e25 : Own0 wr.heap.size (a.tmps.getD 25 undef) w := e25
    replace e26 : a.tmps.getD 26 undef = _ := e26
    refine rg_want rfl rfl e23 fun K hK => ?_
    clear e23
    obtain ⟨q25, e25, o25⟩ := e25
    obtain ⟨p', c', w3, hr, o3, h3⟩ := append_fresh (P := Try.prog) (bytes := 1) (c := c) (q := p) (m := n) (news := u8s xs) (t := 22) (ty := 22) w Try.underlying22 infoU8s rfl o25 (Rd.below Hrd.out hR) (by rw [u8s_length, Hn.out]) Hp.out (fun v hv => u8s_one hv) (by omega) (by omega) hR.size
    refine rg_append (s := .tmp 25) (x := .tmp 26) rfl e25 e26 hr ?_
    exact hK _ _ ⟨p', c', rfl, o3⟩ ⟨h3.below.mono hR.size, h3⟩
  -- 21: s28 := buildSlice 22 1 #[(0, const (0:u8))] [if 16=true]
  refine ⟨SlB wr.heap.size 1 [0], stands5_of (SlB.stable _ _ _) (by intro x hx hk; obtain rfl := List.mem_singleton.1 hx; exact Bool.noConfusion (hk.symm.trans (by kernel_rfl : _ = true))), fun a w hR hf => ?_, ?_⟩
  · obtain ⟨e23, -⟩ := hf
    replace e23 : a.tmps.getD 23 undef = _ := e23
    refine rg_want rfl rfl e23 fun K hK => ?_
    clear e23
    go_simp
    exact hK _ _ ⟨_, 1, rfl, Own.ofRow (vs := u8s [0]) (rest := []) hR.size (Row.new w _ (u8s [0])) rfl (by omega)⟩ ⟨(Only.alloc w _).below.mono hR.size, Only.alloc w _⟩
  -- 22: s29 := call { builtin append, args := #[t27, t28], #[22, 22] } [if 16=true]
  refine ⟨SlB wr.heap.size (n + 1) (xs ++ [0]), stands5_of (SlB.stable _ _ _) (by intro x hx hk; obtain rfl := List.mem_singleton.1 hx; exact Bool.noConfusion (hk.symm.trans (by kernel_rfl : _ = true))), fun a w hR hf => ?_, ?_⟩
  · obtain ⟨e23, e27, e28, -⟩ := hf
    replace e23 : a.tmps.getD 23 undef = _ := e23
    replace e27 : SlB wr.heap.size n xs (a.tmps.getD 27 undef) w := e27
    replace e28 : SlB wr.heap.size 1 [0] (a.tmps.getD 28 undef) w := e28
    refine rg_want rfl rfl e23 fun K hK => ?_
    clear e23
    obtain ⟨q27, c27, e27, o27⟩ := e27
    obtain ⟨q28, c28, e28, o28⟩ := e28
    obtain ⟨p', c', w3, hr, o3, h3, hb3⟩ := append_owned (P := Try.prog) (n := n) (m := 1) (bytes := 1) (q := q28) (c := c28) (news := u8s [0]) (t := 22) (ty := 22) w Try.underlying22 infoU8s rfl o27 o28.view.1 rfl o28.view.2.2.1 (fun v hv => u8s_one hv) (by omega) (by omega) hR.size
    have hbel : Below wr.heap.size w w3 := h3.belowOf hR.size o27.blk
    refine rg_append (s := .tmp 27) (x := .tmp 28) rfl e27 e28 hr ?_
    exact hK _ _ ⟨p', c', rfl, by rw [u8s_append]; exact o3⟩ ⟨hbel, hbel⟩
  -- 23: s30 := call { value (Operand.func 27), args := #[t24, t29], #[22, 22] } [if 16=true]
  apply rgu_ev
  · intro a w hR hf
    obtain ⟨e23, e24, e29, -⟩ := hf
    replace e23 : a.tmps.getD 23 undef = _ := e23
    replace e24 : a.tmps.getD 24 undef = _ := e24
    replace e29 : SlB wr.heap.size (n + 1) (xs ++ [0]) (a.tmps.getD 29 undef) w := e29
    refine rg_want rfl rfl e23 fun K hK => ?_
    clear e23
    obtain ⟨q29, c29, e29, o29⟩ := e29
    go_simp
    (with_reducible refine (Hs3.out w q29 c29 hR o29.view.1).mono ?_)
    rintro e w' ⟨rfl, ho⟩
    exact hK _ _ rfl ⟨ho.below.mono hR.size, ho⟩
  -- 24: s31 := unOp Unnot 4 t30 [if 16=true]
  apply rgu_ev
  · intro a w hR hf
    obtain ⟨e23, e30, -⟩ := hf
    replace e23 : a.tmps.getD 23 undef = _ := e23
    replace e30 : a.tmps.getD 30 undef = _ := e30
    refine rg_want rfl rfl e23 fun K hK => ?_
    clear e23
    go_simp
    exact hK _ _ rfl ⟨hRr _, hRs _ _⟩
  -- 25: s32 := pick t23 t31 (const (Value.bool false))
  apply rgu_ev
  · intro a w hR hf
    obtain ⟨e23, e31, -⟩ := hf
    replace e23 : a.tmps.getD 23 undef = _ := e23
    replace e31 : a.tmps.getD 31 undef = _ := e31
    refine rg_plain rfl fun K hK => ?_
    go_simp
    exact hK _ _ rfl ⟨hRr _, hRs _ _⟩
  -- 26: s4 := assign t32
  apply rgu_ev
  · intro a w hR hf
    obtain ⟨e32, -⟩ := hf
    replace e32 : a.tmps.getD 32 undef = _ := e32
    refine rg_plain rfl fun K hK => ?_
    go_simp
    exact hK _ _ rfl ⟨hRr _, hRs _ _⟩
  intro f3 w3 hR3 hf
  dsimp only [mergeT]
  obtain ⟨e4, -⟩ := hf
  replace e4 : f3 4 = _ := e4
  rw [e4]
  -- r3>>
  have ho3 : Only [] W0 w3 := h1.trans0 (Only.ofBelow hR3)
  clear hRr hRt hRd hRs hR3
  go_wp2_with fail
  go_ret
  exact ⟨rfl, ho3⟩
end Go.Proofs.Ytmddehbfimpjdaa
