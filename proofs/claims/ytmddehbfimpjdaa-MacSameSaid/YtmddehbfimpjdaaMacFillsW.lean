/- The walk of bollardlaw04.MacFills. -/
import Derived.Test.YtmddehbfimpjdaaAlive04W
import Derived.Test.YtmddehbfimpjdaaOwnZeros
import Derived.Test.YtmddehbfimpjdaaRegion5
import Derived.Test.YtmddehbfimpjdaaRefHexW
import Derived.Test.YtmddehbfimpjdaaFresh
set_option linter.unusedVariables false
namespace Go.Proofs.Ytmddehbfimpjdaa
open Go.RowKit

theorem modpos4 (x : Int) (n : Nat) : ∃ i : Nat, (x.tmod ((n : Int) + 1) + ((n : Int) + 1)) % ((n : Int) + 1) = (i : Int) ∧ i ≤ n := by
  refine ⟨((x.tmod ((n : Int) + 1) + ((n : Int) + 1)) % ((n : Int) + 1)).toNat, ?_, ?_⟩
  · have : 0 ≤ (x.tmod ((n : Int) + 1) + ((n : Int) + 1)) % ((n : Int) + 1) := Int.emod_nonneg _ (by omega)
    omega
  · have : (x.tmod ((n : Int) + 1) + ((n : Int) + 1)) % ((n : Int) + 1) < (n : Int) + 1 := Int.emod_lt_of_pos _ (by omega)
    omega
def SlA (base m : Nat) (zs : List UInt8) : Value → World → Prop := fun v a => ∃ p c, v = .slice p m c ∧ OwnA a base 5 p m c (u8s zs)
theorem SlA.stable (base m : Nat) (zs : List UInt8) : Stable (Only []) (SlA base m zs) := fun _ _ _ ⟨p, c, h1, h2⟩ ho => ⟨p, c, h1, h2.only0 ho⟩
theorem Rd.below {w w' : World} {p : Option Addr} {vs : List Value} (h : Rd w p vs) (hb : Below w.heap.size w w') : Rd w' p vs := h.only0 (Only.ofBelow hb)
set_option maxHeartbeats 4000000 in
theorem macFills_walk (p q : Option Addr) (xs ms : List UInt8) (n c m d : Nat) (x : Int) (W0 : World) (hn : xs.length = n) (hb : n ≤ 140737488351232) (hnc : n ≤ c) (hp : p = none → n = 0 ∧ c = 0) (hx : Rd W0 p (u8s xs))
    (hm : ms.length = m) (hbm : m ≤ 140737488351232) (hq : q = none → m = 0 ∧ d = 0) (hy : Rd W0 q (u8s ms)) (hx1 : -9223372036854775808 ≤ x ∧ x ≤ 9223372036854775807) :
    Calls Try.prog 4 #[.slice p n c, .slice q m d, .int .i64 x] W0 fun e w' => e = .returned (.bool true) ∧ Only [] W0 w' := by
  by_cases hlong : 64 < n
  · have hlong' : (64 : Int) < (n : Int) := by omega
    go_enter Try.func4, Try.ntmps4
    go_wp2_with fail
    (with_reducible refine (alive04_any W0).mono ?_)
    rintro e w1 ⟨rfl, h1⟩
    go_wp2_with fail
    go_ret
    exact ⟨rfl, h1⟩
  · have hlong' : ¬ (64 : Int) < (n : Int) := by omega
    obtain ⟨r, hr⟩ : ∃ r : Nat, (64 : Int) - (n : Int) = (r : Int) := ⟨64 - n, by omega⟩
    obtain ⟨k, hk, hkr⟩ := modpos4 x r
    have hxb1 : -((r : Int) + 1) < x.tmod ((r : Int) + 1) := by have := Int.lt_tmod_of_pos x (b := (r : Int) + 1) (by omega); omega
    have hxb2 : x.tmod ((r : Int) + 1) < (r : Int) + 1 := Int.tmod_lt_of_pos _ (by omega)
    have HkW : Hid ((IntKind.i64.wrap (x.tmod ((r : Int) + 1) + ((r : Int) + 1))).tmod ((r : Int) + 1) = (k : Int)) := Lib.hid (by
      rw [IntWalk.i64_in _ (by omega), Int.tmod_eq_emod_of_nonneg (by omega)]; exact hk)
    have Hn := Lib.hid hn
    have Hp := Lib.hid hp
    have hr64 : r ≤ 64 := by omega
    clear hk hn hp
    go_enter Try.func4, Try.ntmps4
    go_wp2_with fail
    (with_reducible refine (alive04_any W0).mono ?_)
    rintro e wr ⟨rfl, h1⟩
    have Hrd := Lib.hid (hx.only0 h1)
    go_wp2_with fail
    have hne : (r : Int) + 1 ≠ 0 := by omega
    have hRr : ∀ a, Below wr.heap.size a a := fun a => Below.refl _ _
    have hRt : ∀ a b e, Below wr.heap.size a b → Below wr.heap.size b e → Below wr.heap.size a e := fun a b e h h2 => h.trans h2
    have hRd : Below wr.heap.size wr wr.drew := (Only.drew _).below
    have hRs : ∀ j w, DirtR [(10, Below wr.heap.size)] j w w := DirtR.refl (by intro x hx w; obtain rfl := List.mem_singleton.1 hx; exact Below.refl _ _)
    -- <<r6
    refine wp_region_rg5 (Below wr.heap.size) (DirtR [(10, Below wr.heap.size)]) [[], [(0, none)], [(18, some 1), (19, some 0)], [(2, none)], [(7, none)], [(21, some 1), (22, some 0)], [(7, none)], [(23, some 1), (24, some 0)], [(7, none)], [(25, some 1), (26, some 0)], [(20, some 7), (27, some 0)], [(28, some 0)]] [(8, 0)] [none, none, none, none, none, none, none, none, some 8, none, none, none, none, none, none, none, none, none, some 18, some 19, some 20, some 21, some 22, some 23, some 24, some 25, some 26, some 27, some 28, none, none, none, none, none, none, none] (by kernel_rfl) rfl (by kernel_rfl) hRr hRt hRs hRd (by kernel_rfl) ?_
    -- 0: s18 := buildSlice 22 0 #[]
    refine ⟨Own0 wr.heap.size, stands5_of (fun v w w' h ho => Own0.stable _ h ho) (by intro x hx hk; obtain rfl := List.mem_singleton.1 hx; exact Bool.noConfusion (hk.symm.trans (by kernel_rfl : _ = true))), fun a w hR hf => ?_, ?_⟩
    · refine rg_plain rfl fun K hK => ?_
      go_simp
      exact hK _ _ ⟨_, rfl, Own.ofRow (vs := []) (rest := []) hR.size (Row.new w _ []) rfl (by omega)⟩ ⟨(Only.alloc w _).below.mono hR.size, Only.alloc w _⟩
    -- 1: s19 := move t0
    apply rgu_ev
    · intro a w hR hf
      obtain ⟨e0, -⟩ := hf
      replace e0 : a.tmps.getD 0 undef = _ := e0
      refine rg_plain rfl fun K hK => ?_
      go_simp
      exact hK _ _ rfl ⟨hRr _, hRs _ _⟩
    -- 2: s20 := call { builtin append, args := #[t18, t19], #[22, 22] }
    refine ⟨SlB wr.heap.size n xs, stands5_of (SlB.stable _ _ _) (by intro x hx hk; obtain rfl := List.mem_singleton.1 hx; exact Bool.noConfusion (hk.symm.trans (by kernel_rfl : _ = true))), fun a w hR hf => ?_, ?_⟩
    · obtain ⟨e18, e19, -⟩ := hf
      replace e18 : Own0 wr.heap.size (a.tmps.getD 18 undef) w := e18
      replace e19 : a.tmps.getD 19 undef = _ := e19
      refine rg_plain rfl fun K hK => ?_
      obtain ⟨q18, e18, o18⟩ := e18
      obtain ⟨p', c', w3, hr, o3, h3⟩ := append_fresh (P := Try.prog) (bytes := 1) (c := c) (q := p) (m := n) (news := u8s xs) (t := 22) (ty := 22) w Try.underlying22 infoU8s rfl o18 (Rd.below Hrd.out hR) (by rw [u8s_length, Hn.out]) Hp.out (fun v hv => u8s_one hv) (by omega) (by omega) hR.size
      refine rg_append (s := .tmp 18) (x := .tmp 19) rfl e18 e19 hr ?_
      exact hK _ _ ⟨p', c', rfl, o3⟩ ⟨h3.below.mono hR.size, h3⟩
    -- 3: s21 := move t2
    apply rgu_ev
    · intro a w hR hf
      obtain ⟨e2, -⟩ := hf
      replace e2 : a.tmps.getD 2 undef = _ := e2
      refine rg_plain rfl fun K hK => ?_
      go_simp
      exact hK _ _ rfl ⟨hRr _, hRs _ _⟩
    -- 4: s22 := move t7
    apply rgu_ev
    · intro a w hR hf
      obtain ⟨e7, -⟩ := hf
      replace e7 : a.tmps.getD 7 undef = _ := e7
      refine rg_plain rfl fun K hK => ?_
      go_simp
      exact hK _ _ rfl ⟨hRr _, hRs _ _⟩
    -- 5: s23 := binOp Binrem 3 t21 t22 3
    apply rgu_ev
    · intro a w hR hf
      obtain ⟨e21, e22, -⟩ := hf
      replace e21 : a.tmps.getD 21 undef = _ := e21
      replace e22 : a.tmps.getD 22 undef = _ := e22
      refine rg_plain rfl fun K hK => ?_
      go_simp
      exact hK _ _ rfl ⟨hRr _, hRs _ _⟩
    -- 6: s24 := move t7
    apply rgu_ev
    · intro a w hR hf
      obtain ⟨e7, -⟩ := hf
      replace e7 : a.tmps.getD 7 undef = _ := e7
      refine rg_plain rfl fun K hK => ?_
      go_simp
      exact hK _ _ rfl ⟨hRr _, hRs _ _⟩
    -- 7: s25 := binOp Binadd 3 t23 t24 3
    apply rgu_ev
    · intro a w hR hf
      obtain ⟨e23, e24, -⟩ := hf
      replace e23 : a.tmps.getD 23 undef = _ := e23
      replace e24 : a.tmps.getD 24 undef = _ := e24
      refine rg_plain rfl fun K hK => ?_
      go_simp
      exact hK _ _ rfl ⟨hRr _, hRs _ _⟩
    -- 8: s26 := move t7
    apply rgu_ev
    · intro a w hR hf
      obtain ⟨e7, -⟩ := hf
      replace e7 : a.tmps.getD 7 undef = _ := e7
      refine rg_plain rfl fun K hK => ?_
      go_simp
      exact hK _ _ rfl ⟨hRr _, hRs _ _⟩
    -- 9: s27 := binOp Binrem 3 t25 t26 3
    apply rgu_ev
    · intro a w hR hf
      obtain ⟨e25, e26, -⟩ := hf
      replace e25 : a.tmps.getD 25 undef = _ := e25
      replace e26 : a.tmps.getD 26 undef = _ := e26
      refine rg_plain rfl fun K hK => ?_
      go_simp
      exact hK _ _ rfl ⟨hRr _, hRs _ _⟩
    -- 10: s28 := call { builtin append, args := #[t20, t27], #[22, 3] }
    refine ⟨SlA wr.heap.size (n + k) (xs ++ List.replicate k 0), stands5_of (SlA.stable _ _ _) (by intro x hx hk; obtain rfl := List.mem_singleton.1 hx; exact Bool.noConfusion (hk.symm.trans (by kernel_rfl : _ = true))), fun a w hR hf => ?_, ?_⟩
    · obtain ⟨e20, e27, -⟩ := hf
      replace e20 : SlB wr.heap.size n xs (a.tmps.getD 20 undef) w := e20
      replace e27 : a.tmps.getD 27 undef = _ := e27
      refine rg_plain rfl fun K hK => ?_
      obtain ⟨q20, c20, e20, o20⟩ := e20
      replace e27 := e27.trans (congrArg (Value.int IntKind.i64) HkW.out)
      obtain ⟨p', c', w3, hr, o3, h3, hb3⟩ := append_zeros (P := Try.prog) (bytes := 1) (k := k) (kq := .i64) (kn := .i64) (tn := 3) (t := 22) (ty := 22) w Try.underlying22 Try.underlying3 infoU8s rfl rfl (OwnA.ofOwn o20) (by omega) (by omega) hR.size
      have hbel : Below wr.heap.size w w3 := h3.belowOf hR.size (fun x hx => (OwnA.ofOwn o20).lt x hx |>.1)
      refine rg_append (s := .tmp 20) (x := .tmp 27) rfl e20 e27 hr ?_
      exact hK _ _ ⟨p', c', rfl, by rw [u8s_append, u8s_replicate]; exact o3⟩ ⟨hbel, hbel⟩
    -- 11: s8 := assign t28
    refine ⟨SlA wr.heap.size (n + k) (xs ++ List.replicate k 0), stands5_of (SlA.stable _ _ _) (by intro x hx hk; obtain rfl := List.mem_singleton.1 hx; exact Bool.noConfusion (hk.symm.trans (by kernel_rfl : _ = true))), fun a w hR hf => ?_, ?_⟩
    · obtain ⟨e28, -⟩ := hf
      replace e28 : SlA wr.heap.size (n + k) (xs ++ List.replicate k 0) (a.tmps.getD 28 undef) w := e28
      refine rg_plain rfl fun K hK => ?_
      generalize hv28 : a.tmps.getD 28 undef = v28 at e28
      go_simp
      exact hK _ _ e28 ⟨hRr _, hRs _ _⟩
    intro f6 w6 hR6 hf
    dsimp only [mergeT]
    obtain ⟨e8, -⟩ := hf
    replace e8 : SlA wr.heap.size (n + k) (xs ++ List.replicate k 0) (f6 8) w6 := e8
    -- r6>>
    obtain ⟨p8, c8, e8, o8⟩ := e8
    rw [e8]
    clear e8
    have ho6 : Only [] W0 w6 := h1.trans0 (Only.ofBelow hR6)
    have hfill := macB_fill xs ms k (by have := Hn.out; omega)
    have hs1 := macSum_any p q xs ms n c m d w6 Hn.out (by omega) Hp.out (hx.only0 ho6) hm (by omega) hq (hy.only0 ho6)
    have hs2 := fun w h => macSum_any p8 q (xs ++ List.replicate k 0) ms (n + k) c8 m d w (by rw [List.length_append, List.length_replicate, Hn.out]) (by omega) o8.nilp (Rd.only0 o8.rd h) hm (by omega) hq ((hy.only0 ho6).only0 h)
    rw [hfill] at hs2
    have hlA : (macB xs ms).length = 32 := rfl
    generalize macB xs ms = A at hs1 hs2 hlA
    clear hx hy hRr hRt hRd hRs hR6 hfill
    go_wp2_with fail
    (with_reducible refine (hs1).mono ?_)
    rintro e w7 ⟨rfl, h7⟩
    go_wp2_with fail
    (with_reducible refine (hs2 w7 h7).mono ?_)
    rintro e w8 ⟨rfl, h8⟩
    have hq1 := eqIn32 A A hlA hlA w8
    have hgd := guard32
    rw [beq_self_eq_true] at hq1
    have hlow := (ho6.trans0 h7).trans0 h8
    clear hs1 hs2 h7 h8
    go_wp2_with fail
    go_ret
    exact ⟨rfl, hlow⟩
end Go.Proofs.Ytmddehbfimpjdaa
