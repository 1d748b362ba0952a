/- The walk of WireSums. -/
import Derived.Test.YtkhccchjflmcmaaDoorWireAlive
import Derived.Test.YtkhccchjflmcmaaDoorOpenAllW
import Derived.Test.YtkhccchjflmcmaaDoorApartW
import Derived.Test.YtkhccchjflmcmaaDoorRegion3
set_option linter.unusedVariables false
namespace Go.Proofs.YtkhccchjflmcmaaDoor
open Go.RowKit

theorem openBy_seal (xs : List UInt8) : openBy (sealB xs) = xs := by
  have hl := sealB_length xs
  rw [openBy, if_neg (by omega), hl, Nat.add_sub_cancel, if_pos (sealB_ok xs), sealB, List.take_left]
theorem openNo_seal (xs : List UInt8) : openNo (sealB xs) = 0 := by
  have hl := sealB_length xs
  rw [openNo, if_neg (by omega), hl, Nat.add_sub_cancel, if_pos (sealB_ok xs)]

theorem openBy_len (xs : List UInt8) : (openBy xs).length ≤ xs.length := by
  unfold openBy
  split
  · simp
  · split
    · rw [List.length_take]; omega
    · simp

/-- an owned slice stays owned, whatever its bytes -/
def Kp (q : Option Addr) (k d base : Nat) (w w' : World) : Prop := ∀ zs : List UInt8, zs.length = k → Own w base 5 (.slice q k d) (u8s zs) → ∃ zs' : List UInt8, zs'.length = k ∧ Own w' base 5 (.slice q k d) (u8s zs')
theorem Kp.refl {q : Option Addr} {k d base : Nat} (w : World) : Kp q k d base w w := fun zs h o => ⟨zs, h, o⟩
theorem Kp.trans {q : Option Addr} {k d base : Nat} {a b c : World} (h : Kp q k d base a b) (h2 : Kp q k d base b c) : Kp q k d base a c := fun zs hz o => by
  obtain ⟨ys, hy, o2⟩ := h zs hz o
  exact h2 ys hy o2
theorem Kp.only0 {q : Option Addr} {k d base : Nat} {a b : World} (h : Only [] a b) : Kp q k d base a b := fun zs hz o => ⟨zs, hz, o.only0 h⟩

/-- a slice that reads as the bytes xs, its block not among D -/
def IsByF (D : List Nat) (xs : List UInt8) (n : Nat) : Value → World → Prop := fun v w => xs.length = n ∧ ∃ p k, v = .slice p n k ∧ Rd w p (u8s xs) ∧ (p = none → n = 0 ∧ k = 0) ∧ (∀ a, p = some a → a.block ∉ D)

theorem wireSums_any (p : Option Addr) (xs : List UInt8) (n c : Nat) (az : List Addr) (w : World) (hn : xs.length = n) (hnc : n ≤ c) (hb : n ≤ 140737488351232) (hc63 : c ≤ 9223372036854775807) (hp : p = none → n = 0 ∧ c = 0) (hx : Rd w p (u8s xs)) (hE : ErrAll w az) :
    Calls Tryd.prog 8 #[.slice p n c] w fun e w' => e = .returned (.bool true) ∧ Only [] w w' := by
  have Hn := Lib.hid hn
  have Hp := Lib.hid hp
  clear hn hp
  go_enter Tryd.func8, Tryd.ntmps8
  go_wp2_with fail
  (with_reducible refine (alive05 w).mono ?_)
  rintro e w1 ⟨rfl, o1⟩
  go_wp2_with fail
  (with_reducible refine (bytes_any p xs n c w1 Hn.out hb Hp.out (hx.only0 o1)).mono ?_)
  rintro e w2 ⟨gi, rfl, hgi, ri, o2⟩
  go_wp2_with fail
  have rin : Rd w2 (some ⟨gi, 0, none⟩) (u8s xs) := by
    have := ri.rd0.take n
    rw [u8s_take] at this
    rwa [List.take_left' Hn.out] at this
  (with_reducible refine (seal_any (some ⟨gi, 0, none⟩) xs n (n + 6) w2 Hn.out hb (by simp) rin).mono ?_)
  rintro e w3 ⟨ps, cs, rfl, os, o3⟩
  obtain ⟨gs, rfl, hgs, hgs2⟩ := os.at (by omega)
  go_wp2_with fail
  have e3 := (o1.trans0 o2).trans0 o3
  (with_reducible refine (open_all (some ⟨gi, 0, none⟩) xs n (n + 6) az w3 (hE.only0 e3) Hn.out (by omega) (by omega) (by omega) (by simp) (rin.only0 o3)).mono ?_)
  rintro e w4 ⟨qo, ko, d5, v6, rfl, Hko, oo, hv6, o4⟩
  go_wp2_with fail
  have e4 := e3.trans0 o4
  (with_reducible refine (refOpen_all p xs n c w4 Hn.out hnc hb hc63 (hx.only0 e4)).mono ?_)
  rintro e w5 ⟨q7, k7, d7, rfl, Hk7, o7, o5⟩
  go_wp2_with fail
  have e5 := e4.trans0 o5
  have os5 := (os.only0 o4).only0 o5
  obtain ⟨rs5, _, _, hcs, hcs2, _⟩ := os5.view
  (with_reducible refine (open_all (some ⟨gs, 0, none⟩) (sealB xs) (n + 4) cs az w5 (hE.only0 e5) (by rw [sealB_length, Hn.out]) (by omega) (by omega) hcs2 (by simp) rs5).mono ?_)
  rintro e w6 ⟨q9, k9, d9, v10, rfl, Hk9, o9, hv10, o6⟩
  rw [openBy_seal] at Hk9 o9
  rw [openNo_seal] at hv10
  obtain rfl : v10 = .nilIface := by
    rcases hv10 with ⟨_, h⟩ | ⟨a, h, _⟩
    · exact h
    · omega
  obtain rfl : n = k9 := Hn.out.symm.trans Hk9.out
  have e6 := e5.trans0 o6
  -- what stands at w6
  have os6 := os5.only0 o6
  have oo6 := (oo.only0 o5).only0 o6
  have o76 := o7.only0 o6
  have ri6 := ((((ri.only0 o3).only0 o4).only0 o5).only0 o6)
  have rin6 := ((((rin.only0 o3).only0 o4).only0 o5).only0 o6)
  have z1 := o1.size; have z2 := o2.size; have z3 := o3.size; have z4 := o4.size; have z5 := o5.size; have z6 := o6.size
  have hri := ri.lt
  have bo : ∀ k ∈ blk qo, w3.heap.size ≤ k ∧ k < w4.heap.size := fun k hk => by
    have h := blk_own oo k hk
    exact h
  have b7 : ∀ k ∈ blk q7, w4.heap.size ≤ k := fun k hk => (blk_own o7 k hk).1
  have b9 : ∀ k ∈ blk q9, w5.heap.size ≤ k := fun k hk => (blk_own o9 k hk).1
  generalize hD : gs :: blk qo = D
  have hD1 : ∀ k ∈ D, w2.heap.size ≤ k ∧ k < w4.heap.size := by
    intro k hk
    rw [← hD] at hk
    rcases List.mem_cons.1 hk with rfl | hk
    · omega
    · have := bo k hk; omega
  obtain ⟨R, hRdef⟩ : ∃ R : World → World → Prop, R = fun w w' => Only D w w' ∧ Kp (some ⟨gs, 0, none⟩) (n + 4) cs w2.heap.size w w' ∧ Kp qo ko d5 w3.heap.size w w' := ⟨_, rfl⟩
  have hRi : ∀ a b, R a b → Only D a b ∧ Kp (some ⟨gs, 0, none⟩) (n + 4) cs w2.heap.size a b ∧ Kp qo ko d5 w3.heap.size a b := fun a b h => by rw [hRdef] at h; exact h
  have hRm : ∀ a b, Only D a b → Kp (some ⟨gs, 0, none⟩) (n + 4) cs w2.heap.size a b → Kp qo ko d5 w3.heap.size a b → R a b := fun a b h1 h2 h3 => by rw [hRdef]; exact ⟨h1, h2, h3⟩
  have hR0 : ∀ a b, Only [] a b → R a b := fun a b h => hRm a b (h.mono (by simp)) (Kp.only0 h) (Kp.only0 h)
  have hRr : ∀ w, R w w := fun w => hR0 w w (Only.refl _ _)
  have hRt : ∀ a b c, R a b → R b c → R a c := fun a b c h h2 => by
    obtain ⟨x1, x2, x3⟩ := hRi _ _ h
    obtain ⟨y1, y2, y3⟩ := hRi _ _ h2
    exact hRm _ _ (x1.trans y1 (fun i hi _ => hi)) (x2.trans y2) (x3.trans y3)
  clear hRdef
  obtain ⟨C, hCdef⟩ : ∃ C : World → Prop, C = Only [] w6 := ⟨_, rfl⟩
  have hCi : ∀ W, C W → Only [] w6 W := fun W h => by rw [hCdef] at h; exact h
  have hCm : ∀ W, Only [] w6 W → C W := fun W h => by rw [hCdef]; exact h
  clear hCdef
  have hRd : R w6 w6.drew := hR0 _ _ (Only.drew _)
  have hC0 : C w6.drew := hCm _ (Only.drew _)
  have hent : ∀ W, R w6 W → Only [] w W := fun W h => (e6.transN (hRi _ _ h).1 (fun i hi => by have := hD1 i hi; omega))
  have fin : ∀ W, R w6 W → Rd W (some ⟨gi, 0, none⟩) (u8s xs) := fun W h => rin6.only (hRi _ _ h).1 (fun a ha => by
    obtain rfl := Option.some.inj ha
    intro hm
    have := hD1 _ hm
    simp only at this
    omega)
  have fri : ∀ W, R w6 W → Row W gi 5 (u8s (xs ++ marks)) := fun W h => ri6.only (hRi _ _ h).1 (fun hm => by have := hD1 _ hm; omega)
  have f7 : ∀ W, R w6 W → Rd W q7 (u8s (openBy xs)) := fun W h => o76.view.1.only (hRi _ _ h).1 (fun a ha hm => by
    have h1 := hD1 _ hm
    have h2 := b7 a.block (by rw [ha]; simp [blk])
    omega)
  have f9 : ∀ W, R w6 W → Rd W q9 (u8s xs) := fun W h => o9.view.1.only (hRi _ _ h).1 (fun a ha hm => by
    have h1 := hD1 _ hm
    have h2 := b9 a.block (by rw [ha]; simp [blk])
    omega)
  have hst : Stable R (IsByF D (sealB xs) (n + 4)) := fun v a b h hab => by
    obtain ⟨l1, p1, k1, l2, l3, l4, l5⟩ := h
    exact ⟨l1, p1, k1, l2, l3.only (hRi _ _ hab).1 l5, l4, l5⟩
  have hko : ko ≤ n := by have := openBy_len xs; have := Hko.out; have := Hn.out; omega
  have n5 := oo6.view.2.2.1
  have n7 := o76.view.2.2.1
  have n9 := o9.view.2.2.1
  go_wp2_with fail
  -- <<r8
  refine wp_region_rg3 R C [40, 45] [[(3, none)], [(32, some 0)], [(0, none)], [(34, some 0)], [(33, some 2), (35, some 0)], [(36, some 0)], [(37, some 0), (4, none)], [(37, some 1), (38, some 0)], [(37, some 2), (0, none)], [(37, some 3), (40, some 0)], [(37, some 4), (41, some 0)], [(37, some 5), (39, some 3), (42, some 0)], [(37, some 6), (43, some 0)], [(44, some 0)], [(45, some 0), (6, none)], [(45, some 1), (46, some 0)], [(45, some 2), (8, none)], [(45, some 3), (47, some 1), (48, some 0)], [(45, some 4), (49, some 0)], [(50, some 0)], [(51, some 0), (5, none)], [(51, some 1), (52, some 0)], [(51, some 2), (7, none)], [(51, some 3), (54, some 0)], [(51, some 4), (53, some 2), (55, some 0)], [(51, some 5), (56, some 0)], [(57, some 0)], [(58, some 0), (10, none)], [(58, some 1), (59, some 0)], [(58, some 2), (60, some 0)], [(61, some 0)], [(62, some 0), (9, none)], [(62, some 1), (63, some 0)], [(62, some 2), (0, none)], [(62, some 3), (65, some 0)], [(62, some 4), (64, some 2), (66, some 0)], [(62, some 5), (67, some 0)], [(68, some 0)], [(69, some 0), (4, none)], [(69, some 1), (5, none)], [(69, some 2), (70, some 1), (71, some 0)], [(69, some 3), (72, some 0)], [(73, some 0)], [(74, some 0), (9, none)], [(74, some 1), (4, none)], [(74, some 2), (75, some 1), (76, some 0)], [(74, some 3), (77, some 0)], [(78, some 0)], [(79, some 0), (3, none)], [(79, some 1), (0, none)], [(79, some 2), (80, some 1), (81, some 0)], [(79, some 3), (82, some 0)], [(83, some 0)]] [(2, 0)] [none, none, some 2, none, none, none, none, none, none, none, none, none, none, none, none, none, none, none, none, none, none, none, none, none, none, none, none, none, none, none, none, none, some 32, some 33, some 34, some 35, some 36, some 37, some 38, some 39, some 40, some 41, some 42, some 43, some 44, some 45, some 46, some 47, some 48, some 49, some 50, some 51, some 52, some 53, some 54, some 55, some 56, some 57, some 58, some 59, some 60, some 61, some 62, some 63, some 64, some 65, some 66, some 67, some 68, some 69, some 70, some 71, some 72, some 73, some 74, some 75, some 76, some 77, some 78, some 79, some 80, some 81, some 82, some 83] (by kernel_rfl) rfl (by kernel_rfl) hRr hRt hRd hC0 (by kernel_rfl) (by kernel_rfl) ?_
  -- 0: s32 := move t3
  apply rgc_ev
  · intro a w hR hC hf
    obtain ⟨e3, -⟩ := hf
    replace e3 : a.tmps.getD 3 undef = _ := e3
    refine rg_plain rfl fun K hK => ?_
    go_simp
    exact hK _ _ rfl ⟨hRr _, fun _ h => h⟩
  -- 1: s33 := call { value (Operand.func 34), args := #[t32], #[26] }
  apply rgc_ev
  · intro a w hR hC hf
    obtain ⟨e32, -⟩ := hf
    replace e32 : a.tmps.getD 32 undef = _ := e32
    refine rg_plain rfl fun K hK => ?_
    go_simp
    (with_reducible refine (sum_any (some ⟨gi, 0, none⟩) xs n (n + 6) w Hn.out (by omega) (by simp) (fin w hR)).mono ?_)
    rintro e w' ⟨rfl, rfl⟩
    exact hK _ _ rfl ⟨hRr _, fun _ h => h⟩
  -- 2: s34 := move t0
  apply rgc_ev
  · intro a w hR hC hf
    obtain ⟨e0, -⟩ := hf
    replace e0 : a.tmps.getD 0 undef = _ := e0
    refine rg_plain rfl fun K hK => ?_
    go_simp
    exact hK _ _ rfl ⟨hRr _, fun _ h => h⟩
  -- 3: s35 := call { value (Operand.func 35), args := #[t34], #[26] }
  apply rgc_ev
  · intro a w hR hC hf
    obtain ⟨e34, -⟩ := hf
    replace e34 : a.tmps.getD 34 undef = _ := e34
    refine rg_plain rfl fun K hK => ?_
    go_simp
    (with_reducible refine (refSum_any p xs n c w Hn.out (by omega) Hp.out (hx.only0 (hent w hR))).mono ?_)
    rintro e w' ⟨rfl, rfl⟩
    exact hK _ _ rfl ⟨hRr _, fun _ h => h⟩
  -- 4: s36 := binOp Bineql 69 t33 t35 69
  apply rgc_ev
  · intro a w hR hC hf
    obtain ⟨e33, e35, -⟩ := hf
    replace e33 : a.tmps.getD 33 undef = _ := e33
    replace e35 : a.tmps.getD 35 undef = _ := e35
    refine rg_plain rfl fun K hK => ?_
    go_simp
    exact hK _ _ rfl ⟨hRr _, fun _ h => h⟩
  -- 5: s37 := move t36
  apply rgc_ev
  · intro a w hR hC hf
    obtain ⟨e36, -⟩ := hf
    replace e36 : a.tmps.getD 36 undef = _ := e36
    refine rg_plain rfl fun K hK => ?_
    go_simp
    exact hK _ _ rfl ⟨hRr _, fun _ h => h⟩
  -- 6: s38 := move t4 [if 5=true]
  apply rgc_ev
  · intro a w hR hC hf
    obtain ⟨e37, e4, -⟩ := hf
    replace e37 : a.tmps.getD 37 undef = _ := e37
    replace e4 : a.tmps.getD 4 undef = _ := e4
    refine rg_want rfl rfl e37 fun K hK => ?_
    clear e37
    go_simp
    exact hK _ _ rfl ⟨hRr _, fun _ h => h⟩
  -- 7: s39 := convert 26 9 t38 [if 5=true]
  apply rgc_ev
  · intro a w hR hC hf
    obtain ⟨e37, e38, -⟩ := hf
    replace e37 : a.tmps.getD 37 undef = _ := e37
    replace e38 : a.tmps.getD 38 undef = _ := e38
    refine rg_want rfl rfl e37 fun K hK => ?_
    clear e37
    replace hC := hC (by kernel_rfl)
    have ov := (os6.only0 (hCi _ hC)).view
    have hc := conv_bytes (P := Tryd.prog) (xs := sealB xs) w Tryd.underlying26 Tryd.underlying5 Tryd.underlying9 ov.1 (by rw [sealB_length, Hn.out]) ov.2.2.1
    clear ov
    go_simp
    exact hK _ _ rfl ⟨hRr _, fun _ h => h⟩
  -- 8: s40 := move t0 [if 5=true]
  apply rgc_ev
  · intro a w hR hC hf
    obtain ⟨e37, e0, -⟩ := hf
    replace e37 : a.tmps.getD 37 undef = _ := e37
    replace e0 : a.tmps.getD 0 undef = _ := e0
    refine rg_want rfl rfl e37 fun K hK => ?_
    clear e37
    go_simp
    exact hK _ _ rfl ⟨hRr _, fun _ h => h⟩
  -- 9: s41 := call { value (Operand.func 36), args := #[t40], #[26] } [if 5=true]
  refine ⟨IsByF D (sealB xs) (n + 4), hst, fun a w hR hC hf => ?_, ?_⟩
  · obtain ⟨e37, e40, -⟩ := hf
    replace e37 : a.tmps.getD 37 undef = _ := e37
    replace e40 : a.tmps.getD 40 undef = _ := e40
    refine rg_want rfl rfl e37 fun K hK => ?_
    clear e37
    go_simp
    (with_reducible refine (refSeal_any p xs n c w Hn.out hb Hp.out (hx.only0 (hent w hR))).mono ?_)
    rintro e w' ⟨p', c', rfl, o, h⟩
    have ov := o.view
    have hws := (hRi _ _ hR).1.size
    exact hK _ _ ⟨by rw [sealB_length, Hn.out], p', c', rfl, ov.1, ov.2.2.1, fun a ha hm => by have := hD1 _ hm; have := (ov.2.2.2.2.2 a ha).1; omega⟩ ⟨hR0 _ _ h, fun _ hc => hCm _ ((hCi _ hc).trans0 h)⟩
  -- 10: s42 := convert 26 9 t41 [if 5=true]
  apply rgc_ev
  · intro a w hR hC hf
    obtain ⟨e37, e41, -⟩ := hf
    replace e37 : a.tmps.getD 37 undef = _ := e37
    replace e41 : IsByF D (sealB xs) (n + 4) (a.tmps.getD 41 undef) w := e41
    refine rg_want rfl rfl e37 fun K hK => ?_
    clear e37
    obtain ⟨l41, p41, k41, e41, r41, n41, -⟩ := e41
    have hc := conv_bytes (P := Tryd.prog) w Tryd.underlying26 Tryd.underlying5 Tryd.underlying9 r41 l41 n41
    clear l41 n41
    go_simp
    exact hK _ _ rfl ⟨hRr _, fun _ h => h⟩
  -- 11: s43 := binOp Bineql 9 t39 t42 9 [if 5=true]
  apply rgc_ev
  · intro a w hR hC hf
    obtain ⟨e37, e39, e42, -⟩ := hf
    replace e37 : a.tmps.getD 37 undef = _ := e37
    replace e39 : a.tmps.getD 39 undef = _ := e39
    replace e42 : a.tmps.getD 42 undef = _ := e42
    refine rg_want rfl rfl e37 fun K hK => ?_
    clear e37
    go_simp
    exact hK _ _ rfl ⟨hRr _, fun _ h => h⟩
  -- 12: s44 := pick t37 t43 (const (Value.bool false))
  apply rgc_ev
  · intro a w hR hC hf
    obtain ⟨e37, e43, -⟩ := hf
    replace e37 : a.tmps.getD 37 undef = _ := e37
    replace e43 : a.tmps.getD 43 undef = _ := e43
    refine rg_plain rfl fun K hK => ?_
    go_simp
    exact hK _ _ rfl ⟨hRr _, fun _ h => h⟩
  -- 13: s45 := move t44
  apply rgc_ev
  · intro a w hR hC hf
    obtain ⟨e44, -⟩ := hf
    replace e44 : a.tmps.getD 44 undef = _ := e44
    refine rg_plain rfl fun K hK => ?_
    go_simp
    exact hK _ _ rfl ⟨hRr _, fun _ h => h⟩
  -- 14: s46 := move t6 [if 13=true]
  apply rgc_ev
  · intro a w hR hC hf
    obtain ⟨e45, e6, -⟩ := hf
    replace e45 : a.tmps.getD 45 undef = _ := e45
    replace e6 : a.tmps.getD 6 undef = _ := e6
    refine rg_want rfl rfl e45 fun K hK => ?_
    clear e45
    go_simp
    exact hK _ _ rfl ⟨hRr _, fun _ h => h⟩
  -- 15: s47 := call { value (Operand.func 24), args := #[t46], #[28] } [if 13=true]
  apply rgc_ev
  · intro a w hR hC hf
    obtain ⟨e45, e46, -⟩ := hf
    replace e45 : a.tmps.getD 45 undef = _ := e45
    replace e46 : a.tmps.getD 46 undef = _ := e46
    refine rg_want rfl rfl e45 fun K hK => ?_
    clear e45
    go_simp
    (with_reducible refine (num_all w az (openNo xs) v6 (hE.only0 (hent w hR)) hv6).mono ?_)
    rintro e w' ⟨rfl, h⟩
    exact hK _ _ rfl ⟨hR0 _ _ h, fun _ hc => hCm _ ((hCi _ hc).trans0 h)⟩
  -- 16: s48 := move t8 [if 13=true]
  apply rgc_ev
  · intro a w hR hC hf
    obtain ⟨e45, e8, -⟩ := hf
    replace e45 : a.tmps.getD 45 undef = _ := e45
    replace e8 : a.tmps.getD 8 undef = _ := e8
    refine rg_want rfl rfl e45 fun K hK => ?_
    clear e45
    go_simp
    exact hK _ _ rfl ⟨hRr _, fun _ h => h⟩
  -- 17: s49 := binOp Bineql 3 t47 t48 3 [if 13=true]
  apply rgc_ev
  · intro a w hR hC hf
    obtain ⟨e45, e47, e48, -⟩ := hf
    replace e45 : a.tmps.getD 45 undef = _ := e45
    replace e47 : a.tmps.getD 47 undef = _ := e47
    replace e48 : a.tmps.getD 48 undef = _ := e48
    refine rg_want rfl rfl e45 fun K hK => ?_
    clear e45
    go_simp
    exact hK _ _ rfl ⟨hRr _, fun _ h => h⟩
  -- 18: s50 := pick t45 t49 (const (Value.bool false))
  apply rgc_ev
  · intro a w hR hC hf
    obtain ⟨e45, e49, -⟩ := hf
    replace e45 : a.tmps.getD 45 undef = _ := e45
    replace e49 : a.tmps.getD 49 undef = _ := e49
    refine rg_plain rfl fun K hK => ?_
    go_simp
    exact hK _ _ rfl ⟨hRr _, fun _ h => h⟩
  -- 19: s51 := move t50
  apply rgc_ev
  · intro a w hR hC hf
    obtain ⟨e50, -⟩ := hf
    replace e50 : a.tmps.getD 50 undef = _ := e50
    refine rg_plain rfl fun K hK => ?_
    go_simp
    exact hK _ _ rfl ⟨hRr _, fun _ h => h⟩
  -- 20: s52 := move t5 [if 19=true]
  apply rgc_ev
  · intro a w hR hC hf
    obtain ⟨e51, e5, -⟩ := hf
    replace e51 : a.tmps.getD 51 undef = _ := e51
    replace e5 : a.tmps.getD 5 undef = _ := e5
    refine rg_want rfl rfl e51 fun K hK => ?_
    clear e51
    go_simp
    exact hK _ _ rfl ⟨hRr _, fun _ h => h⟩
  -- 21: s53 := convert 26 9 t52 [if 19=true]
  apply rgc_ev
  · intro a w hR hC hf
    obtain ⟨e51, e52, -⟩ := hf
    replace e51 : a.tmps.getD 51 undef = _ := e51
    replace e52 : a.tmps.getD 52 undef = _ := e52
    refine rg_want rfl rfl e51 fun K hK => ?_
    clear e51
    replace hC := hC (by kernel_rfl)
    have ov := (oo6.only0 (hCi _ hC)).view
    have hc := conv_bytes (P := Tryd.prog) w Tryd.underlying26 Tryd.underlying5 Tryd.underlying9 ov.1 Hko.out ov.2.2.1
    clear ov
    go_simp
    exact hK _ _ rfl ⟨hRr _, fun _ h => h⟩
  -- 22: s54 := move t7 [if 19=true]
  apply rgc_ev
  · intro a w hR hC hf
    obtain ⟨e51, e7, -⟩ := hf
    replace e51 : a.tmps.getD 51 undef = _ := e51
    replace e7 : a.tmps.getD 7 undef = _ := e7
    refine rg_want rfl rfl e51 fun K hK => ?_
    clear e51
    go_simp
    exact hK _ _ rfl ⟨hRr _, fun _ h => h⟩
  -- 23: s55 := convert 26 9 t54 [if 19=true]
  apply rgc_ev
  · intro a w hR hC hf
    obtain ⟨e51, e54, -⟩ := hf
    replace e51 : a.tmps.getD 51 undef = _ := e51
    replace e54 : a.tmps.getD 54 undef = _ := e54
    refine rg_want rfl rfl e51 fun K hK => ?_
    clear e51
    have hc := conv_bytes (P := Tryd.prog) (c := d7) w Tryd.underlying26 Tryd.underlying5 Tryd.underlying9 (f7 w hR) Hk7.out n7
    go_simp
    exact hK _ _ rfl ⟨hRr _, fun _ h => h⟩
  -- 24: s56 := binOp Bineql 9 t53 t55 9 [if 19=true]
  apply rgc_ev
  · intro a w hR hC hf
    obtain ⟨e51, e53, e55, -⟩ := hf
    replace e51 : a.tmps.getD 51 undef = _ := e51
    replace e53 : a.tmps.getD 53 undef = _ := e53
    replace e55 : a.tmps.getD 55 undef = _ := e55
    refine rg_want rfl rfl e51 fun K hK => ?_
    clear e51
    go_simp
    exact hK _ _ rfl ⟨hRr _, fun _ h => h⟩
  -- 25: s57 := pick t51 t56 (const (Value.bool false))
  apply rgc_ev
  · intro a w hR hC hf
    obtain ⟨e51, e56, -⟩ := hf
    replace e51 : a.tmps.getD 51 undef = _ := e51
    replace e56 : a.tmps.getD 56 undef = _ := e56
    refine rg_plain rfl fun K hK => ?_
    go_simp
    exact hK _ _ rfl ⟨hRr _, fun _ h => h⟩
  -- 26: s58 := move t57
  apply rgc_ev
  · intro a w hR hC hf
    obtain ⟨e57, -⟩ := hf
    replace e57 : a.tmps.getD 57 undef = _ := e57
    refine rg_plain rfl fun K hK => ?_
    go_simp
    exact hK _ _ rfl ⟨hRr _, fun _ h => h⟩
  -- 27: s59 := move t10 [if 26=true]
  apply rgc_ev
  · intro a w hR hC hf
    obtain ⟨e58, e10, -⟩ := hf
    replace e58 : a.tmps.getD 58 undef = _ := e58
    replace e10 : a.tmps.getD 10 undef = _ := e10
    refine rg_want rfl rfl e58 fun K hK => ?_
    clear e58
    go_simp
    exact hK _ _ rfl ⟨hRr _, fun _ h => h⟩
  -- 28: s60 := binOp Bineql 28 t59 (const Value.nilIface) 28 [if 26=true]
  apply rgc_ev
  · intro a w hR hC hf
    obtain ⟨e58, e59, -⟩ := hf
    replace e58 : a.tmps.getD 58 undef = _ := e58
    replace e59 : a.tmps.getD 59 undef = _ := e59
    refine rg_want rfl rfl e58 fun K hK => ?_
    clear e58
    go_simp
    exact hK _ _ rfl ⟨hRr _, fun _ h => h⟩
  -- 29: s61 := pick t58 t60 (const (Value.bool false))
  apply rgc_ev
  · intro a w hR hC hf
    obtain ⟨e58, e60, -⟩ := hf
    replace e58 : a.tmps.getD 58 undef = _ := e58
    replace e60 : a.tmps.getD 60 undef = _ := e60
    refine rg_plain rfl fun K hK => ?_
    go_simp
    exact hK _ _ rfl ⟨hRr _, fun _ h => h⟩
  -- 30: s62 := move t61
  apply rgc_ev
  · intro a w hR hC hf
    obtain ⟨e61, -⟩ := hf
    replace e61 : a.tmps.getD 61 undef = _ := e61
    refine rg_plain rfl fun K hK => ?_
    go_simp
    exact hK _ _ rfl ⟨hRr _, fun _ h => h⟩
  -- 31: s63 := move t9 [if 30=true]
  apply rgc_ev
  · intro a w hR hC hf
    obtain ⟨e62, e9, -⟩ := hf
    replace e62 : a.tmps.getD 62 undef = _ := e62
    replace e9 : a.tmps.getD 9 undef = _ := e9
    refine rg_want rfl rfl e62 fun K hK => ?_
    clear e62
    go_simp
    exact hK _ _ rfl ⟨hRr _, fun _ h => h⟩
  -- 32: s64 := convert 26 9 t63 [if 30=true]
  apply rgc_ev
  · intro a w hR hC hf
    obtain ⟨e62, e63, -⟩ := hf
    replace e62 : a.tmps.getD 62 undef = _ := e62
    replace e63 : a.tmps.getD 63 undef = _ := e63
    refine rg_want rfl rfl e62 fun K hK => ?_
    clear e62
    have hc := conv_bytes (P := Tryd.prog) (c := d9) w Tryd.underlying26 Tryd.underlying5 Tryd.underlying9 (f9 w hR) Hn.out n9
    go_simp
    exact hK _ _ rfl ⟨hRr _, fun _ h => h⟩
  -- 33: s65 := move t0 [if 30=true]
  apply rgc_ev
  · intro a w hR hC hf
    obtain ⟨e62, e0, -⟩ := hf
    replace e62 : a.tmps.getD 62 undef = _ := e62
    replace e0 : a.tmps.getD 0 undef = _ := e0
    refine rg_want rfl rfl e62 fun K hK => ?_
    clear e62
    go_simp
    exact hK _ _ rfl ⟨hRr _, fun _ h => h⟩
  -- 34: s66 := convert 26 9 t65 [if 30=true]
  apply rgc_ev
  · intro a w hR hC hf
    obtain ⟨e62, e65, -⟩ := hf
    replace e62 : a.tmps.getD 62 undef = _ := e62
    replace e65 : a.tmps.getD 65 undef = _ := e65
    refine rg_want rfl rfl e62 fun K hK => ?_
    clear e62
    have hc := conv_bytes (P := Tryd.prog) (c := c) w Tryd.underlying26 Tryd.underlying5 Tryd.underlying9 (hx.only0 (hent w hR)) Hn.out Hp.out
    go_simp
    exact hK _ _ rfl ⟨hRr _, fun _ h => h⟩
  -- 35: s67 := binOp Bineql 9 t64 t66 9 [if 30=true]
  apply rgc_ev
  · intro a w hR hC hf
    obtain ⟨e62, e64, e66, -⟩ := hf
    replace e62 : a.tmps.getD 62 undef = _ := e62
    replace e64 : a.tmps.getD 64 undef = _ := e64
    replace e66 : a.tmps.getD 66 undef = _ := e66
    refine rg_want rfl rfl e62 fun K hK => ?_
    clear e62
    go_simp
    exact hK _ _ rfl ⟨hRr _, fun _ h => h⟩
  -- 36: s68 := pick t62 t67 (const (Value.bool false))
  apply rgc_ev
  · intro a w hR hC hf
    obtain ⟨e62, e67, -⟩ := hf
    replace e62 : a.tmps.getD 62 undef = _ := e62
    replace e67 : a.tmps.getD 67 undef = _ := e67
    refine rg_plain rfl fun K hK => ?_
    go_simp
    exact hK _ _ rfl ⟨hRr _, fun _ h => h⟩
  -- 37: s69 := move t68
  apply rgc_ev
  · intro a w hR hC hf
    obtain ⟨e68, -⟩ := hf
    replace e68 : a.tmps.getD 68 undef = _ := e68
    refine rg_plain rfl fun K hK => ?_
    go_simp
    exact hK _ _ rfl ⟨hRr _, fun _ h => h⟩
  -- 38: s70 := move t4 [if 37=true]
  apply rgc_ev
  · intro a w hR hC hf
    obtain ⟨e69, e4, -⟩ := hf
    replace e69 : a.tmps.getD 69 undef = _ := e69
    replace e4 : a.tmps.getD 4 undef = _ := e4
    refine rg_want rfl rfl e69 fun K hK => ?_
    clear e69
    go_simp
    exact hK _ _ rfl ⟨hRr _, fun _ h => h⟩
  -- 39: s71 := move t5 [if 37=true]
  apply rgc_ev
  · intro a w hR hC hf
    obtain ⟨e69, e5, -⟩ := hf
    replace e69 : a.tmps.getD 69 undef = _ := e69
    replace e5 : a.tmps.getD 5 undef = _ := e5
    refine rg_want rfl rfl e69 fun K hK => ?_
    clear e69
    go_simp
    exact hK _ _ rfl ⟨hRr _, fun _ h => h⟩
  -- 40: s72 := call { value (Operand.func 37), args := #[t70, t71], #[26, 26] } [if 37=true]
  apply rgc_ev
  · intro a w hR hC hf
    obtain ⟨e69, e70, e71, -⟩ := hf
    replace e69 : a.tmps.getD 69 undef = _ := e69
    replace e70 : a.tmps.getD 70 undef = _ := e70
    replace e71 : a.tmps.getD 71 undef = _ := e71
    refine rg_want rfl rfl e69 fun K hK => ?_
    clear e69
    go_simp
    obtain ⟨zs, hzs, oz⟩ := (hRi _ _ hR).2.1 (sealB xs) (by rw [sealB_length, Hn.out]) os6
    obtain ⟨ys, hys, oy⟩ := (hRi _ _ hR).2.2 (openBy xs) Hko.out oo6
    have ov := oz.view
    (with_reducible refine (apart_own (some ⟨gs, 0, none⟩) qo zs ys (n + 4) cs ko d5 w3.heap.size w hzs (by simp) ov.1 (fun a ha hm => by obtain rfl := Option.some.inj ha; have := bo _ hm; simp only at this; omega) oy hys (by omega) (by have := (hRi _ _ hR).1.size; omega)).mono ?_)
    rintro e w' ⟨rfl, h, ts, hts, ot⟩
    exact hK _ _ rfl ⟨hRm _ _ (h.mono (fun k hk => by rw [← hD]; exact List.mem_cons_of_mem _ hk)) (fun z hz oz' => ⟨z, hz, oz'.only h (by intro k hk hm; simp [Value.ownBlock] at hk; subst hk; have := bo _ hm; omega)⟩) (fun _ _ _ => ⟨ts, hts, ot⟩), fun h => Bool.noConfusion (h.symm.trans (by kernel_rfl : _ = true))⟩
  -- 41: s73 := pick t69 t72 (const (Value.bool false))
  apply rgc_ev
  · intro a w hR hC hf
    obtain ⟨e69, e72, -⟩ := hf
    replace e69 : a.tmps.getD 69 undef = _ := e69
    replace e72 : a.tmps.getD 72 undef = _ := e72
    refine rg_plain rfl fun K hK => ?_
    go_simp
    exact hK _ _ rfl ⟨hRr _, fun _ h => h⟩
  -- 42: s74 := move t73
  apply rgc_ev
  · intro a w hR hC hf
    obtain ⟨e73, -⟩ := hf
    replace e73 : a.tmps.getD 73 undef = _ := e73
    refine rg_plain rfl fun K hK => ?_
    go_simp
    exact hK _ _ rfl ⟨hRr _, fun _ h => h⟩
  -- 43: s75 := move t9 [if 42=true]
  apply rgc_ev
  · intro a w hR hC hf
    obtain ⟨e74, e9, -⟩ := hf
    replace e74 : a.tmps.getD 74 undef = _ := e74
    replace e9 : a.tmps.getD 9 undef = _ := e9
    refine rg_want rfl rfl e74 fun K hK => ?_
    clear e74
    go_simp
    exact hK _ _ rfl ⟨hRr _, fun _ h => h⟩
  -- 44: s76 := move t4 [if 42=true]
  apply rgc_ev
  · intro a w hR hC hf
    obtain ⟨e74, e4, -⟩ := hf
    replace e74 : a.tmps.getD 74 undef = _ := e74
    replace e4 : a.tmps.getD 4 undef = _ := e4
    refine rg_want rfl rfl e74 fun K hK => ?_
    clear e74
    go_simp
    exact hK _ _ rfl ⟨hRr _, fun _ h => h⟩
  -- 45: s77 := call { value (Operand.func 37), args := #[t75, t76], #[26, 26] } [if 42=true]
  apply rgc_ev
  · intro a w hR hC hf
    obtain ⟨e74, e75, e76, -⟩ := hf
    replace e74 : a.tmps.getD 74 undef = _ := e74
    replace e75 : a.tmps.getD 75 undef = _ := e75
    replace e76 : a.tmps.getD 76 undef = _ := e76
    refine rg_want rfl rfl e74 fun K hK => ?_
    clear e74
    go_simp
    obtain ⟨zs, hzs, oz⟩ := (hRi _ _ hR).2.1 (sealB xs) (by rw [sealB_length, Hn.out]) os6
    (with_reducible refine (apart_own q9 (some ⟨gs, 0, none⟩) xs zs n d9 (n + 4) cs w2.heap.size w Hn.out n9 (f9 w hR) (fun a ha hm => by have h2 := b9 a.block (by rw [ha]; simp [blk]); simp [blk] at hm; omega) oz hzs (by omega) (by have := (hRi _ _ hR).1.size; omega)).mono ?_)
    rintro e w' ⟨rfl, h, ts, hts, ot⟩
    exact hK _ _ rfl ⟨hRm _ _ (h.mono (fun k hk => by rw [← hD]; simp [blk] at hk; simp [hk])) (fun _ _ _ => ⟨ts, hts, ot⟩) (fun z hz oz' => ⟨z, hz, oz'.only h (by intro k hk hm; simp [blk] at hm; have := bo k (by cases qo with | none => simp [Value.ownBlock] at hk | some a => simp [Value.ownBlock] at hk; simp [blk, hk]); omega)⟩), fun h => Bool.noConfusion (h.symm.trans (by kernel_rfl : _ = true))⟩
  -- 46: s78 := pick t74 t77 (const (Value.bool false))
  apply rgc_ev
  · intro a w hR hC hf
    obtain ⟨e74, e77, -⟩ := hf
    replace e74 : a.tmps.getD 74 undef = _ := e74
    replace e77 : a.tmps.getD 77 undef = _ := e77
    refine rg_plain rfl fun K hK => ?_
    go_simp
    exact hK _ _ rfl ⟨hRr _, fun _ h => h⟩
  -- 47: s79 := move t78
  apply rgc_ev
  · intro a w hR hC hf
    obtain ⟨e78, -⟩ := hf
    replace e78 : a.tmps.getD 78 undef = _ := e78
    refine rg_plain rfl fun K hK => ?_
    go_simp
    exact hK _ _ rfl ⟨hRr _, fun _ h => h⟩
  -- 48: s80 := move t3 [if 47=true]
  apply rgc_ev
  · intro a w hR hC hf
    obtain ⟨e79, e3, -⟩ := hf
    replace e79 : a.tmps.getD 79 undef = _ := e79
    replace e3 : a.tmps.getD 3 undef = _ := e3
    refine rg_want rfl rfl e79 fun K hK => ?_
    clear e79
    go_simp
    exact hK _ _ rfl ⟨hRr _, fun _ h => h⟩
  -- 49: s81 := move t0 [if 47=true]
  apply rgc_ev
  · intro a w hR hC hf
    obtain ⟨e79, e0, -⟩ := hf
    replace e79 : a.tmps.getD 79 undef = _ := e79
    replace e0 : a.tmps.getD 0 undef = _ := e0
    refine rg_want rfl rfl e79 fun K hK => ?_
    clear e79
    go_simp
    exact hK _ _ rfl ⟨hRr _, fun _ h => h⟩
  -- 50: s82 := call { value (Operand.func 20), args := #[t80, t81], #[26, 26] } [if 47=true]
  apply rgc_ev
  · intro a w hR hC hf
    obtain ⟨e79, e80, e81, -⟩ := hf
    replace e79 : a.tmps.getD 79 undef = _ := e79
    replace e80 : a.tmps.getD 80 undef = _ := e80
    replace e81 : a.tmps.getD 81 undef = _ := e81
    refine rg_want rfl rfl e79 fun K hK => ?_
    clear e79
    go_simp
    (with_reducible refine (kept_any gi p xs n c n w Hn.out hb Hp.out (by omega) (fri w hR) (hx.only0 (hent w hR))).mono ?_)
    rintro e w' ⟨rfl, h⟩
    exact hK _ _ rfl ⟨hR0 _ _ h.only, fun _ hc => hCm _ ((hCi _ hc).trans0 h.only)⟩
  -- 51: s83 := pick t79 t82 (const (Value.bool false))
  apply rgc_ev
  · intro a w hR hC hf
    obtain ⟨e79, e82, -⟩ := hf
    replace e79 : a.tmps.getD 79 undef = _ := e79
    replace e82 : a.tmps.getD 82 undef = _ := e82
    refine rg_plain rfl fun K hK => ?_
    go_simp
    exact hK _ _ rfl ⟨hRr _, fun _ h => h⟩
  -- 52: s2 := assign t83
  apply rgc_ev
  · intro a w hR hC hf
    obtain ⟨e83, -⟩ := hf
    replace e83 : a.tmps.getD 83 undef = _ := e83
    refine rg_plain rfl fun K hK => ?_
    go_simp
    exact hK _ _ rfl ⟨hRr _, fun _ h => h⟩
  intro f8 w8 hR8 hf
  dsimp only [mergeT]
  obtain ⟨e2, -⟩ := hf
  replace e2 : f8 2 = _ := e2
  rw [e2]
  -- r8>>
  go_wp2_with fail
  go_ret
  exact ⟨rfl, hent _ hR8⟩
end Go.Proofs.YtkhccchjflmcmaaDoor
