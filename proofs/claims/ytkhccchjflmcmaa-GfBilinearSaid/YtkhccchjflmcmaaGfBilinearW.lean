/- The walk of bollardlaw01.GfBilinear. -/
import Derived.Test.YtkhccchjflmcmaaGfAt
set_option linter.unusedVariables false
namespace Go.Proofs.Ytkhccchjflmcmaa
open Go.RowKit

set_option maxHeartbeats 2000000 in
theorem gfBilinear_walk (p q r : Option Addr) (xs ys ds : List UInt8) (n m k cp cq cr L : Nat) (c : UInt8) (w : World)
    (hn : xs.length = n) (hm : ys.length = m) (hk : ds.length = k) (bn : n ≤ cp) (bm : m ≤ cq) (bk : k ≤ cr) (bcp : cp ≤ 140737488351232) (bcq : cq ≤ 140737488351232) (bcr : cr ≤ 140737488351232)
    (hp : p = none → cp = 0) (hq : q = none → cq = 0) (hr : r = none → cr = 0)
    (hx : Rd w p (u8s xs)) (hy : Rd w q (u8s ys)) (hd : Rd w r (u8s ds)) (hL : min (min n m) k = L) :
    Calls Try.prog 6 #[.agg #[.slice p n cp, .slice q m cq, .slice r k cr, .int .u8 (c.toNat : Int)]] w fun e w' => e = .returned (.bool true) ∧ Only [] w w' := by
  obtain ⟨L1, hL1⟩ : ∃ L1, min n m = L1 := ⟨_, rfl⟩
  have hmin1 : (if m < n then (m : Int) else (n : Int)) = (L1 : Int) := by rw [← hL1]; split <;> omega
  have hmin2 : (if k < L1 then (k : Int) else (L1 : Int)) = (L : Int) := by rw [← hL, hL1]; split <;> omega
  have b1 : L ≤ n := by omega
  have b2 : L ≤ m := by omega
  have b3 : L ≤ k := by omega
  obtain ⟨A, hA⟩ : ∃ A, xs.take L = A := ⟨_, rfl⟩
  obtain ⟨B, hB⟩ : ∃ B, ys.take L = B := ⟨_, rfl⟩
  obtain ⟨D, hD⟩ : ∃ D, ds.take L = D := ⟨_, rfl⟩
  have lA : A.length = L := by rw [← hA, List.length_take]; omega
  have lB : B.length = L := by rw [← hB, List.length_take]; omega
  have lD : D.length = L := by rw [← hD, List.length_take]; omega
  have rA : Rd w p (u8s A) := by rw [← hA, ← u8s_take]; exact hx.take L
  have rB : Rd w q (u8s B) := by rw [← hB, ← u8s_take]; exact hy.take L
  have rD : Rd w r (u8s D) := by rw [← hD, ← u8s_take]; exact hd.take L
  have LA := Lib.hid lA
  have LB := Lib.hid lB
  have LD := Lib.hid lD
  clear hA hB hD lA lB lD hx hy hd hL hL1 hn hm hk
  go_enter Try.func6, Try.ntmps6
  go_wp2_with fail
  (with_reducible refine (gfAlive_any _).mono ?_)
  rintro e w1 ⟨rfl, o1⟩
  have row := (Row.new w 35 [.slice p n cp, .slice q m cq, .slice r k cr, .int .u8 (c.toNat : Int)]).only0 o1
  have c0 := row.cell (i := 0) rfl
  have c1 := row.cell (i := 1) rfl
  have c2 := row.cell (i := 2) rfl
  have c3 := row.cell (i := 3) rfl
  have o2 : Only [] w w1 := (Only.alloc _ _).trans0 o1
  clear row o1
  replace rA := rA.only0 o2
  replace rB := rB.only0 o2
  replace rD := rD.only0 o2
  go_wp2_with fail
  have e1 : (L : Int) ≤ cp := by omega
  have e2 : (L : Int) ≤ cq := by omega
  have e3 : (L : Int) ≤ cr := by omega
  go_quiet (fail)
  go_wp2_with fail
  (with_reducible refine (addScaled_at (zs := eachS (fun a b => gadd a (gmul c b)) A D) (L := L) LA.out LD.out (by omega) (by omega) (rA.only0 (Only.drewN _ _)) (rD.only0 (Only.drewN _ _)) rfl (by rw [eachS_length, LA.out, LD.out, Nat.max_self])).mono ?_)
  rintro e w2 ⟨v1, rfl, s1, o3⟩
  obtain ⟨p1, rfl, r1, l1, n1⟩ := s1.rd
  have o4 : Only [] w w2 := (o2.trans0 (Only.drewN _ _)).trans0 o3
  have o5 : Only [] w1 w2 := (Only.drewN _ _).trans0 o3
  replace rA := rA.only0 o5
  replace rB := rB.only0 o5
  replace rD := rD.only0 o5
  have l1' := Lib.hid l1
  clear c0 c1 c2 c3 s1 o2 o3 o5 l1 hmin1 hmin2
  go_wp2_with fail
  (with_reducible refine (dot_at (z := gdot (eachS (fun a b => gadd a (gmul c b)) A D) B) l1'.out LB.out (by omega) (by omega) r1 rB rfl).mono ?_)
  rintro e w3 ⟨rfl, h3⟩
  have o5 := o4.trans0 h3.only
  replace rA := rA.only0 h3.only
  replace rB := rB.only0 h3.only
  replace rD := rD.only0 h3.only
  clear r1 h3 o4 l1'
  go_wp2_with fail
  (with_reducible refine (dot_at (z := gdot A B) LA.out LB.out (by omega) (by omega) rA rB rfl).mono ?_)
  rintro e w4 ⟨rfl, h4⟩
  have o6 := o5.trans0 h4.only
  replace rA := rA.only0 h4.only
  replace rB := rB.only0 h4.only
  replace rD := rD.only0 h4.only
  clear h4 o5
  go_wp2_with fail
  (with_reducible refine (dot_at (z := gdot D B) LD.out LB.out (by omega) (by omega) rD rB rfl).mono ?_)
  rintro e w5 ⟨rfl, h5⟩
  have o7 := o6.trans0 h5.only
  replace rA := rA.only0 h5.only
  replace rB := rB.only0 h5.only
  clear h5 o6 rD
  go_wp2_with fail
  (with_reducible refine (mul_any c _ _).mono ?_)
  rintro e w' ⟨rfl, rfl⟩
  go_wp2_with fail
  (with_reducible refine (add_at (gdot A B) (gmul c (gdot D B)) rfl rfl (cst (gdot_lin c LA.out LD.out LB.out)) _).mono ?_)
  rintro e w' ⟨rfl, rfl⟩
  go_wp2_with fail
  have hpL : p = none → L = 0 ∧ L = 0 := fun h => by have := hp h; omega
  clear hp hq hr
  -- <<r7
  refine wp_region_rg2 (Only []) [[(8, none)], [(9, none)], [(54, some 1), (55, some 0)], [(56, some 0)], [(57, some 0), (4, none)], [(57, some 1), (5, none)], [(57, some 2), (58, some 1), (59, some 0)], [(57, some 3), (5, none)], [(57, some 4), (4, none)], [(57, some 5), (61, some 1), (62, some 0)], [(57, some 6), (60, some 3), (63, some 0)], [(57, some 7), (64, some 0)], [(65, some 0)], [(66, some 0), (4, none)], [(66, some 1), (7, none)], [(66, some 2), (5, none)], [(66, some 3), (67, some 2), (68, some 1), (69, some 0)], [(66, some 4), (7, none)], [(66, some 5), (5, none)], [(66, some 6), (70, some 2), (71, some 1), (72, some 0)], [(66, some 7), (73, some 0)], [(66, some 8), (4, none)], [(66, some 9), (75, some 0)], [(66, some 10), (74, some 2), (76, some 0)], [(66, some 11), (77, some 0)], [(78, some 0)], [(79, some 0), (4, none)], [(79, some 1), (5, none)], [(79, some 2), (80, some 1), (81, some 0)], [(79, some 3), (5, none)], [(79, some 4), (82, some 1), (83, some 0)], [(79, some 5), (84, some 0)], [(79, some 6), (4, none)], [(79, some 7), (86, some 0)], [(79, some 8), (85, some 2), (87, some 0)], [(79, some 9), (88, some 0)], [(89, some 0)]] [(2, 0)] [none, none, some 2, none, none, none, none, none, none, none, none, none, none, none, none, none, none, none, none, none, none, none, none, none, none, none, none, none, none, none, none, none, none, none, none, none, none, none, none, none, none, none, none, none, none, none, none, none, none, none, none, none, none, none, some 54, some 55, some 56, some 57, some 58, some 59, some 60, some 61, some 62, some 63, some 64, some 65, some 66, some 67, some 68, some 69, some 70, some 71, some 72, some 73, some 74, some 75, some 76, some 77, some 78, some 79, some 80, some 81, some 82, some 83, some 84, some 85, some 86, some 87, some 88, some 89] (by kernel_rfl) rfl (by kernel_rfl) (fun _ => Only.refl _ _) (fun _ _ _ h k => h.trans0 k) (Only.drew _) (by kernel_rfl) ?_
  -- 0: s54 := move t8
  apply rg_ev
  · intro a w hR hf
    obtain ⟨e8, -⟩ := hf
    replace e8 : a.tmps.getD 8 undef = _ := e8
    refine rg_plain rfl fun K hK => ?_
    go_simp
    exact hK _ _ rfl (Only.refl _ _)
  -- 1: s55 := move t9
  apply rg_ev
  · intro a w hR hf
    obtain ⟨e9, -⟩ := hf
    replace e9 : a.tmps.getD 9 undef = _ := e9
    refine rg_plain rfl fun K hK => ?_
    go_simp
    exact hK _ _ rfl (Only.refl _ _)
  -- 2: s56 := binOp Bineql 5 t54 t55 5
  apply rg_ev
  · intro a w hR hf
    obtain ⟨e54, e55, -⟩ := hf
    replace e54 : a.tmps.getD 54 undef = _ := e54
    replace e55 : a.tmps.getD 55 undef = _ := e55
    refine rg_plain rfl fun K hK => ?_
    go_simp
    exact hK _ _ rfl (Only.refl _ _)
  -- 3: s57 := move t56
  apply rg_ev
  · intro a w hR hf
    obtain ⟨e56, -⟩ := hf
    replace e56 : a.tmps.getD 56 undef = _ := e56
    refine rg_plain rfl fun K hK => ?_
    go_simp
    exact hK _ _ rfl (Only.refl _ _)
  -- 4: s58 := move t4 [if 3=true]
  apply rg_ev
  · intro a w hR hf
    obtain ⟨e57, e4, -⟩ := hf
    replace e57 : a.tmps.getD 57 undef = _ := e57
    replace e4 : a.tmps.getD 4 undef = _ := e4
    refine rg_want rfl rfl e57 fun K hK => ?_
    clear e57
    go_simp
    exact hK _ _ rfl (Only.refl _ _)
  -- 5: s59 := move t5 [if 3=true]
  apply rg_ev
  · intro a w hR hf
    obtain ⟨e57, e5, -⟩ := hf
    replace e57 : a.tmps.getD 57 undef = _ := e57
    replace e5 : a.tmps.getD 5 undef = _ := e5
    refine rg_want rfl rfl e57 fun K hK => ?_
    clear e57
    go_simp
    exact hK _ _ rfl (Only.refl _ _)
  -- 6: s60 := call { value (Operand.func 17), args := #[t58, t59], #[33, 33] } [if 3=true]
  apply rg_ev
  · intro a w hR hf
    obtain ⟨e57, e58, e59, -⟩ := hf
    replace e57 : a.tmps.getD 57 undef = _ := e57
    replace e58 : a.tmps.getD 58 undef = _ := e58
    replace e59 : a.tmps.getD 59 undef = _ := e59
    refine rg_want rfl rfl e57 fun K hK => ?_
    clear e57
    go_simp
    (with_reducible refine (dot_at (z := gdot A B) LA.out LB.out (by omega) (by omega) (rA.only0 hR) (rB.only0 hR) rfl).mono ?_)
    rintro e w' ⟨rfl, h⟩
    exact hK _ _ rfl h.only
  -- 7: s61 := move t5 [if 3=true]
  apply rg_ev
  · intro a w hR hf
    obtain ⟨e57, e5, -⟩ := hf
    replace e57 : a.tmps.getD 57 undef = _ := e57
    replace e5 : a.tmps.getD 5 undef = _ := e5
    refine rg_want rfl rfl e57 fun K hK => ?_
    clear e57
    go_simp
    exact hK _ _ rfl (Only.refl _ _)
  -- 8: s62 := move t4 [if 3=true]
  apply rg_ev
  · intro a w hR hf
    obtain ⟨e57, e4, -⟩ := hf
    replace e57 : a.tmps.getD 57 undef = _ := e57
    replace e4 : a.tmps.getD 4 undef = _ := e4
    refine rg_want rfl rfl e57 fun K hK => ?_
    clear e57
    go_simp
    exact hK _ _ rfl (Only.refl _ _)
  -- 9: s63 := call { value (Operand.func 17), args := #[t61, t62], #[33, 33] } [if 3=true]
  apply rg_ev
  · intro a w hR hf
    obtain ⟨e57, e61, e62, -⟩ := hf
    replace e57 : a.tmps.getD 57 undef = _ := e57
    replace e61 : a.tmps.getD 61 undef = _ := e61
    replace e62 : a.tmps.getD 62 undef = _ := e62
    refine rg_want rfl rfl e57 fun K hK => ?_
    clear e57
    go_simp
    (with_reducible refine (dot_at (z := gdot A B) LB.out LA.out (by omega) (by omega) (rB.only0 hR) (rA.only0 hR) (gdot_comm A B)).mono ?_)
    rintro e w' ⟨rfl, h⟩
    exact hK _ _ rfl h.only
  -- 10: s64 := binOp Bineql 5 t60 t63 5 [if 3=true]
  apply rg_ev
  · intro a w hR hf
    obtain ⟨e57, e60, e63, -⟩ := hf
    replace e57 : a.tmps.getD 57 undef = _ := e57
    replace e60 : a.tmps.getD 60 undef = _ := e60
    replace e63 : a.tmps.getD 63 undef = _ := e63
    refine rg_want rfl rfl e57 fun K hK => ?_
    clear e57
    go_simp
    exact hK _ _ rfl (Only.refl _ _)
  -- 11: s65 := pick t57 t64 (const (Value.bool false))
  apply rg_ev
  · intro a w hR hf
    obtain ⟨e57, e64, -⟩ := hf
    replace e57 : a.tmps.getD 57 undef = _ := e57
    replace e64 : a.tmps.getD 64 undef = _ := e64
    refine rg_plain rfl fun K hK => ?_
    go_simp
    exact hK _ _ rfl (Only.refl _ _)
  -- 12: s66 := move t65
  apply rg_ev
  · intro a w hR hf
    obtain ⟨e65, -⟩ := hf
    replace e65 : a.tmps.getD 65 undef = _ := e65
    refine rg_plain rfl fun K hK => ?_
    go_simp
    exact hK _ _ rfl (Only.refl _ _)
  -- 13: s67 := move t4 [if 12=true]
  apply rg_ev
  · intro a w hR hf
    obtain ⟨e66, e4, -⟩ := hf
    replace e66 : a.tmps.getD 66 undef = _ := e66
    replace e4 : a.tmps.getD 4 undef = _ := e4
    refine rg_want rfl rfl e66 fun K hK => ?_
    clear e66
    go_simp
    exact hK _ _ rfl (Only.refl _ _)
  -- 14: s68 := move t7 [if 12=true]
  apply rg_ev
  · intro a w hR hf
    obtain ⟨e66, e7, -⟩ := hf
    replace e66 : a.tmps.getD 66 undef = _ := e66
    replace e7 : a.tmps.getD 7 undef = _ := e7
    refine rg_want rfl rfl e66 fun K hK => ?_
    clear e66
    go_simp
    exact hK _ _ rfl (Only.refl _ _)
  -- 15: s69 := move t5 [if 12=true]
  apply rg_ev
  · intro a w hR hf
    obtain ⟨e66, e5, -⟩ := hf
    replace e66 : a.tmps.getD 66 undef = _ := e66
    replace e5 : a.tmps.getD 5 undef = _ := e5
    refine rg_want rfl rfl e66 fun K hK => ?_
    clear e66
    go_simp
    exact hK _ _ rfl (Only.refl _ _)
  -- 16: s70 := call { value (Operand.func 18), args := #[t67, t68, t69], #[33, 5, 33] } [if 12=true]
  refine ⟨IsNew (eachS (fun a b => gadd a (gmul c b)) A B) L, IsNew.stable _ _, fun a w hR hf => ?_, ?_⟩
  · obtain ⟨e66, e67, e68, e69, -⟩ := hf
    replace e66 : a.tmps.getD 66 undef = _ := e66
    replace e67 : a.tmps.getD 67 undef = _ := e67
    replace e68 : a.tmps.getD 68 undef = _ := e68
    replace e69 : a.tmps.getD 69 undef = _ := e69
    refine rg_want rfl rfl e66 fun K hK => ?_
    clear e66
    go_simp
    (with_reducible refine (addScaled_at (zs := eachS (fun a b => gadd a (gmul c b)) A B) (L := L) LA.out LB.out (by omega) (by omega) (rA.only0 hR) (rB.only0 hR) rfl (by rw [eachS_length, LA.out, LB.out, Nat.max_self])).mono ?_)
    rintro e w' ⟨v, rfl, h, o⟩
    exact hK _ _ h o
  -- 17: s71 := move t7 [if 12=true]
  apply rg_ev
  · intro a w hR hf
    obtain ⟨e66, e7, -⟩ := hf
    replace e66 : a.tmps.getD 66 undef = _ := e66
    replace e7 : a.tmps.getD 7 undef = _ := e7
    refine rg_want rfl rfl e66 fun K hK => ?_
    clear e66
    go_simp
    exact hK _ _ rfl (Only.refl _ _)
  -- 18: s72 := move t5 [if 12=true]
  apply rg_ev
  · intro a w hR hf
    obtain ⟨e66, e5, -⟩ := hf
    replace e66 : a.tmps.getD 66 undef = _ := e66
    replace e5 : a.tmps.getD 5 undef = _ := e5
    refine rg_want rfl rfl e66 fun K hK => ?_
    clear e66
    go_simp
    exact hK _ _ rfl (Only.refl _ _)
  -- 19: s73 := call { value (Operand.func 18), args := #[t70, t71, t72], #[33, 5, 33] } [if 12=true]
  refine ⟨IsNew A L, IsNew.stable _ _, fun a w hR hf => ?_, ?_⟩
  · obtain ⟨e66, e70, e71, e72, -⟩ := hf
    replace e66 : a.tmps.getD 66 undef = _ := e66
    replace e70 : IsNew (eachS (fun a b => gadd a (gmul c b)) A B) L (a.tmps.getD 70 undef) w := e70
    replace e71 : a.tmps.getD 71 undef = _ := e71
    replace e72 : a.tmps.getD 72 undef = _ := e72
    refine rg_want rfl rfl e66 fun K hK => ?_
    clear e66
    obtain ⟨p70, e70, r70, l70, -⟩ := e70.rd
    have l70 := Lib.hid l70
    go_simp
    (with_reducible refine (addScaled_at (zs := A) (L := L) l70.out LB.out (by omega) (by omega) r70 (rB.only0 hR) (twice_scaled c LA.out LB.out) LA.out).mono ?_)
    rintro e w' ⟨v, rfl, h, o⟩
    exact hK _ _ h o
  -- 20: s74 := convert 33 9 t73 [if 12=true]
  apply rg_ev
  · intro a w hR hf
    obtain ⟨e66, e73, -⟩ := hf
    replace e66 : a.tmps.getD 66 undef = _ := e66
    replace e73 : IsNew A L (a.tmps.getD 73 undef) w := e73
    refine rg_want rfl rfl e66 fun K hK => ?_
    clear e66
    obtain ⟨p73, e73, r73, l73, n73⟩ := e73.rd
    have hc := conv_bytes (P := Try.prog) w Try.underlying33 Try.underlying5 Try.underlying9 r73 l73 n73
    clear l73 n73
    go_simp
    exact hK _ _ rfl (Only.refl _ _)
  -- 21: s75 := move t4 [if 12=true]
  apply rg_ev
  · intro a w hR hf
    obtain ⟨e66, e4, -⟩ := hf
    replace e66 : a.tmps.getD 66 undef = _ := e66
    replace e4 : a.tmps.getD 4 undef = _ := e4
    refine rg_want rfl rfl e66 fun K hK => ?_
    clear e66
    go_simp
    exact hK _ _ rfl (Only.refl _ _)
  -- 22: s76 := convert 33 9 t75 [if 12=true]
  apply rg_ev
  · intro a w hR hf
    obtain ⟨e66, e75, -⟩ := hf
    replace e66 : a.tmps.getD 66 undef = _ := e66
    replace e75 : a.tmps.getD 75 undef = _ := e75
    refine rg_want rfl rfl e66 fun K hK => ?_
    clear e66
    have hc := conv_bytes (P := Try.prog) w Try.underlying33 Try.underlying5 Try.underlying9 (rA.only0 hR) LA.out hpL
    go_simp
    exact hK _ _ rfl (Only.refl _ _)
  -- 23: s77 := binOp Bineql 9 t74 t76 9 [if 12=true]
  apply rg_ev
  · intro a w hR hf
    obtain ⟨e66, e74, e76, -⟩ := hf
    replace e66 : a.tmps.getD 66 undef = _ := e66
    replace e74 : a.tmps.getD 74 undef = _ := e74
    replace e76 : a.tmps.getD 76 undef = _ := e76
    refine rg_want rfl rfl e66 fun K hK => ?_
    clear e66
    go_simp
    exact hK _ _ rfl (Only.refl _ _)
  -- 24: s78 := pick t66 t77 (const (Value.bool false))
  apply rg_ev
  · intro a w hR hf
    obtain ⟨e66, e77, -⟩ := hf
    replace e66 : a.tmps.getD 66 undef = _ := e66
    replace e77 : a.tmps.getD 77 undef = _ := e77
    refine rg_plain rfl fun K hK => ?_
    go_simp
    exact hK _ _ rfl (Only.refl _ _)
  -- 25: s79 := move t78
  apply rg_ev
  · intro a w hR hf
    obtain ⟨e78, -⟩ := hf
    replace e78 : a.tmps.getD 78 undef = _ := e78
    refine rg_plain rfl fun K hK => ?_
    go_simp
    exact hK _ _ rfl (Only.refl _ _)
  -- 26: s80 := move t4 [if 25=true]
  apply rg_ev
  · intro a w hR hf
    obtain ⟨e79, e4, -⟩ := hf
    replace e79 : a.tmps.getD 79 undef = _ := e79
    replace e4 : a.tmps.getD 4 undef = _ := e4
    refine rg_want rfl rfl e79 fun K hK => ?_
    clear e79
    go_simp
    exact hK _ _ rfl (Only.refl _ _)
  -- 27: s81 := move t5 [if 25=true]
  apply rg_ev
  · intro a w hR hf
    obtain ⟨e79, e5, -⟩ := hf
    replace e79 : a.tmps.getD 79 undef = _ := e79
    replace e5 : a.tmps.getD 5 undef = _ := e5
    refine rg_want rfl rfl e79 fun K hK => ?_
    clear e79
    go_simp
    exact hK _ _ rfl (Only.refl _ _)
  -- 28: s82 := call { value (Operand.func 19), args := #[t80, t81], #[33, 33] } [if 25=true]
  refine ⟨IsNew (eachS gadd A B) L, IsNew.stable _ _, fun a w hR hf => ?_, ?_⟩
  · obtain ⟨e79, e80, e81, -⟩ := hf
    replace e79 : a.tmps.getD 79 undef = _ := e79
    replace e80 : a.tmps.getD 80 undef = _ := e80
    replace e81 : a.tmps.getD 81 undef = _ := e81
    refine rg_want rfl rfl e79 fun K hK => ?_
    clear e79
    go_simp
    (with_reducible refine (sum_at (zs := eachS gadd A B) (L := L) LA.out LB.out (by omega) (by omega) (rA.only0 hR) (rB.only0 hR) rfl (by rw [eachS_length, LA.out, LB.out, Nat.max_self])).mono ?_)
    rintro e w' ⟨v, rfl, h, o⟩
    exact hK _ _ h o
  -- 29: s83 := move t5 [if 25=true]
  apply rg_ev
  · intro a w hR hf
    obtain ⟨e79, e5, -⟩ := hf
    replace e79 : a.tmps.getD 79 undef = _ := e79
    replace e5 : a.tmps.getD 5 undef = _ := e5
    refine rg_want rfl rfl e79 fun K hK => ?_
    clear e79
    go_simp
    exact hK _ _ rfl (Only.refl _ _)
  -- 30: s84 := call { value (Operand.func 19), args := #[t82, t83], #[33, 33] } [if 25=true]
  refine ⟨IsNew A L, IsNew.stable _ _, fun a w hR hf => ?_, ?_⟩
  · obtain ⟨e79, e82, e83, -⟩ := hf
    replace e79 : a.tmps.getD 79 undef = _ := e79
    replace e82 : IsNew (eachS gadd A B) L (a.tmps.getD 82 undef) w := e82
    replace e83 : a.tmps.getD 83 undef = _ := e83
    refine rg_want rfl rfl e79 fun K hK => ?_
    clear e79
    obtain ⟨p82, e82, r82, l82, -⟩ := e82.rd
    have l82 := Lib.hid l82
    go_simp
    (with_reducible refine (sum_at (zs := A) (L := L) l82.out LB.out (by omega) (by omega) r82 (rB.only0 hR) (twice_sum LA.out LB.out) LA.out).mono ?_)
    rintro e w' ⟨v, rfl, h, o⟩
    exact hK _ _ h o
  -- 31: s85 := convert 33 9 t84 [if 25=true]
  apply rg_ev
  · intro a w hR hf
    obtain ⟨e79, e84, -⟩ := hf
    replace e79 : a.tmps.getD 79 undef = _ := e79
    replace e84 : IsNew A L (a.tmps.getD 84 undef) w := e84
    refine rg_want rfl rfl e79 fun K hK => ?_
    clear e79
    obtain ⟨p84, e84, r84, l84, n84⟩ := e84.rd
    have hc := conv_bytes (P := Try.prog) w Try.underlying33 Try.underlying5 Try.underlying9 r84 l84 n84
    clear l84 n84
    go_simp
    exact hK _ _ rfl (Only.refl _ _)
  -- 32: s86 := move t4 [if 25=true]
  apply rg_ev
  · intro a w hR hf
    obtain ⟨e79, e4, -⟩ := hf
    replace e79 : a.tmps.getD 79 undef = _ := e79
    replace e4 : a.tmps.getD 4 undef = _ := e4
    refine rg_want rfl rfl e79 fun K hK => ?_
    clear e79
    go_simp
    exact hK _ _ rfl (Only.refl _ _)
  -- 33: s87 := convert 33 9 t86 [if 25=true]
  apply rg_ev
  · intro a w hR hf
    obtain ⟨e79, e86, -⟩ := hf
    replace e79 : a.tmps.getD 79 undef = _ := e79
    replace e86 : a.tmps.getD 86 undef = _ := e86
    refine rg_want rfl rfl e79 fun K hK => ?_
    clear e79
    have hc := conv_bytes (P := Try.prog) w Try.underlying33 Try.underlying5 Try.underlying9 (rA.only0 hR) LA.out hpL
    go_simp
    exact hK _ _ rfl (Only.refl _ _)
  -- 34: s88 := binOp Bineql 9 t85 t87 9 [if 25=true]
  apply rg_ev
  · intro a w hR hf
    obtain ⟨e79, e85, e87, -⟩ := hf
    replace e79 : a.tmps.getD 79 undef = _ := e79
    replace e85 : a.tmps.getD 85 undef = _ := e85
    replace e87 : a.tmps.getD 87 undef = _ := e87
    refine rg_want rfl rfl e79 fun K hK => ?_
    clear e79
    go_simp
    exact hK _ _ rfl (Only.refl _ _)
  -- 35: s89 := pick t79 t88 (const (Value.bool false))
  apply rg_ev
  · intro a w hR hf
    obtain ⟨e79, e88, -⟩ := hf
    replace e79 : a.tmps.getD 79 undef = _ := e79
    replace e88 : a.tmps.getD 88 undef = _ := e88
    refine rg_plain rfl fun K hK => ?_
    go_simp
    exact hK _ _ rfl (Only.refl _ _)
  -- 36: s2 := assign t89
  apply rg_ev
  · intro a w hR hf
    obtain ⟨e89, -⟩ := hf
    replace e89 : a.tmps.getD 89 undef = _ := e89
    refine rg_plain rfl fun K hK => ?_
    go_simp
    exact hK _ _ rfl (Only.refl _ _)
  intro f w hR hf
  dsimp only [mergeT]
  obtain ⟨e2, -⟩ := hf
  replace e2 : f 2 = _ := e2
  rw [e2]
  -- r7>>
  go_wp2_with fail
  go_ret
  exact ⟨rfl, o7.trans0 hR⟩
end Go.Proofs.Ytkhccchjflmcmaa
