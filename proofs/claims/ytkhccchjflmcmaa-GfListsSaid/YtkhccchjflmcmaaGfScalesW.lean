/- The walk of bollardlaw01.GfScales. -/
import Derived.Test.YtkhccchjflmcmaaGfAt
import Derived.Test.YtkhccchjflmcmaaBytesW
set_option linter.unusedVariables false
namespace Go.Proofs.Ytkhccchjflmcmaa
open Go.RowKit

def sumS (xs ys : List UInt8) : List UInt8 := eachS gadd xs ys
def scaleS (x : UInt8) (ys : List UInt8) : List UInt8 := eachS (fun a b => gadd a (gmul x b)) [] ys
theorem sumS_length (xs ys : List UInt8) : (sumS xs ys).length = max xs.length ys.length := eachS_length _ _ _
theorem scaleS_length (x : UInt8) (ys : List UInt8) : (scaleS x ys).length = ys.length := by rw [scaleS, eachS_length]; simp
theorem sumS_getD (xs ys : List UInt8) (i : Nat) : (sumS xs ys).getD i 0 = gadd (xs.getD i 0) (ys.getD i 0) := eachS_getD gadd gadd_zero' xs ys i
theorem scaleS_getD (x : UInt8) (ys : List UInt8) (i : Nat) : (scaleS x ys).getD i 0 = gmul x (ys.getD i 0) := by
  rw [scaleS, eachS_getD (fun a b => gadd a (gmul x b)) (scaled_zero x)]
  show gadd 0 _ = _
  exact zero_gadd _
theorem scale_sum (x : UInt8) (xs ys : List UInt8) : sumS (scaleS x xs) (scaleS x ys) = scaleS x (sumS xs ys) := by
  apply ext_getD
  · simp [sumS_length, scaleS_length]
  · intro i; rw [sumS_getD, scaleS_getD, scaleS_getD, scaleS_getD, sumS_getD, gmul_gadd]
theorem scale_scale (y x : UInt8) (xs : List UInt8) : scaleS (gmul y x) xs = scaleS y (scaleS x xs) := by
  apply ext_getD
  · simp [scaleS_length]
  · intro i; rw [scaleS_getD, scaleS_getD, scaleS_getD, gmul_assoc]
theorem sum_sum (xs ys zs : List UInt8) : sumS xs (sumS ys zs) = sumS (sumS xs ys) zs := by
  apply ext_getD
  · simp only [sumS_length]; omega
  · intro i; rw [sumS_getD, sumS_getD, sumS_getD, sumS_getD, gadd_assoc]

theorem scale_sum' (x : UInt8) (xs ys : List UInt8) : eachS gadd (scaleS x xs) (scaleS x ys) = scaleS x (sumS xs ys) := scale_sum x xs ys
theorem scale_scale' (y x : UInt8) (xs : List UInt8) : eachS (fun a b => gadd a (gmul (gmul y x) b)) [] xs = scaleS y (scaleS x xs) := scale_scale y x xs
theorem sum_sum' (xs ys zs : List UInt8) : eachS gadd xs (sumS ys zs) = sumS (sumS xs ys) zs := sum_sum xs ys zs

set_option maxHeartbeats 2000000 in
theorem gfScales_walk (p q r : Option Addr) (A B D : List UInt8) (n m k cp cq cr : Nat) (c y : UInt8) (w : World)
    (hn : A.length = n) (hm : B.length = m) (hk : D.length = k) (bn : n ≤ cp) (bm : m ≤ cq) (bk : k ≤ cr) (bcp : cp ≤ 140737488351232) (bcq : cq ≤ 140737488351232) (bcr : cr ≤ 140737488351232)
    (hx : Rd w p (u8s A)) (hy : Rd w q (u8s B)) (hd : Rd w r (u8s D)) :
    Calls Try.prog 7 #[.agg #[.slice p n cp, .slice q m cq, .slice r k cr, .int .u8 (c.toNat : Int)], .int .u8 (y.toNat : Int)] w fun e w' => e = .returned (.bool true) ∧ Only [] w w' := by
  obtain ⟨L, hL⟩ : ∃ L, max n m = L := ⟨_, rfl⟩
  obtain ⟨M, hM⟩ : ∃ M, max L k = M := ⟨_, rfl⟩
  have hmax : (if n < m then (m : Int) else (n : Int)) = (L : Int) := by rw [← hL]; split <;> omega
  have bL : L ≤ 140737488351232 := by omega
  have bM : M ≤ 140737488351232 := by omega
  have LA := Lib.hid hn
  have LB := Lib.hid hm
  have LD := Lib.hid hk
  have l1 : Hid ((sumS A B).length = L) := by rw [sumS_length, hn, hm, hL]; exact Lib.hid rfl
  have l2 : Hid ((scaleS c (sumS A B)).length = L) := by rw [scaleS_length]; exact l1
  have l3 : Hid ((scaleS c A).length = n) := by rw [scaleS_length]; exact LA
  have l4 : Hid ((scaleS c B).length = m) := by rw [scaleS_length]; exact LB
  have l5 : Hid ((scaleS y (scaleS c A)).length = n) := by rw [scaleS_length]; exact l3
  have l6 : Hid ((sumS (sumS A B) D).length = M) := by rw [sumS_length, l1.out, hk, hM]; exact Lib.hid rfl
  have l7 : Hid ((sumS B D).length = max m k) := by rw [sumS_length, hm, hk]; exact Lib.hid rfl
  have b7 : max m k ≤ 140737488351232 := by omega
  obtain ⟨N, hN⟩ : ∃ N, max m k = N := ⟨_, rfl⟩
  rw [hN] at l7 b7
  clear hn hm hk hL hM hN
  go_enter Try.func7, Try.ntmps7
  go_wp2_with fail
  (with_reducible refine (gfAlive_any _).mono ?_)
  rintro e w1 ⟨rfl, o1⟩
  have row := (Row.new w 35 [.slice p n cp, .slice q m cq, .slice r k cr, .int .u8 (c.toNat : Int)]).only0 o1
  have c0 := row.cell (i := 0) rfl
  have c1 := row.cell (i := 1) rfl
  have c2 := row.cell (i := 2) rfl
  have c3 := row.cell (i := 3) rfl
  have o2 : Only [] w w1 := (Only.alloc _ _).trans0 o1
  clear row o1
  replace hx := hx.only0 o2
  replace hy := hy.only0 o2
  replace hd := hd.only0 o2
  go_wp2_with fail
  -- <<r3
  refine wp_region_rg2 (Only []) [[(2, none)], [(13, some 0)], [(2, none)], [(15, some 0)], [(2, none)], [(17, some 0)], [(16, some 2), (18, some 0)], [(14, some 5), (19, some 0)], [(20, some 0)]] [(5, 0)] [none, none, none, none, none, some 5, none, none, none, none, none, none, none, some 13, some 14, some 15, some 16, some 17, some 18, some 19, some 20, none, none, none, none, none, none, none, none, none, none, none, none, none, none, none, none, none, none, none, none, none, none, none, none, none, none, none, none, none, none, none, none, none, none, none, none, none, none, none, none, none, none, none, none, none, none, none, none, none, none, none, none, none, none, none, none, none, none, none, none, none, none, none, none, none, none] (by kernel_rfl) rfl (by kernel_rfl) (fun _ => Only.refl _ _) (fun _ _ _ h k => h.trans0 k) (Only.drew _) (by kernel_rfl) ?_
  -- 0: s13 := fieldAddr 35 t2 3
  apply rg_ev
  · intro a w hR hf
    obtain ⟨e2, -⟩ := hf
    replace e2 : a.tmps.getD 2 undef = _ := e2
    refine rg_plain rfl fun K hK => ?_
    go_simp
    exact hK _ _ rfl (Only.refl _ _)
  -- 1: s14 := load 5 t13
  apply rg_ev
  · intro a w hR hf
    obtain ⟨e13, -⟩ := hf
    replace e13 : a.tmps.getD 13 undef = _ := e13
    refine rg_plain rfl fun K hK => ?_
    have hc := hR.cell c3 (by simp)
    go_simp
    exact hK _ _ rfl (Only.refl _ _)
  -- 2: s15 := fieldAddr 35 t2 0
  apply rg_ev
  · intro a w hR hf
    obtain ⟨e2, -⟩ := hf
    replace e2 : a.tmps.getD 2 undef = _ := e2
    refine rg_plain rfl fun K hK => ?_
    go_simp
    exact hK _ _ rfl (Only.refl _ _)
  -- 3: s16 := load 33 t15
  apply rg_ev
  · intro a w hR hf
    obtain ⟨e15, -⟩ := hf
    replace e15 : a.tmps.getD 15 undef = _ := e15
    refine rg_plain rfl fun K hK => ?_
    have hc := hR.cell c0 (by simp)
    go_simp
    exact hK _ _ rfl (Only.refl _ _)
  -- 4: s17 := fieldAddr 35 t2 1
  apply rg_ev
  · intro a w hR hf
    obtain ⟨e2, -⟩ := hf
    replace e2 : a.tmps.getD 2 undef = _ := e2
    refine rg_plain rfl fun K hK => ?_
    go_simp
    exact hK _ _ rfl (Only.refl _ _)
  -- 5: s18 := load 33 t17
  apply rg_ev
  · intro a w hR hf
    obtain ⟨e17, -⟩ := hf
    replace e17 : a.tmps.getD 17 undef = _ := e17
    refine rg_plain rfl fun K hK => ?_
    have hc := hR.cell c1 (by simp)
    go_simp
    exact hK _ _ rfl (Only.refl _ _)
  -- 6: s19 := call { value (Operand.func 19), args := #[t16, t18], #[33, 33] }
  refine ⟨IsNew (sumS A B) L, IsNew.stable _ _, fun a w hR hf => ?_, ?_⟩
  · obtain ⟨e16, e18, -⟩ := hf
    replace e16 : a.tmps.getD 16 undef = _ := e16
    replace e18 : a.tmps.getD 18 undef = _ := e18
    refine rg_plain rfl fun K hK => ?_
    go_simp
    (with_reducible refine (sum_at (zs := sumS A B) (L := L) LA.out LB.out (by omega) (by omega) (hx.only0 hR) (hy.only0 hR) rfl l1.out).mono ?_)
    rintro e w' ⟨v, rfl, h, o⟩
    exact hK _ _ h o
  -- 7: s20 := call { value (Operand.func 20), args := #[t14, t19], #[5, 33] }
  refine ⟨IsNew (scaleS c (sumS A B)) L, IsNew.stable _ _, fun a w hR hf => ?_, ?_⟩
  · obtain ⟨e14, e19, -⟩ := hf
    replace e14 : a.tmps.getD 14 undef = _ := e14
    replace e19 : IsNew (sumS A B) L (a.tmps.getD 19 undef) w := e19
    refine rg_plain rfl fun K hK => ?_
    obtain ⟨p19, e19, r19, -, -⟩ := e19.rd
    go_simp
    (with_reducible refine (scale_at (zs := scaleS c (sumS A B)) (L := L) l1.out (by omega) r19 rfl l2.out).mono ?_)
    rintro e w' ⟨v, rfl, h, o⟩
    exact hK _ _ h o
  -- 8: s5 := assign t20
  refine ⟨IsNew (scaleS c (sumS A B)) L, IsNew.stable _ _, fun a w hR hf => ?_, ?_⟩
  · obtain ⟨e20, -⟩ := hf
    replace e20 : IsNew (scaleS c (sumS A B)) L (a.tmps.getD 20 undef) w := e20
    refine rg_plain rfl fun K hK => ?_
    generalize hv20 : a.tmps.getD 20 undef = v20 at e20
    go_simp
    exact hK _ _ e20 (Only.refl _ _)
  intro f3 w3 hR3 hf
  dsimp only [mergeT]
  obtain ⟨e5, -⟩ := hf
  replace e5 : IsNew (scaleS c (sumS A B)) L (f3 5) w3 := e5
  -- r3>>
  obtain ⟨p5, e5', r5, -, n5⟩ := e5.rd
  rw [e5']
  replace c0 := hR3.cell c0 (by simp)
  replace c1 := hR3.cell c1 (by simp)
  replace c2 := hR3.cell c2 (by simp)
  replace c3 := hR3.cell c3 (by simp)
  replace hx := hx.only0 hR3
  replace hy := hy.only0 hR3
  replace hd := hd.only0 hR3
  have o3 := o2.trans0 hR3
  clear e5 e5' hR3 o2
  go_wp2_with fail
  -- <<r4
  refine wp_region_rg2 (Only []) [[(2, none)], [(21, some 0)], [(2, none)], [(23, some 0)], [(22, some 2), (24, some 0)], [(2, none)], [(26, some 0)], [(2, none)], [(28, some 0)], [(27, some 2), (29, some 0)], [(25, some 5), (30, some 0)], [(31, some 0)]] [(6, 0)] [none, none, none, none, none, none, some 6, none, none, none, none, none, none, none, none, none, none, none, none, none, none, some 21, some 22, some 23, some 24, some 25, some 26, some 27, some 28, some 29, some 30, some 31, none, none, none, none, none, none, none, none, none, none, none, none, none, none, none, none, none, none, none, none, none, none, none, none, none, none, none, none, none, none, none, none, none, none, none, none, none, none, none, none, none, none, none, none, none, none, none, none, none, none, none, none, none, none, none] (by kernel_rfl) rfl (by kernel_rfl) (fun _ => Only.refl _ _) (fun _ _ _ h k => h.trans0 k) (Only.drew _) (by kernel_rfl) ?_
  -- 0: s21 := fieldAddr 35 t2 3
  apply rg_ev
  · intro a w hR hf
    obtain ⟨e2, -⟩ := hf
    replace e2 : a.tmps.getD 2 undef = _ := e2
    refine rg_plain rfl fun K hK => ?_
    go_simp
    exact hK _ _ rfl (Only.refl _ _)
  -- 1: s22 := load 5 t21
  apply rg_ev
  · intro a w hR hf
    obtain ⟨e21, -⟩ := hf
    replace e21 : a.tmps.getD 21 undef = _ := e21
    refine rg_plain rfl fun K hK => ?_
    have hc := hR.cell c3 (by simp)
    go_simp
    exact hK _ _ rfl (Only.refl _ _)
  -- 2: s23 := fieldAddr 35 t2 0
  apply rg_ev
  · intro a w hR hf
    obtain ⟨e2, -⟩ := hf
    replace e2 : a.tmps.getD 2 undef = _ := e2
    refine rg_plain rfl fun K hK => ?_
    go_simp
    exact hK _ _ rfl (Only.refl _ _)
  -- 3: s24 := load 33 t23
  apply rg_ev
  · intro a w hR hf
    obtain ⟨e23, -⟩ := hf
    replace e23 : a.tmps.getD 23 undef = _ := e23
    refine rg_plain rfl fun K hK => ?_
    have hc := hR.cell c0 (by simp)
    go_simp
    exact hK _ _ rfl (Only.refl _ _)
  -- 4: s25 := call { value (Operand.func 20), args := #[t22, t24], #[5, 33] }
  refine ⟨IsNew (scaleS c A) n, IsNew.stable _ _, fun a w hR hf => ?_, ?_⟩
  · obtain ⟨e22, e24, -⟩ := hf
    replace e22 : a.tmps.getD 22 undef = _ := e22
    replace e24 : a.tmps.getD 24 undef = _ := e24
    refine rg_plain rfl fun K hK => ?_
    go_simp
    (with_reducible refine (scale_at (zs := scaleS c A) (L := n) LA.out (by omega) (hx.only0 hR) rfl l3.out).mono ?_)
    rintro e w' ⟨v, rfl, h, o⟩
    exact hK _ _ h o
  -- 5: s26 := fieldAddr 35 t2 3
  apply rg_ev
  · intro a w hR hf
    obtain ⟨e2, -⟩ := hf
    replace e2 : a.tmps.getD 2 undef = _ := e2
    refine rg_plain rfl fun K hK => ?_
    go_simp
    exact hK _ _ rfl (Only.refl _ _)
  -- 6: s27 := load 5 t26
  apply rg_ev
  · intro a w hR hf
    obtain ⟨e26, -⟩ := hf
    replace e26 : a.tmps.getD 26 undef = _ := e26
    refine rg_plain rfl fun K hK => ?_
    have hc := hR.cell c3 (by simp)
    go_simp
    exact hK _ _ rfl (Only.refl _ _)
  -- 7: s28 := fieldAddr 35 t2 1
  apply rg_ev
  · intro a w hR hf
    obtain ⟨e2, -⟩ := hf
    replace e2 : a.tmps.getD 2 undef = _ := e2
    refine rg_plain rfl fun K hK => ?_
    go_simp
    exact hK _ _ rfl (Only.refl _ _)
  -- 8: s29 := load 33 t28
  apply rg_ev
  · intro a w hR hf
    obtain ⟨e28, -⟩ := hf
    replace e28 : a.tmps.getD 28 undef = _ := e28
    refine rg_plain rfl fun K hK => ?_
    have hc := hR.cell c1 (by simp)
    go_simp
    exact hK _ _ rfl (Only.refl _ _)
  -- 9: s30 := call { value (Operand.func 20), args := #[t27, t29], #[5, 33] }
  refine ⟨IsNew (scaleS c B) m, IsNew.stable _ _, fun a w hR hf => ?_, ?_⟩
  · obtain ⟨e27, e29, -⟩ := hf
    replace e27 : a.tmps.getD 27 undef = _ := e27
    replace e29 : a.tmps.getD 29 undef = _ := e29
    refine rg_plain rfl fun K hK => ?_
    go_simp
    (with_reducible refine (scale_at (zs := scaleS c B) (L := m) LB.out (by omega) (hy.only0 hR) rfl l4.out).mono ?_)
    rintro e w' ⟨v, rfl, h, o⟩
    exact hK _ _ h o
  -- 10: s31 := call { value (Operand.func 19), args := #[t25, t30], #[33, 33] }
  refine ⟨IsNew (scaleS c (sumS A B)) L, IsNew.stable _ _, fun a w hR hf => ?_, ?_⟩
  · obtain ⟨e25, e30, -⟩ := hf
    replace e25 : IsNew (scaleS c A) n (a.tmps.getD 25 undef) w := e25
    replace e30 : IsNew (scaleS c B) m (a.tmps.getD 30 undef) w := e30
    refine rg_plain rfl fun K hK => ?_
    obtain ⟨p25, e25, r25, -, -⟩ := e25.rd
    obtain ⟨p30, e30, r30, -, -⟩ := e30.rd
    go_simp
    (with_reducible refine (sum_at (zs := scaleS c (sumS A B)) (L := L) l3.out l4.out (by omega) (by omega) r25 r30 (scale_sum' c A B) l2.out).mono ?_)
    rintro e w' ⟨v, rfl, h, o⟩
    exact hK _ _ h o
  -- 11: s6 := assign t31
  refine ⟨IsNew (scaleS c (sumS A B)) L, IsNew.stable _ _, fun a w hR hf => ?_, ?_⟩
  · obtain ⟨e31, -⟩ := hf
    replace e31 : IsNew (scaleS c (sumS A B)) L (a.tmps.getD 31 undef) w := e31
    refine rg_plain rfl fun K hK => ?_
    generalize hv31 : a.tmps.getD 31 undef = v31 at e31
    go_simp
    exact hK _ _ e31 (Only.refl _ _)
  intro f4 w4 hR4 hf
  dsimp only [mergeT]
  obtain ⟨e6, -⟩ := hf
  replace e6 : IsNew (scaleS c (sumS A B)) L (f4 6) w4 := e6
  -- r4>>
  obtain ⟨p6, e6', r6, -, n6⟩ := e6.rd
  rw [e6']
  replace c0 := hR4.cell c0 (by simp)
  replace c1 := hR4.cell c1 (by simp)
  replace c2 := hR4.cell c2 (by simp)
  replace c3 := hR4.cell c3 (by simp)
  replace hx := hx.only0 hR4
  replace hy := hy.only0 hR4
  replace hd := hd.only0 hR4
  replace r5 := r5.only0 hR4
  have o4 := o3.trans0 hR4
  clear e6 e6' hR4 o3
  go_wp2_with fail
  (with_reducible refine (scale_at (zs := scaleS c A) (L := n) LA.out (by omega) hx rfl l3.out).mono ?_)
  rintro e w5 ⟨v, rfl, h, o⟩
  obtain ⟨pa, rfl, ra, -, -⟩ := h.rd
  replace c0 := o.cell c0 (by simp)
  replace c1 := o.cell c1 (by simp)
  replace c2 := o.cell c2 (by simp)
  replace c3 := o.cell c3 (by simp)
  replace hx := hx.only0 o
  replace hy := hy.only0 o
  replace hd := hd.only0 o
  replace r5 := r5.only0 o
  replace r6 := r6.only0 o
  have o5 := o4.trans0 o
  clear h o o4
  go_wp2_with fail
  (with_reducible refine (scale_at (zs := scaleS y (scaleS c A)) (L := n) l3.out (by omega) ra rfl l5.out).mono ?_)
  rintro e w6 ⟨v, rfl, h, o⟩
  obtain ⟨p7, rfl, r7, -, n7⟩ := h.rd
  replace c0 := o.cell c0 (by simp)
  replace c1 := o.cell c1 (by simp)
  replace c2 := o.cell c2 (by simp)
  replace c3 := o.cell c3 (by simp)
  replace hx := hx.only0 o
  replace hy := hy.only0 o
  replace hd := hd.only0 o
  replace r5 := r5.only0 o
  replace r6 := r6.only0 o
  have o6 := o5.trans0 o
  clear h o o5 ra
  go_wp2_with fail
  -- <<r6
  refine wp_region_rg2 (Only []) [[(1, none)], [(2, none)], [(40, some 0)], [(39, some 2), (41, some 0)], [(2, none)], [(43, some 0)], [(42, some 2), (44, some 0)], [(45, some 0)]] [(8, 0)] [none, none, none, none, none, none, none, none, some 8, none, none, none, none, none, none, none, none, none, none, none, none, none, none, none, none, none, none, none, none, none, none, none, none, none, none, none, none, none, none, some 39, some 40, some 41, some 42, some 43, some 44, some 45, none, none, none, none, none, none, none, none, none, none, none, none, none, none, none, none, none, none, none, none, none, none, none, none, none, none, none, none, none, none, none, none, none, none, none, none, none, none, none, none, none] (by kernel_rfl) rfl (by kernel_rfl) (fun _ => Only.refl _ _) (fun _ _ _ h k => h.trans0 k) (Only.drew _) (by kernel_rfl) ?_
  -- 0: s39 := move t1
  apply rg_ev
  · intro a w hR hf
    obtain ⟨e1, -⟩ := hf
    replace e1 : a.tmps.getD 1 undef = _ := e1
    refine rg_plain rfl fun K hK => ?_
    go_simp
    exact hK _ _ rfl (Only.refl _ _)
  -- 1: s40 := fieldAddr 35 t2 3
  apply rg_ev
  · intro a w hR hf
    obtain ⟨e2, -⟩ := hf
    replace e2 : a.tmps.getD 2 undef = _ := e2
    refine rg_plain rfl fun K hK => ?_
    go_simp
    exact hK _ _ rfl (Only.refl _ _)
  -- 2: s41 := load 5 t40
  apply rg_ev
  · intro a w hR hf
    obtain ⟨e40, -⟩ := hf
    replace e40 : a.tmps.getD 40 undef = _ := e40
    refine rg_plain rfl fun K hK => ?_
    have hc := hR.cell c3 (by simp)
    go_simp
    exact hK _ _ rfl (Only.refl _ _)
  -- 3: s42 := call { value (Operand.func 12), args := #[t39, t41], #[5, 5] }
  apply rg_ev
  · intro a w hR hf
    obtain ⟨e39, e41, -⟩ := hf
    replace e39 : a.tmps.getD 39 undef = _ := e39
    replace e41 : a.tmps.getD 41 undef = _ := e41
    refine rg_plain rfl fun K hK => ?_
    go_simp
    (with_reducible refine (mul_any y c _).mono ?_)
    rintro e w' ⟨rfl, rfl⟩
    exact hK _ _ rfl (Only.refl _ _)
  -- 4: s43 := fieldAddr 35 t2 0
  apply rg_ev
  · intro a w hR hf
    obtain ⟨e2, -⟩ := hf
    replace e2 : a.tmps.getD 2 undef = _ := e2
    refine rg_plain rfl fun K hK => ?_
    go_simp
    exact hK _ _ rfl (Only.refl _ _)
  -- 5: s44 := load 33 t43
  apply rg_ev
  · intro a w hR hf
    obtain ⟨e43, -⟩ := hf
    replace e43 : a.tmps.getD 43 undef = _ := e43
    refine rg_plain rfl fun K hK => ?_
    have hc := hR.cell c0 (by simp)
    go_simp
    exact hK _ _ rfl (Only.refl _ _)
  -- 6: s45 := call { value (Operand.func 20), args := #[t42, t44], #[5, 33] }
  refine ⟨IsNew (scaleS y (scaleS c A)) n, IsNew.stable _ _, fun a w hR hf => ?_, ?_⟩
  · obtain ⟨e42, e44, -⟩ := hf
    replace e42 : a.tmps.getD 42 undef = _ := e42
    replace e44 : a.tmps.getD 44 undef = _ := e44
    refine rg_plain rfl fun K hK => ?_
    go_simp
    (with_reducible refine (scale_at (zs := scaleS y (scaleS c A)) (L := n) LA.out (by omega) (hx.only0 hR) (scale_scale' y c A) l5.out).mono ?_)
    rintro e w' ⟨v, rfl, h, o⟩
    exact hK _ _ h o
  -- 7: s8 := assign t45
  refine ⟨IsNew (scaleS y (scaleS c A)) n, IsNew.stable _ _, fun a w hR hf => ?_, ?_⟩
  · obtain ⟨e45, -⟩ := hf
    replace e45 : IsNew (scaleS y (scaleS c A)) n (a.tmps.getD 45 undef) w := e45
    refine rg_plain rfl fun K hK => ?_
    generalize hv45 : a.tmps.getD 45 undef = v45 at e45
    go_simp
    exact hK _ _ e45 (Only.refl _ _)
  intro f6 w6 hR6 hf
  dsimp only [mergeT]
  obtain ⟨e8, -⟩ := hf
  replace e8 : IsNew (scaleS y (scaleS c A)) n (f6 8) w6 := e8
  -- r6>>
  obtain ⟨p8, e8', r8, -, n8⟩ := e8.rd
  rw [e8']
  replace c0 := hR6.cell c0 (by simp)
  replace c1 := hR6.cell c1 (by simp)
  replace c2 := hR6.cell c2 (by simp)
  replace c3 := hR6.cell c3 (by simp)
  replace hx := hx.only0 hR6
  replace hy := hy.only0 hR6
  replace hd := hd.only0 hR6
  replace r5 := r5.only0 hR6
  replace r6 := r6.only0 hR6
  replace r7 := r7.only0 hR6
  have o7 := o6.trans0 hR6
  clear e8 e8' hR6 o6
  go_wp2_with fail
  -- <<r7
  refine wp_region_rg2 (Only []) [[(2, none)], [(46, some 0)], [(2, none)], [(48, some 0)], [(47, some 2), (49, some 0)], [(2, none)], [(51, some 0)], [(50, some 2), (52, some 0)], [(53, some 0)]] [(9, 0)] [none, none, none, none, none, none, none, none, none, some 9, none, none, none, none, none, none, none, none, none, none, none, none, none, none, none, none, none, none, none, none, none, none, none, none, none, none, none, none, none, none, none, none, none, none, none, none, some 46, some 47, some 48, some 49, some 50, some 51, some 52, some 53, none, none, none, none, none, none, none, none, none, none, none, none, none, none, none, none, none, none, none, none, none, none, none, none, none, none, none, none, none, none, none, none, none] (by kernel_rfl) rfl (by kernel_rfl) (fun _ => Only.refl _ _) (fun _ _ _ h k => h.trans0 k) (Only.drew _) (by kernel_rfl) ?_
  -- 0: s46 := fieldAddr 35 t2 0
  apply rg_ev
  · intro a w hR hf
    obtain ⟨e2, -⟩ := hf
    replace e2 : a.tmps.getD 2 undef = _ := e2
    refine rg_plain rfl fun K hK => ?_
    go_simp
    exact hK _ _ rfl (Only.refl _ _)
  -- 1: s47 := load 33 t46
  apply rg_ev
  · intro a w hR hf
    obtain ⟨e46, -⟩ := hf
    replace e46 : a.tmps.getD 46 undef = _ := e46
    refine rg_plain rfl fun K hK => ?_
    have hc := hR.cell c0 (by simp)
    go_simp
    exact hK _ _ rfl (Only.refl _ _)
  -- 2: s48 := fieldAddr 35 t2 1
  apply rg_ev
  · intro a w hR hf
    obtain ⟨e2, -⟩ := hf
    replace e2 : a.tmps.getD 2 undef = _ := e2
    refine rg_plain rfl fun K hK => ?_
    go_simp
    exact hK _ _ rfl (Only.refl _ _)
  -- 3: s49 := load 33 t48
  apply rg_ev
  · intro a w hR hf
    obtain ⟨e48, -⟩ := hf
    replace e48 : a.tmps.getD 48 undef = _ := e48
    refine rg_plain rfl fun K hK => ?_
    have hc := hR.cell c1 (by simp)
    go_simp
    exact hK _ _ rfl (Only.refl _ _)
  -- 4: s50 := call { value (Operand.func 19), args := #[t47, t49], #[33, 33] }
  refine ⟨IsNew (sumS A B) L, IsNew.stable _ _, fun a w hR hf => ?_, ?_⟩
  · obtain ⟨e47, e49, -⟩ := hf
    replace e47 : a.tmps.getD 47 undef = _ := e47
    replace e49 : a.tmps.getD 49 undef = _ := e49
    refine rg_plain rfl fun K hK => ?_
    go_simp
    (with_reducible refine (sum_at (zs := sumS A B) (L := L) LA.out LB.out (by omega) (by omega) (hx.only0 hR) (hy.only0 hR) rfl l1.out).mono ?_)
    rintro e w' ⟨v, rfl, h, o⟩
    exact hK _ _ h o
  -- 5: s51 := fieldAddr 35 t2 2
  apply rg_ev
  · intro a w hR hf
    obtain ⟨e2, -⟩ := hf
    replace e2 : a.tmps.getD 2 undef = _ := e2
    refine rg_plain rfl fun K hK => ?_
    go_simp
    exact hK _ _ rfl (Only.refl _ _)
  -- 6: s52 := load 33 t51
  apply rg_ev
  · intro a w hR hf
    obtain ⟨e51, -⟩ := hf
    replace e51 : a.tmps.getD 51 undef = _ := e51
    refine rg_plain rfl fun K hK => ?_
    have hc := hR.cell c2 (by simp)
    go_simp
    exact hK _ _ rfl (Only.refl _ _)
  -- 7: s53 := call { value (Operand.func 19), args := #[t50, t52], #[33, 33] }
  refine ⟨IsNew (sumS (sumS A B) D) M, IsNew.stable _ _, fun a w hR hf => ?_, ?_⟩
  · obtain ⟨e50, e52, -⟩ := hf
    replace e50 : IsNew (sumS A B) L (a.tmps.getD 50 undef) w := e50
    replace e52 : a.tmps.getD 52 undef = _ := e52
    refine rg_plain rfl fun K hK => ?_
    obtain ⟨p50, e50, r50, -, -⟩ := e50.rd
    go_simp
    (with_reducible refine (sum_at (zs := sumS (sumS A B) D) (L := M) l1.out LD.out (by omega) (by omega) r50 (hd.only0 hR) rfl l6.out).mono ?_)
    rintro e w' ⟨v, rfl, h, o⟩
    exact hK _ _ h o
  -- 8: s9 := assign t53
  refine ⟨IsNew (sumS (sumS A B) D) M, IsNew.stable _ _, fun a w hR hf => ?_, ?_⟩
  · obtain ⟨e53, -⟩ := hf
    replace e53 : IsNew (sumS (sumS A B) D) M (a.tmps.getD 53 undef) w := e53
    refine rg_plain rfl fun K hK => ?_
    generalize hv53 : a.tmps.getD 53 undef = v53 at e53
    go_simp
    exact hK _ _ e53 (Only.refl _ _)
  intro f7 w7 hR7 hf
  dsimp only [mergeT]
  obtain ⟨e9, -⟩ := hf
  replace e9 : IsNew (sumS (sumS A B) D) M (f7 9) w7 := e9
  -- r7>>
  obtain ⟨p9, e9', r9, -, n9⟩ := e9.rd
  rw [e9']
  replace c0 := hR7.cell c0 (by simp)
  replace c1 := hR7.cell c1 (by simp)
  replace c2 := hR7.cell c2 (by simp)
  replace hx := hx.only0 hR7
  replace hy := hy.only0 hR7
  replace hd := hd.only0 hR7
  replace r5 := r5.only0 hR7
  replace r6 := r6.only0 hR7
  replace r7 := r7.only0 hR7
  replace r8 := r8.only0 hR7
  have o8 := o7.trans0 hR7
  clear e9 e9' hR7 o7 c3
  go_wp2_with fail
  -- <<r8
  refine wp_region_rg2 (Only []) [[(2, none)], [(54, some 0)], [(2, none)], [(56, some 0)], [(2, none)], [(58, some 0)], [(57, some 2), (59, some 0)], [(55, some 5), (60, some 0)], [(61, some 0)]] [(10, 0)] [none, none, none, none, none, none, none, none, none, none, some 10, none, none, none, none, none, none, none, none, none, none, none, none, none, none, none, none, none, none, none, none, none, none, none, none, none, none, none, none, none, none, none, none, none, none, none, none, none, none, none, none, none, none, none, some 54, some 55, some 56, some 57, some 58, some 59, some 60, some 61, none, none, none, none, none, none, none, none, none, none, none, none, none, none, none, none, none, none, none, none, none, none, none, none, none] (by kernel_rfl) rfl (by kernel_rfl) (fun _ => Only.refl _ _) (fun _ _ _ h k => h.trans0 k) (Only.drew _) (by kernel_rfl) ?_
  -- 0: s54 := fieldAddr 35 t2 0
  apply rg_ev
  · intro a w hR hf
    obtain ⟨e2, -⟩ := hf
    replace e2 : a.tmps.getD 2 undef = _ := e2
    refine rg_plain rfl fun K hK => ?_
    go_simp
    exact hK _ _ rfl (Only.refl _ _)
  -- 1: s55 := load 33 t54
  apply rg_ev
  · intro a w hR hf
    obtain ⟨e54, -⟩ := hf
    replace e54 : a.tmps.getD 54 undef = _ := e54
    refine rg_plain rfl fun K hK => ?_
    have hc := hR.cell c0 (by simp)
    go_simp
    exact hK _ _ rfl (Only.refl _ _)
  -- 2: s56 := fieldAddr 35 t2 1
  apply rg_ev
  · intro a w hR hf
    obtain ⟨e2, -⟩ := hf
    replace e2 : a.tmps.getD 2 undef = _ := e2
    refine rg_plain rfl fun K hK => ?_
    go_simp
    exact hK _ _ rfl (Only.refl _ _)
  -- 3: s57 := load 33 t56
  apply rg_ev
  · intro a w hR hf
    obtain ⟨e56, -⟩ := hf
    replace e56 : a.tmps.getD 56 undef = _ := e56
    refine rg_plain rfl fun K hK => ?_
    have hc := hR.cell c1 (by simp)
    go_simp
    exact hK _ _ rfl (Only.refl _ _)
  -- 4: s58 := fieldAddr 35 t2 2
  apply rg_ev
  · intro a w hR hf
    obtain ⟨e2, -⟩ := hf
    replace e2 : a.tmps.getD 2 undef = _ := e2
    refine rg_plain rfl fun K hK => ?_
    go_simp
    exact hK _ _ rfl (Only.refl _ _)
  -- 5: s59 := load 33 t58
  apply rg_ev
  · intro a w hR hf
    obtain ⟨e58, -⟩ := hf
    replace e58 : a.tmps.getD 58 undef = _ := e58
    refine rg_plain rfl fun K hK => ?_
    have hc := hR.cell c2 (by simp)
    go_simp
    exact hK _ _ rfl (Only.refl _ _)
  -- 6: s60 := call { value (Operand.func 19), args := #[t57, t59], #[33, 33] }
  refine ⟨IsNew (sumS B D) N, IsNew.stable _ _, fun a w hR hf => ?_, ?_⟩
  · obtain ⟨e57, e59, -⟩ := hf
    replace e57 : a.tmps.getD 57 undef = _ := e57
    replace e59 : a.tmps.getD 59 undef = _ := e59
    refine rg_plain rfl fun K hK => ?_
    go_simp
    (with_reducible refine (sum_at (zs := sumS B D) (L := N) LB.out LD.out (by omega) (by omega) (hy.only0 hR) (hd.only0 hR) rfl l7.out).mono ?_)
    rintro e w' ⟨v, rfl, h, o⟩
    exact hK _ _ h o
  -- 7: s61 := call { value (Operand.func 19), args := #[t55, t60], #[33, 33] }
  refine ⟨IsNew (sumS (sumS A B) D) M, IsNew.stable _ _, fun a w hR hf => ?_, ?_⟩
  · obtain ⟨e55, e60, -⟩ := hf
    replace e55 : a.tmps.getD 55 undef = _ := e55
    replace e60 : IsNew (sumS B D) N (a.tmps.getD 60 undef) w := e60
    refine rg_plain rfl fun K hK => ?_
    obtain ⟨p60, e60, r60, -, -⟩ := e60.rd
    go_simp
    (with_reducible refine (sum_at (zs := sumS (sumS A B) D) (L := M) LA.out l7.out (by omega) (by omega) (hx.only0 hR) r60 (sum_sum' A B D) l6.out).mono ?_)
    rintro e w' ⟨v, rfl, h, o⟩
    exact hK _ _ h o
  -- 8: s10 := assign t61
  refine ⟨IsNew (sumS (sumS A B) D) M, IsNew.stable _ _, fun a w hR hf => ?_, ?_⟩
  · obtain ⟨e61, -⟩ := hf
    replace e61 : IsNew (sumS (sumS A B) D) M (a.tmps.getD 61 undef) w := e61
    refine rg_plain rfl fun K hK => ?_
    generalize hv61 : a.tmps.getD 61 undef = v61 at e61
    go_simp
    exact hK _ _ e61 (Only.refl _ _)
  intro f8 w8 hR8 hf
  dsimp only [mergeT]
  obtain ⟨e10, -⟩ := hf
  replace e10 : IsNew (sumS (sumS A B) D) M (f8 10) w8 := e10
  -- r8>>
  obtain ⟨p10, e10', r10, -, n10⟩ := e10.rd
  rw [e10']
  replace c0 := hR8.cell c0 (by simp)
  replace c1 := hR8.cell c1 (by simp)
  replace r5 := r5.only0 hR8
  replace r6 := r6.only0 hR8
  replace r7 := r7.only0 hR8
  replace r8 := r8.only0 hR8
  replace r9 := r9.only0 hR8
  have o9 := o8.trans0 hR8
  clear e10 e10' hR8 o8 c2 hx hy hd
  go_wp2_with fail
  (with_reducible refine (sameBytes_any p5 p6 _ _ _ _ _ _ true _ l2.out l2.out n5 n6 r5 r6 (by simp)).mono ?_)
  rintro e w' ⟨rfl, rfl⟩
  go_wp2_with fail
  (with_reducible refine (sameBytes_any p7 p8 _ _ _ _ _ _ true _ l5.out l5.out n7 n8 r7 r8 (by simp)).mono ?_)
  rintro e w' ⟨rfl, rfl⟩
  go_wp2_with fail
  (with_reducible refine (sameBytes_any p9 p10 _ _ _ _ _ _ true _ l6.out l6.out n9 n10 r9 r10 (by simp)).mono ?_)
  rintro e w' ⟨rfl, rfl⟩
  go_wp2_with fail
  go_ret
  exact ⟨rfl, o9⟩
end Go.Proofs.Ytkhccchjflmcmaa
