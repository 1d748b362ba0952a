/- The walk of bollardlaw01.GfLists. -/
import Derived.Test.YtkhccchjflmcmaaGfScalesW
import Derived.Test.YtkhccchjflmcmaaRefGfLists
set_option linter.unusedVariables false
namespace Go.Proofs.Ytkhccchjflmcmaa
open Go.RowKit

theorem newBytes_new {xs zs : List UInt8} {L : Nat} {w : World} (hz : xs = zs) (hL : zs.length = L) {e : Ending} {w' : World} (h : NewBytes xs w e w') : ∃ g, e = .returned (.slice (some ⟨g, 0, none⟩) L L) ∧ w.heap.size ≤ g ∧ Row w' g 5 (u8s zs) ∧ Only [] w w' := by
  subst hz hL
  obtain ⟨g, rfl, hg, r, o⟩ := h
  exact ⟨g, rfl, hg, r, o⟩
theorem sum_new {p q : Option Addr} {xs ys zs : List UInt8} {n m L : Nat} {c d : Nat} {w : World} (hn : xs.length = n) (hm : ys.length = m) (bn : n ≤ 140737488351232) (bm : m ≤ 140737488351232)
    (hx : Rd w p (u8s xs)) (hy : Rd w q (u8s ys)) (hz : eachS gadd xs ys = zs) (hL : zs.length = L) :
    Calls Try.prog 19 #[.slice p n c, .slice q m d] w fun e w' => ∃ g, e = .returned (.slice (some ⟨g, 0, none⟩) L L) ∧ w.heap.size ≤ g ∧ Row w' g 5 (u8s zs) ∧ Only [] w w' := by
  subst hn hm
  exact (sum_any p q xs ys c d w bn bm hx hy).mono fun _ _ h => newBytes_new hz hL h
theorem scale_new {q : Option Addr} {x : UInt8} {ys zs : List UInt8} {m L : Nat} {d : Nat} {w : World} (hm : ys.length = m) (bm : m ≤ 140737488351232)
    (hy : Rd w q (u8s ys)) (hz : eachS (fun a b => gadd a (gmul x b)) [] ys = zs) (hL : zs.length = L) :
    Calls Try.prog 20 #[.int .u8 (x.toNat : Int), .slice q m d] w fun e w' => ∃ g, e = .returned (.slice (some ⟨g, 0, none⟩) L L) ∧ w.heap.size ≤ g ∧ Row w' g 5 (u8s zs) ∧ Only [] w w' := by
  subst hm
  exact (scale_any x q ys d w bm hy).mono fun _ _ h => newBytes_new hz hL h
theorem addScaled_new {p q : Option Addr} {x : UInt8} {xs ys zs : List UInt8} {n m L : Nat} {c d : Nat} {w : World} (hn : xs.length = n) (hm : ys.length = m) (bn : n ≤ 140737488351232) (bm : m ≤ 140737488351232)
    (hx : Rd w p (u8s xs)) (hy : Rd w q (u8s ys)) (hz : eachS (fun a b => gadd a (gmul x b)) xs ys = zs) (hL : zs.length = L) :
    Calls Try.prog 18 #[.slice p n c, .int .u8 (x.toNat : Int), .slice q m d] w fun e w' => ∃ g, e = .returned (.slice (some ⟨g, 0, none⟩) L L) ∧ w.heap.size ≤ g ∧ Row w' g 5 (u8s zs) ∧ Only [] w w' := by
  subst hn hm
  exact (addScaled_any x p q xs ys c d w bn bm hx hy).mono fun _ _ h => newBytes_new hz hL h
theorem refAddScaled_at {p q : Option Addr} {x : UInt8} {j : Int} {xs ys zs : List UInt8} {n m L : Nat} {c d : Nat} {w : World} (hj : (x.toNat : Int) = j) (hn : xs.length = n) (hm : ys.length = m) (bn : n ≤ 140737488351232) (bm : m ≤ 140737488351232)
    (hx : Rd w p (u8s xs)) (hy : Rd w q (u8s ys)) (hz : eachS (fun a b => gadd a (gmul x b)) xs ys = zs) (hL : zs.length = L) :
    Calls Try.prog 29 #[.slice p n c, .int .u8 j, .slice q m d] w fun e w' => ∃ v, e = .returned v ∧ IsB zs L v w' ∧ Only [] w w' := by
  subst hj
  refine (refAddScaled_any p q xs ys x n m c d w hn hm bn bm hx hy).mono fun e w' ⟨v, he, hown, ho⟩ => ⟨v, he, ⟨hL, ?_⟩, ho⟩
  rw [asUp_each x xs ys hn hm, hz] at hown
  obtain ⟨p, cap, e, r, h1, _, h2, _⟩ := hown.rd
  rw [u8s_length, hL] at e h2
  exact ⟨p, cap, e, r, h2⟩
theorem one_scaled (xs ys : List UInt8) : eachS (fun a b => gadd a (gmul 1 b)) xs ys = eachS gadd xs ys := by
  congr 1
  funext a b
  rw [gmul_one_left]
theorem marks_take {w : World} {g : Nat} {xs : List UInt8} {n : Nat} (hn : xs.length = n) (r : Row w g 5 (u8s (xs ++ marks))) : Rd w (some ⟨g, 0, none⟩) (u8s xs) := by
  have := r.rd0.take n
  rw [u8s_take] at this
  rwa [List.take_left' hn] at this

set_option maxHeartbeats 2000000 in
theorem gfLists_walk (p q : Option Addr) (A B : List UInt8) (n m cp cq : Nat) (c : UInt8) (w : World)
    (hn : A.length = n) (hm : B.length = m) (bn : n ≤ 140737488351232) (bm : m ≤ 140737488351232) (hp : p = none → n = 0 ∧ cp = 0) (hq : q = none → m = 0 ∧ cq = 0)
    (hx : Rd w p (u8s A)) (hy : Rd w q (u8s B)) :
    Calls Try.prog 9 #[.slice p n cp, .slice q m cq, .int .u8 (c.toNat : Int)] w fun e w' => e = .returned (.bool true) ∧ Only [] w w' := by
  obtain ⟨L, hL⟩ : ∃ L, max n m = L := ⟨_, rfl⟩
  have bL : L ≤ 140737488351232 := by omega
  have LA := Lib.hid hn
  have LB := Lib.hid hm
  have l1 : Hid ((eachS gadd A B).length = L) := by rw [eachS_length, hn, hm, hL]; exact Lib.hid rfl
  have l2 : Hid ((eachS (fun a b => gadd a (gmul c b)) [] B).length = m) := by rw [eachS_length, hm]; exact Lib.hid (by simp)
  have l3 : Hid ((eachS (fun a b => gadd a (gmul c b)) A B).length = L) := by rw [eachS_length, hn, hm, hL]; exact Lib.hid rfl
  have Hp := Lib.hid hp
  have Hq := Lib.hid hq
  clear hn hm hL hp hq
  have hx0 := hx
  have hy0 := hy
  go_enter Try.func9, Try.ntmps9
  go_wp2_with fail
  (with_reducible refine (gfAlive_any _).mono ?_)
  rintro e w1 ⟨rfl, o1⟩
  replace hx := hx.only0 o1
  replace hy := hy.only0 o1
  go_wp2_with fail
  (with_reducible refine (bytes_any p A n cp _ LA.out bn Hp.out hx).mono ?_)
  rintro e w2 ⟨g1, rfl, hg1, r1, o2⟩
  replace hx := hx.only0 o2
  replace hy := hy.only0 o2
  go_wp2_with fail
  (with_reducible refine (bytes_any q B m cq _ LB.out bm Hq.out hy).mono ?_)
  rintro e w3 ⟨g2, rfl, hg2, r2, o3⟩
  replace hx := hx.only0 o3
  replace hy := hy.only0 o3
  replace r1 := r1.only0 o3
  have y1 := r1.lt
  have y2 := r2.lt
  go_wp2_with fail
  (with_reducible refine (sum_new (zs := eachS gadd A B) (L := L) LA.out LB.out (by omega) (by omega) (marks_take LA.out r1) (marks_take LB.out r2) rfl l1.out).mono ?_)
  rintro e w4 ⟨gs, rfl, hgs, rs, o4⟩
  have y4 := rs.lt
  replace hx := hx.only0 o4
  replace hy := hy.only0 o4
  replace r1 := r1.only0 o4
  replace r2 := r2.only0 o4
  go_wp2_with fail
  (with_reducible refine (scale_new (zs := eachS (fun a b => gadd a (gmul c b)) [] B) (L := m) LB.out (by omega) (marks_take LB.out r2) rfl l2.out).mono ?_)
  rintro e w5 ⟨gt, rfl, hgt, rt, o5⟩
  have y5 := rt.lt
  replace hx := hx.only0 o5
  replace hy := hy.only0 o5
  replace r1 := r1.only0 o5
  replace r2 := r2.only0 o5
  replace rs := rs.only0 o5
  go_wp2_with fail
  (with_reducible refine (addScaled_new (zs := eachS (fun a b => gadd a (gmul c b)) A B) (L := L) LA.out LB.out (by omega) (by omega) (marks_take LA.out r1) (marks_take LB.out r2) rfl l3.out).mono ?_)
  rintro e w6 ⟨gu, rfl, hgu, ru, o6⟩
  replace hx := hx.only0 o6
  replace hy := hy.only0 o6
  replace r1 := r1.only0 o6
  replace r2 := r2.only0 o6
  replace rs := rs.only0 o6
  replace rt := rt.only0 o6
  have z1 := o1.size
  have z2 := o2.size
  have z3 := o3.size
  have z4 := o4.size
  have z5 := o5.size
  have z6 := o6.size
  have d1 : w.heap.size ≤ gs := by omega
  have d2 : w.heap.size ≤ gt := by omega
  have d3 : w.heap.size ≤ gu := by omega
  have d4 : gs < gt := by omega
  have d5 : gt < gu := by omega
  have d6 : g1 < gs := by omega
  have d7 : g2 < gs := by omega
  have oo : Only [] w w6 := ((((o1.trans0 o2).trans0 o3).trans0 o4).trans0 o5).trans0 o6
  clear z1 z2 z3 z4 z5 z6 o1 o2 o3 o4 o5 o6 hg1 hg2 hgs hgt hgu y4 y5 y1 y2
  go_wp2_with fail
  -- <<r7
  refine wp_region_rg2 (Only []) [[(7, none)], [(8, none)], [(28, some 1), (29, some 0)], [(0, none)], [(1, none)], [(31, some 1), (32, some 0)], [(30, some 3), (33, some 0)], [(34, some 0)], [(35, some 0), (9, none)], [(35, some 1), (36, some 0)], [(35, some 2), (0, none)], [(35, some 3), (1, none)], [(35, some 4), (38, some 1), (39, some 0)], [(35, some 5), (40, some 0)], [(35, some 6), (37, some 4), (41, some 0)], [(35, some 7), (42, some 0)], [(43, some 0)], [(44, some 0), (10, none)], [(44, some 1), (45, some 0)], [(44, some 2), (2, none)], [(44, some 3), (1, none)], [(44, some 4), (47, some 1), (48, some 0)], [(44, some 5), (49, some 0)], [(44, some 6), (46, some 4), (50, some 0)], [(44, some 7), (51, some 0)], [(52, some 0)], [(53, some 0), (11, none)], [(53, some 1), (54, some 0)], [(53, some 2), (0, none)], [(53, some 3), (2, none)], [(53, some 4), (1, none)], [(53, some 5), (56, some 2), (57, some 1), (58, some 0)], [(53, some 6), (59, some 0)], [(53, some 7), (55, some 5), (60, some 0)], [(53, some 8), (61, some 0)]] [(62, 0)] [none, none, none, none, none, none, none, none, none, none, none, none, none, none, none, none, none, none, none, none, none, none, none, none, none, none, none, none, some 28, some 29, some 30, some 31, some 32, some 33, some 34, some 35, some 36, some 37, some 38, some 39, some 40, some 41, some 42, some 43, some 44, some 45, some 46, some 47, some 48, some 49, some 50, some 51, some 52, some 53, some 54, some 55, some 56, some 57, some 58, some 59, some 60, some 61, some 62, none, none, none, none, none, none, none, none, none, none, none, none, none, none, none, none, none, none, none, none, none, none, none] (by kernel_rfl) rfl (by kernel_rfl) (fun _ => Only.refl _ _) (fun _ _ _ h k => h.trans0 k) (Only.drew _) (by kernel_rfl) ?_
  -- 0: s28 := move t7
  apply rg_ev
  · intro a w hR hf
    obtain ⟨e7, -⟩ := hf
    replace e7 : a.tmps.getD 7 undef = _ := e7
    refine rg_plain rfl fun K hK => ?_
    go_simp
    exact hK _ _ rfl (Only.refl _ _)
  -- 1: s29 := move t8
  apply rg_ev
  · intro a w hR hf
    obtain ⟨e8, -⟩ := hf
    replace e8 : a.tmps.getD 8 undef = _ := e8
    refine rg_plain rfl fun K hK => ?_
    go_simp
    exact hK _ _ rfl (Only.refl _ _)
  -- 2: s30 := call { value (Operand.func 17), args := #[t28, t29], #[33, 33] }
  apply rg_ev
  · intro a w hR hf
    obtain ⟨e28, e29, -⟩ := hf
    replace e28 : a.tmps.getD 28 undef = _ := e28
    replace e29 : a.tmps.getD 29 undef = _ := e29
    refine rg_plain rfl fun K hK => ?_
    go_simp
    (with_reducible refine (dot_at (z := gdot A B) LA.out LB.out (by omega) (by omega) ((marks_take LA.out r1).only0 hR) ((marks_take LB.out r2).only0 hR) rfl).mono ?_)
    rintro e w' ⟨rfl, h⟩
    exact hK _ _ rfl h.only
  -- 3: s31 := move t0
  apply rg_ev
  · intro a w hR hf
    obtain ⟨e0, -⟩ := hf
    replace e0 : a.tmps.getD 0 undef = _ := e0
    refine rg_plain rfl fun K hK => ?_
    go_simp
    exact hK _ _ rfl (Only.refl _ _)
  -- 4: s32 := move t1
  apply rg_ev
  · intro a w hR hf
    obtain ⟨e1, -⟩ := hf
    replace e1 : a.tmps.getD 1 undef = _ := e1
    refine rg_plain rfl fun K hK => ?_
    go_simp
    exact hK _ _ rfl (Only.refl _ _)
  -- 5: s33 := call { value (Operand.func 28), args := #[t31, t32], #[33, 33] }
  apply rg_ev
  · intro a w hR hf
    obtain ⟨e31, e32, -⟩ := hf
    replace e31 : a.tmps.getD 31 undef = _ := e31
    replace e32 : a.tmps.getD 32 undef = _ := e32
    refine rg_plain rfl fun K hK => ?_
    go_simp
    (with_reducible refine (refDot_any p q A B n m cp cq _ LA.out LB.out (by omega) (by omega) (hx.only0 hR) (hy.only0 hR)).mono ?_)
    rintro e w' ⟨rfl, h⟩
    exact hK _ _ rfl h.only
  -- 6: s34 := binOp Binneq 5 t30 t33 5
  apply rg_ev
  · intro a w hR hf
    obtain ⟨e30, e33, -⟩ := hf
    replace e30 : a.tmps.getD 30 undef = _ := e30
    replace e33 : a.tmps.getD 33 undef = _ := e33
    refine rg_plain rfl fun K hK => ?_
    go_simp
    exact hK _ _ rfl (Only.refl _ _)
  -- 7: s35 := move t34
  apply rg_ev
  · intro a w hR hf
    obtain ⟨e34, -⟩ := hf
    replace e34 : a.tmps.getD 34 undef = _ := e34
    refine rg_plain rfl fun K hK => ?_
    go_simp
    exact hK _ _ rfl (Only.refl _ _)
  -- 8: s36 := move t9 [if 7=false]
  apply rg_ev
  · intro a w hR hf
    obtain ⟨e35, e9, -⟩ := hf
    replace e35 : a.tmps.getD 35 undef = _ := e35
    replace e9 : a.tmps.getD 9 undef = _ := e9
    refine rg_want rfl rfl e35 fun K hK => ?_
    clear e35
    go_simp
    exact hK _ _ rfl (Only.refl _ _)
  -- 9: s37 := convert 33 9 t36 [if 7=false]
  apply rg_ev
  · intro a w hR hf
    obtain ⟨e35, e36, -⟩ := hf
    replace e35 : a.tmps.getD 35 undef = _ := e35
    replace e36 : a.tmps.getD 36 undef = _ := e36
    refine rg_want rfl rfl e35 fun K hK => ?_
    clear e35
    have hc := conv_bytes (P := Try.prog) (c := L) w Try.underlying33 Try.underlying5 Try.underlying9 (rs.rd0.only0 hR) l1.out (by simp)
    go_simp
    exact hK _ _ rfl (Only.refl _ _)
  -- 10: s38 := move t0 [if 7=false]
  apply rg_ev
  · intro a w hR hf
    obtain ⟨e35, e0, -⟩ := hf
    replace e35 : a.tmps.getD 35 undef = _ := e35
    replace e0 : a.tmps.getD 0 undef = _ := e0
    refine rg_want rfl rfl e35 fun K hK => ?_
    clear e35
    go_simp
    exact hK _ _ rfl (Only.refl _ _)
  -- 11: s39 := move t1 [if 7=false]
  apply rg_ev
  · intro a w hR hf
    obtain ⟨e35, e1, -⟩ := hf
    replace e35 : a.tmps.getD 35 undef = _ := e35
    replace e1 : a.tmps.getD 1 undef = _ := e1
    refine rg_want rfl rfl e35 fun K hK => ?_
    clear e35
    go_simp
    exact hK _ _ rfl (Only.refl _ _)
  -- 12: s40 := call { value (Operand.func 29), args := #[t38, const (1:u8), t39], #[33, 5, 33] } [if 7=false]
  refine ⟨IsB (eachS gadd A B) L, IsB.stable _ _, fun a w hR hf => ?_, ?_⟩
  · obtain ⟨e35, e38, e39, -⟩ := hf
    replace e35 : a.tmps.getD 35 undef = _ := e35
    replace e38 : a.tmps.getD 38 undef = _ := e38
    replace e39 : a.tmps.getD 39 undef = _ := e39
    refine rg_want rfl rfl e35 fun K hK => ?_
    clear e35
    go_simp
    (with_reducible refine (refAddScaled_at (x := 1) (zs := eachS gadd A B) (L := L) (by decide +kernel) LA.out LB.out (by omega) (by omega) (hx.only0 hR) (hy.only0 hR) (one_scaled A B) l1.out).mono ?_)
    rintro e w' ⟨v, rfl, h, o⟩
    exact hK _ _ h o
  -- 13: s41 := convert 33 9 t40 [if 7=false]
  apply rg_ev
  · intro a w hR hf
    obtain ⟨e35, e40, -⟩ := hf
    replace e35 : a.tmps.getD 35 undef = _ := e35
    replace e40 : IsB (eachS gadd A B) L (a.tmps.getD 40 undef) w := e40
    refine rg_want rfl rfl e35 fun K hK => ?_
    clear e35
    obtain ⟨l40, p40, k40, e40, r40, n40⟩ := e40
    have hc := conv_bytes (P := Try.prog) w Try.underlying33 Try.underlying5 Try.underlying9 r40 l40 n40
    clear l40 n40
    go_simp
    exact hK _ _ rfl (Only.refl _ _)
  -- 14: s42 := binOp Binneq 9 t37 t41 9 [if 7=false]
  apply rg_ev
  · intro a w hR hf
    obtain ⟨e35, e37, e41, -⟩ := hf
    replace e35 : a.tmps.getD 35 undef = _ := e35
    replace e37 : a.tmps.getD 37 undef = _ := e37
    replace e41 : a.tmps.getD 41 undef = _ := e41
    refine rg_want rfl rfl e35 fun K hK => ?_
    clear e35
    go_simp
    exact hK _ _ rfl (Only.refl _ _)
  -- 15: s43 := pick t35 (const (Value.bool true)) t42
  apply rg_ev
  · intro a w hR hf
    obtain ⟨e35, e42, -⟩ := hf
    replace e35 : a.tmps.getD 35 undef = _ := e35
    replace e42 : a.tmps.getD 42 undef = _ := e42
    refine rg_plain rfl fun K hK => ?_
    go_simp
    exact hK _ _ rfl (Only.refl _ _)
  -- 16: s44 := move t43
  apply rg_ev
  · intro a w hR hf
    obtain ⟨e43, -⟩ := hf
    replace e43 : a.tmps.getD 43 undef = _ := e43
    refine rg_plain rfl fun K hK => ?_
    go_simp
    exact hK _ _ rfl (Only.refl _ _)
  -- 17: s45 := move t10 [if 16=false]
  apply rg_ev
  · intro a w hR hf
    obtain ⟨e44, e10, -⟩ := hf
    replace e44 : a.tmps.getD 44 undef = _ := e44
    replace e10 : a.tmps.getD 10 undef = _ := e10
    refine rg_want rfl rfl e44 fun K hK => ?_
    clear e44
    go_simp
    exact hK _ _ rfl (Only.refl _ _)
  -- 18: s46 := convert 33 9 t45 [if 16=false]
  apply rg_ev
  · intro a w hR hf
    obtain ⟨e44, e45, -⟩ := hf
    replace e44 : a.tmps.getD 44 undef = _ := e44
    replace e45 : a.tmps.getD 45 undef = _ := e45
    refine rg_want rfl rfl e44 fun K hK => ?_
    clear e44
    have hc := conv_bytes (P := Try.prog) (c := m) w Try.underlying33 Try.underlying5 Try.underlying9 (rt.rd0.only0 hR) l2.out (by simp)
    go_simp
    exact hK _ _ rfl (Only.refl _ _)
  -- 19: s47 := move t2 [if 16=false]
  apply rg_ev
  · intro a w hR hf
    obtain ⟨e44, e2, -⟩ := hf
    replace e44 : a.tmps.getD 44 undef = _ := e44
    replace e2 : a.tmps.getD 2 undef = _ := e2
    refine rg_want rfl rfl e44 fun K hK => ?_
    clear e44
    go_simp
    exact hK _ _ rfl (Only.refl _ _)
  -- 20: s48 := move t1 [if 16=false]
  apply rg_ev
  · intro a w hR hf
    obtain ⟨e44, e1, -⟩ := hf
    replace e44 : a.tmps.getD 44 undef = _ := e44
    replace e1 : a.tmps.getD 1 undef = _ := e1
    refine rg_want rfl rfl e44 fun K hK => ?_
    clear e44
    go_simp
    exact hK _ _ rfl (Only.refl _ _)
  -- 21: s49 := call { value (Operand.func 29), args := #[const (Value.slice none 0 0), t47, t48], #[33, 5, 33] } [if 16=false]
  refine ⟨IsB (eachS (fun a b => gadd a (gmul c b)) [] B) m, IsB.stable _ _, fun a w hR hf => ?_, ?_⟩
  · obtain ⟨e44, e47, e48, -⟩ := hf
    replace e44 : a.tmps.getD 44 undef = _ := e44
    replace e47 : a.tmps.getD 47 undef = _ := e47
    replace e48 : a.tmps.getD 48 undef = _ := e48
    refine rg_want rfl rfl e44 fun K hK => ?_
    clear e44
    go_simp
    (with_reducible refine (refAddScaled_at (x := c) (xs := []) (n := 0) (zs := eachS (fun a b => gadd a (gmul c b)) [] B) (L := m) rfl rfl LB.out (by simp) (by omega) (Rd.nil _ _) (hy.only0 hR) rfl l2.out).mono ?_)
    rintro e w' ⟨v, rfl, h, o⟩
    exact hK _ _ h o
  -- 22: s50 := convert 33 9 t49 [if 16=false]
  apply rg_ev
  · intro a w hR hf
    obtain ⟨e44, e49, -⟩ := hf
    replace e44 : a.tmps.getD 44 undef = _ := e44
    replace e49 : IsB (eachS (fun a b => gadd a (gmul c b)) [] B) m (a.tmps.getD 49 undef) w := e49
    refine rg_want rfl rfl e44 fun K hK => ?_
    clear e44
    obtain ⟨l49, p49, k49, e49, r49, n49⟩ := e49
    have hc := conv_bytes (P := Try.prog) w Try.underlying33 Try.underlying5 Try.underlying9 r49 l49 n49
    clear l49 n49
    go_simp
    exact hK _ _ rfl (Only.refl _ _)
  -- 23: s51 := binOp Binneq 9 t46 t50 9 [if 16=false]
  apply rg_ev
  · intro a w hR hf
    obtain ⟨e44, e46, e50, -⟩ := hf
    replace e44 : a.tmps.getD 44 undef = _ := e44
    replace e46 : a.tmps.getD 46 undef = _ := e46
    replace e50 : a.tmps.getD 50 undef = _ := e50
    refine rg_want rfl rfl e44 fun K hK => ?_
    clear e44
    go_simp
    exact hK _ _ rfl (Only.refl _ _)
  -- 24: s52 := pick t44 (const (Value.bool true)) t51
  apply rg_ev
  · intro a w hR hf
    obtain ⟨e44, e51, -⟩ := hf
    replace e44 : a.tmps.getD 44 undef = _ := e44
    replace e51 : a.tmps.getD 51 undef = _ := e51
    refine rg_plain rfl fun K hK => ?_
    go_simp
    exact hK _ _ rfl (Only.refl _ _)
  -- 25: s53 := move t52
  apply rg_ev
  · intro a w hR hf
    obtain ⟨e52, -⟩ := hf
    replace e52 : a.tmps.getD 52 undef = _ := e52
    refine rg_plain rfl fun K hK => ?_
    go_simp
    exact hK _ _ rfl (Only.refl _ _)
  -- 26: s54 := move t11 [if 25=false]
  apply rg_ev
  · intro a w hR hf
    obtain ⟨e53, e11, -⟩ := hf
    replace e53 : a.tmps.getD 53 undef = _ := e53
    replace e11 : a.tmps.getD 11 undef = _ := e11
    refine rg_want rfl rfl e53 fun K hK => ?_
    clear e53
    go_simp
    exact hK _ _ rfl (Only.refl _ _)
  -- 27: s55 := convert 33 9 t54 [if 25=false]
  apply rg_ev
  · intro a w hR hf
    obtain ⟨e53, e54, -⟩ := hf
    replace e53 : a.tmps.getD 53 undef = _ := e53
    replace e54 : a.tmps.getD 54 undef = _ := e54
    refine rg_want rfl rfl e53 fun K hK => ?_
    clear e53
    have hc := conv_bytes (P := Try.prog) (c := L) w Try.underlying33 Try.underlying5 Try.underlying9 (ru.rd0.only0 hR) l3.out (by simp)
    go_simp
    exact hK _ _ rfl (Only.refl _ _)
  -- 28: s56 := move t0 [if 25=false]
  apply rg_ev
  · intro a w hR hf
    obtain ⟨e53, e0, -⟩ := hf
    replace e53 : a.tmps.getD 53 undef = _ := e53
    replace e0 : a.tmps.getD 0 undef = _ := e0
    refine rg_want rfl rfl e53 fun K hK => ?_
    clear e53
    go_simp
    exact hK _ _ rfl (Only.refl _ _)
  -- 29: s57 := move t2 [if 25=false]
  apply rg_ev
  · intro a w hR hf
    obtain ⟨e53, e2, -⟩ := hf
    replace e53 : a.tmps.getD 53 undef = _ := e53
    replace e2 : a.tmps.getD 2 undef = _ := e2
    refine rg_want rfl rfl e53 fun K hK => ?_
    clear e53
    go_simp
    exact hK _ _ rfl (Only.refl _ _)
  -- 30: s58 := move t1 [if 25=false]
  apply rg_ev
  · intro a w hR hf
    obtain ⟨e53, e1, -⟩ := hf
    replace e53 : a.tmps.getD 53 undef = _ := e53
    replace e1 : a.tmps.getD 1 undef = _ := e1
    refine rg_want rfl rfl e53 fun K hK => ?_
    clear e53
    go_simp
    exact hK _ _ rfl (Only.refl _ _)
  -- 31: s59 := call { value (Operand.func 29), args := #[t56, t57, t58], #[33, 5, 33] } [if 25=false]
  refine ⟨IsB (eachS (fun a b => gadd a (gmul c b)) A B) L, IsB.stable _ _, fun a w hR hf => ?_, ?_⟩
  · obtain ⟨e53, e56, e57, e58, -⟩ := hf
    replace e53 : a.tmps.getD 53 undef = _ := e53
    replace e56 : a.tmps.getD 56 undef = _ := e56
    replace e57 : a.tmps.getD 57 undef = _ := e57
    replace e58 : a.tmps.getD 58 undef = _ := e58
    refine rg_want rfl rfl e53 fun K hK => ?_
    clear e53
    go_simp
    (with_reducible refine (refAddScaled_at (x := c) (zs := eachS (fun a b => gadd a (gmul c b)) A B) (L := L) rfl LA.out LB.out (by omega) (by omega) (hx.only0 hR) (hy.only0 hR) rfl l3.out).mono ?_)
    rintro e w' ⟨v, rfl, h, o⟩
    exact hK _ _ h o
  -- 32: s60 := convert 33 9 t59 [if 25=false]
  apply rg_ev
  · intro a w hR hf
    obtain ⟨e53, e59, -⟩ := hf
    replace e53 : a.tmps.getD 53 undef = _ := e53
    replace e59 : IsB (eachS (fun a b => gadd a (gmul c b)) A B) L (a.tmps.getD 59 undef) w := e59
    refine rg_want rfl rfl e53 fun K hK => ?_
    clear e53
    obtain ⟨l59, p59, k59, e59, r59, n59⟩ := e59
    have hc := conv_bytes (P := Try.prog) w Try.underlying33 Try.underlying5 Try.underlying9 r59 l59 n59
    clear l59 n59
    go_simp
    exact hK _ _ rfl (Only.refl _ _)
  -- 33: s61 := binOp Binneq 9 t55 t60 9 [if 25=false]
  apply rg_ev
  · intro a w hR hf
    obtain ⟨e53, e55, e60, -⟩ := hf
    replace e53 : a.tmps.getD 53 undef = _ := e53
    replace e55 : a.tmps.getD 55 undef = _ := e55
    replace e60 : a.tmps.getD 60 undef = _ := e60
    refine rg_want rfl rfl e53 fun K hK => ?_
    clear e53
    go_simp
    exact hK _ _ rfl (Only.refl _ _)
  -- 34: s62 := pick t53 (const (Value.bool true)) t61
  apply rg_ev
  · intro a w hR hf
    obtain ⟨e53, e61, -⟩ := hf
    replace e53 : a.tmps.getD 53 undef = _ := e53
    replace e61 : a.tmps.getD 61 undef = _ := e61
    refine rg_plain rfl fun K hK => ?_
    go_simp
    exact hK _ _ rfl (Only.refl _ _)
  intro f7 w7 hR7 hf
  dsimp only [mergeT]
  obtain ⟨e62, -⟩ := hf
  replace e62 : f7 62 = _ := e62
  rw [e62]
  -- r7>>
  replace r1 := r1.only0 hR7
  replace r2 := r2.only0 hR7
  replace rs := rs.only0 hR7
  replace rt := rt.only0 hR7
  replace ru := ru.only0 hR7
  replace oo := oo.trans0 hR7
  clear hx hy hR7 e62
  go_wp2_with fail
  (with_reducible refine (apart_any (some ⟨gs, 0, none⟩) _ _ L L gt m m _ l1.out (by simp) rs.rd0 (by simp; omega) rt l2.out (by omega) (by omega)).mono ?_)
  rintro e w8 ⟨rfl, o8, ts, hts, rts⟩
  replace r1 := r1.only o8 (by simp; omega)
  replace r2 := r2.only o8 (by simp; omega)
  replace rs := rs.only o8 (by simp; omega)
  replace ru := ru.only o8 (by simp; omega)
  replace oo : Only [] w w8 := oo.transN o8 (by simp; omega)
  have Hts := Lib.hid hts
  clear o8 rt hts
  go_wp2_with fail
  (with_reducible refine (apart_any (some ⟨gt, 0, none⟩) ts _ m m gu L L _ Hts.out (by simp) rts.rd0 (by simp; omega) ru l3.out (by omega) (by omega)).mono ?_)
  rintro e w9 ⟨rfl, o9, us, hus, rus⟩
  replace r1 := r1.only o9 (by simp; omega)
  replace r2 := r2.only o9 (by simp; omega)
  replace rs := rs.only o9 (by simp; omega)
  replace oo : Only [] w w9 := oo.transN o9 (by simp; omega)
  have Hus := Lib.hid hus
  clear o9 ru hus rts
  go_wp2_with fail
  (with_reducible refine (apart_any (some ⟨gu, 0, none⟩) us _ L L gs L L _ Hus.out (by simp) rus.rd0 (by simp; omega) rs l1.out (by omega) (by omega)).mono ?_)
  rintro e w10 ⟨rfl, o10, vs, hvs, rvs⟩
  replace r1 := r1.only o10 (by simp; omega)
  replace r2 := r2.only o10 (by simp; omega)
  replace oo : Only [] w w10 := oo.transN o10 (by simp; omega)
  clear o10 rs rus hvs rvs
  go_wp2_with fail
  (with_reducible refine (kept_any g1 p A n cp n _ LA.out bn Hp.out (by omega) r1 (hx0.only0 oo)).mono ?_)
  rintro e w11 ⟨rfl, h11⟩
  replace r2 := r2.only0 h11.only
  replace oo := oo.trans0 h11.only
  clear h11 r1
  go_wp2_with fail
  (with_reducible refine (kept_any g2 q B m cq m _ LB.out bm Hq.out (by omega) r2 (hy0.only0 oo)).mono ?_)
  rintro e w12 ⟨rfl, h12⟩
  go_wp2_with fail
  go_ret
  exact ⟨rfl, oo.trans0 h12.only⟩
end Go.Proofs.Ytkhccchjflmcmaa
