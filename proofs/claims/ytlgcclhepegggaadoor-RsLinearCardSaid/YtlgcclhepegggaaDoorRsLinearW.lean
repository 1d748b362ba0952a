/- The walk of bollardlaw02.RsLinear. -/
import Derived.Test.YtlgcclhepegggaaDoorRsRefEncW
set_option linter.unusedVariables false
set_option maxRecDepth 100000
namespace Go.Proofs.YtlgcclhepegggaaDoor
open Go.RowKit

/-- lists and no error -/
def EncT (E : List (List UInt8)) (n : Nat) : Value → World → Prop := fun v w => ∃ q c, v = .tuple #[.slice q n c, .nilIface] ∧ Lists w q E
theorem EncT.stable (E : List (List UInt8)) (n : Nat) : Stable (Only []) (EncT E n) := fun _ _ _ ⟨q, c, e, h⟩ ho => ⟨q, c, e, h.only0 ho⟩
def LstS (E : List (List UInt8)) (n : Nat) : Value → World → Prop := fun v w => ∃ q c, v = .slice q n c ∧ Lists w q E
theorem LstS.stable (E : List (List UInt8)) (n : Nat) : Stable (Only []) (LstS E n) := fun _ _ _ ⟨q, c, e, h⟩ ho => ⟨q, c, e, h.only0 ho⟩
theorem encT_at {E : List (List UInt8)} {n : Nat} {v : Value} {w : World} (h : EncT E n v w) : True := trivial

set_option maxHeartbeats 8000000 in
theorem rsLinear_any (k m : Int) (p1 p2 : Option Addr) (xs ys : List UInt8) (n1 c1 n2 c2 : Nat) (p3 : Option Addr) (n3 c3 : Nat) (w0 : World) (aD : Addr) (hk : -9223372036854775808 ≤ k ∧ k ≤ 9223372036854775807) (hm : -9223372036854775808 ≤ m ∧ m ≤ 9223372036854775807)
    (hn1 : xs.length = n1) (hb1 : n1 ≤ 140737488351232) (hc1 : n1 ≤ c1) (hd1 : c1 ≤ 140737488351232) (hp1 : p1 = none → n1 = 0 ∧ c1 = 0) (hx1 : Rd w0 p1 (u8s xs))
    (hn2 : ys.length = n2) (hb2 : n2 ≤ 140737488351232) (hc2 : n2 ≤ c2) (hd2 : c2 ≤ 140737488351232) (hp2 : p2 = none → n2 = 0 ∧ c2 = 0) (hx2 : Rd w0 p2 (u8s ys)) (eD : ErrAt w0 1 aD) :
    Calls Tryd.prog 8 #[.agg #[.int .i64 k, .int .i64 m, .slice p1 n1 c1, .slice p2 n2 c2, .slice p3 n3 c3]] w0 fun e w' => e = .returned (.bool true) ∧ Only [] w0 w' := by
  have hal := fun (w : World) (ho : Only [] w0 w) => alive02_any w aD (eD.only0 ho)
  obtain ⟨M, hM⟩ : ∃ M, M = min n1 n2 := ⟨_, rfl⟩
  obtain ⟨N, hN⟩ : ∃ N, N = min M 1024 := ⟨_, rfl⟩
  have hmin1 : (if n2 < n1 then (n2 : Int) else (n1 : Int)) = (M : Int) := by rw [hM]; split <;> congr 1 <;> omega
  have hmin2 : (if (1024 : Int) < (M : Int) then (1024 : Int) else (M : Int)) = (N : Int) := by rw [hN]; split <;> omega
  have hN1 : N ≤ n1 := by omega
  have hN2 : N ≤ n2 := by omega
  have hN3 : N ≤ 1024 := by omega
  clear hM hN
  have hHx1 := Lib.hid hx1
  have hHx2 := Lib.hid hx2
  have Hn1 := Lib.hid hn1
  have Hn2 := Lib.hid hn2
  have Hp1 := Lib.hid hp1
  have Hp2 := Lib.hid hp2
  have Hal := Lib.hid hal
  clear eD hx1 hx2 hal hn1 hn2 hp1 hp2
  obtain ⟨w1, hw1⟩ : ∃ w1, w1 = w0.alloc (.cells #[.int .i64 k, .int .i64 m, .slice p1 n1 c1, .slice p2 n2 c2, .slice p3 n3 c3] 73) := ⟨_, rfl⟩
  have o1 : Only [] w0 w1 := by rw [hw1]; exact Only.alloc _ _
  have r1 : Row w1 w0.heap.size 73 [.int .i64 k, .int .i64 m, .slice p1 n1 c1, .slice p2 n2 c2, .slice p3 n3 c3] := by rw [hw1]; exact Row.newOf _ _ _ _ rfl
  have HO1 := Lib.hid o1
  have HR1 := Lib.hid r1
  clear o1 r1
  go_enter Tryd.func8, Tryd.ntmps8
  go_wp2_with fail
  rw [← hw1]
  clear hw1
  (with_reducible refine (Hal.out w1 HO1.out).mono ?_)
  rintro e w2 ⟨rfl, o2⟩
  have HO2 := Lib.hid (HO1.out.trans0 o2)
  have r2 := HR1.out.only0 o2
  generalize hB : w0.heap.size = B at r2
  have hBlt := r2.lt
  have hb0 := r2.cell (i := 0) rfl
  have hb1' := r2.cell (i := 1) rfl
  have hb2' := r2.cell (i := 2) rfl
  have hb3 := r2.cell (i := 3) rfl
  have HBw : Hid (w0.heap.size ≤ B) := Lib.hid (by omega)
  clear o2 r2 HR1 hB Hal
  have hrl := refLegal_any k m hk hm w2
  cases hl : legal k m with
  | false =>
    rw [hl] at hrl
    clear hl
    go_wp2_with fail
    (with_reducible refine (hrl).mono ?_)
    rintro e w' ⟨rfl, rfl⟩
    go_wp2_with fail
    go_ret
    exact ⟨rfl, HO2.out⟩
  | true =>
  rw [hl] at hrl
  have Hl := Lib.hid hl
  obtain ⟨l1, l2, l3⟩ := legal_iff.1 hl
  clear hl
  obtain ⟨k, rfl⟩ : ∃ t : Nat, k = t := ⟨k.toNat, by omega⟩
  obtain ⟨m, rfl⟩ : ∃ t : Nat, m = t := ⟨m.toNat, by omega⟩
  -- the sum
  obtain ⟨T, hT⟩ : ∃ T, T = xorL (xs.take N) (ys.take N) := ⟨_, rfl⟩
  have hxl : (xs.take N).length = N := by rw [List.length_take, Hn1.out]; omega
  have hyl : (ys.take N).length = N := by rw [List.length_take, Hn2.out]; omega
  have hTl : T.length = N := by rw [hT]; exact xorL_len hxl hyl
  have HT := Lib.hid hT
  have HTl := Lib.hid hTl
  have Hxl := Lib.hid hxl
  have Hyl := Lib.hid hyl
  obtain ⟨g, w3, hmk, hg, hr, ho⟩ := make_row (P := Tryd.prog) (bytes := 1) w2 Tryd.underlying27 Tryd.infoU8 rfl .i64 .i64 N N (Nat.le_refl _) (by omega) (by omega)
  have R := Lib.hid (show Row w3 g 5 (u8s (upL T N 0)) by rw [upL_zero, u8s_replicate]; exact hr)
  have HO3 := Lib.hid (HO2.out.trans0 ho)
  have hb0a := ho.cell hb0 (by simp)
  have hb1a := ho.cell hb1' (by simp)
  have hb2a := ho.cell hb2' (by simp)
  have hb3a := ho.cell hb3 (by simp)
  have Hbg : Hid (B ≠ g) := Lib.hid (by omega)
  have Hgb : Hid (w0.heap.size ≤ g) := Lib.hid (Nat.le_trans HO2.out.size hg)
  clear hT hxl hyl hTl hr ho hg hBlt
  go_wp2_with fail
  (with_reducible refine (hrl).mono ?_)
  rintro e w' ⟨rfl, rfl⟩
  go_wp2_with fail
  clear hrl hmin1 hmin2 hk hm hmk hb0 hb1' hb2' hb3
  have Hrx : Hid (Rd w3 p1 (u8s xs)) := Lib.hid (hHx1.out.only0 HO3.out)
  have Hry : Hid (Rd w3 p2 (u8s ys)) := Lib.hid (hHx2.out.only0 HO3.out)
  go_loopw [33] (fun x wr => ∃ i : Nat, x = .int .i64 (i : Int) ∧ i ≤ N ∧ Hid (Row wr g 5 (u8s (upL T N i))) ∧ Hid (Only [g] w3 wr)) (fun x _ => N - (intOf x).toNat)
  case atStart => exact ⟨0, rfl, Nat.zero_le _, R, Lib.hid (Only.refl _ _)⟩
  case round =>
    clear R
    obtain ⟨i, rfl, hi, R, HO⟩ := hrel
    by_cases hlt : i < N
    · have hiN : (i : Int) < (N : Int) := by omega
      obtain ⟨x, hx⟩ : ∃ x, xs[i]? = some x := ⟨_, List.getElem?_eq_getElem (by rw [Hn1.out]; omega)⟩
      obtain ⟨y, hy⟩ : ∃ y, ys[i]? = some y := ⟨_, List.getElem?_eq_getElem (by rw [Hn2.out]; omega)⟩
      obtain ⟨bx, ox, rfl, hcx0⟩ := u8_at (hHx1.out) hx
      obtain ⟨by_, oy, rfl, hcy0⟩ := u8_at (hHx2.out) hy
      have nx : bx ≠ g := by have := World.block_lt_of_cell? w0 _ hcx0; have := Hgb.out; dsimp only at *; omega
      have ny : by_ ≠ g := by have := World.block_lt_of_cell? w0 _ hcy0; have := Hgb.out; dsimp only at *; omega
      have hcx := HO.out.cell (HO3.out.cell hcx0 (by simp)) (by simpa using nx)
      have hcy := HO.out.cell (HO3.out.cell hcy0 (by simp)) (by simpa using ny)
      have hb2 := HO.out.cell hb2a (by simpa using Hbg.out)
      have hb3 := HO.out.cell hb3a (by simpa using Hbg.out)
      obtain ⟨hget0, hset⟩ := upL_step HTl.out hlt
      have hty : T.getD i 0 = x ^^^ y := by
        rw [HT.out, xorL_getD Hxl.out Hyl.out, List.getD_eq_getElem?_getD, List.getD_eq_getElem?_getD, List.getElem?_take, List.getElem?_take, if_pos hlt, if_pos hlt, hx, hy]; rfl
      rw [hty] at hset
      have Hset := Lib.hid hset
      have Hget : Hid ((u8s (upL T N i))[i]? = some (.int .u8 0)) := Lib.hid (by unfold u8s; rw [List.getElem?_map, hget0]; rfl)
      clear hx hy hcx0 hcy0 hget0 hset hty
      go_wp2_with fail
      have hRr : ∀ a, Only [g] a a := fun a => Only.refl _ _
      have hRt : ∀ a b e, Only [g] a b → Only [g] b e → Only [g] a e := fun a b e h h2 => h.trans h2 (fun i hi _ => hi)
      have hRd : Only [g] wr wr.drew := (Only.drew _).mono (by simp)
      have hC0 : ∀ d ∈ [14], (fun (_ : Nat) (a : World) => Row a g 5 (u8s (upL T N i))) d wr.drew := fun _ _ => R.out.only0 (Only.drew _)
      -- <<R10
      refine wp_region_rg4 (Only [g]) (Dirt [(14, [g])]) (fun (_ : Nat) (a : World) => Row a g 5 (u8s (upL T N i))) [14] [[(4, none)], [(5, none)], [(1, none)], [(38, some 0)], [(5, none)], [(39, some 1), (40, some 0)], [(41, some 0)], [(1, none)], [(43, some 0)], [(5, none)], [(44, some 1), (45, some 0)], [(46, some 0)], [(42, some 5), (47, some 0)], [(36, some 12), (37, some 11)], [(49, some 0), (48, some 1)]] [] [none, none, none, none, none, none, none, none, none, none, none, none, none, none, none, none, none, none, none, none, none, none, none, none, none, none, none, none, none, none, none, none, none, none, none, none, some 36, some 37, some 38, some 39, some 40, some 41, some 42, some 43, some 44, some 45, some 46, some 47, some 48, some 49, none, none, none, none, none, none, none, none, none, none, none, none, none, none, none, none, none, none, none, none, none, none, none, none, none, none, none, none, none, none, none, none, none, none, none, none, none, none, none, none, none, none, none, none, none, none, none, none, none, none, none, none, none, none, none, none, none, none, none, none, none, none, none, none, none, none, none, none, none, none, none, none, none, none, none, none, none, none, none, none, none, none, none, none, none, none, none, none, none, none, none, none, none, none, none, none, none, none, none, none, none, none, none, none, none, none, none, none, none, none, none, none, none, none, none, none, none, none, none, none, none, none, none, none, none, none, none, none, none, none, none, none] (by kernel_rfl) rfl (by kernel_rfl) hRr hRt (fun _ _ => Only.refl _ _) hRd hC0 (by kernel_rfl) (by kernel_rfl) ?_
      -- 0: s36 := move t4
      apply rgd_ev
      · intro a w hR hC hf
        obtain ⟨e4, -⟩ := hf
        replace e4 : a.tmps.getD 4 undef = _ := e4
        refine rg_plain rfl fun K hK => ?_
        go_simp
        exact hK _ _ rfl ⟨hRr _, Only.refl _ _, fun _ _ _ _ h => h⟩
      -- 1: s37 := move t5
      apply rgd_ev
      · intro a w hR hC hf
        obtain ⟨e5, -⟩ := hf
        replace e5 : a.tmps.getD 5 undef = _ := e5
        refine rg_plain rfl fun K hK => ?_
        go_simp
        exact hK _ _ rfl ⟨hRr _, Only.refl _ _, fun _ _ _ _ h => h⟩
      -- 2: s38 := fieldAddr 73 t1 2
      apply rgd_ev
      · intro a w hR hC hf
        obtain ⟨e1, -⟩ := hf
        replace e1 : a.tmps.getD 1 undef = _ := e1
        refine rg_plain rfl fun K hK => ?_
        go_simp
        exact hK _ _ rfl ⟨hRr _, Only.refl _ _, fun _ _ _ _ h => h⟩
      -- 3: s39 := load 27 t38
      apply rgd_ev
      · intro a w hR hC hf
        obtain ⟨e38, -⟩ := hf
        replace e38 : a.tmps.getD 38 undef = _ := e38
        refine rg_plain rfl fun K hK => ?_
        have h3 := hR.cell hb2 (by simpa using Hbg.out)
        go_simp
        exact hK _ _ rfl ⟨hRr _, Only.refl _ _, fun _ _ _ _ h => h⟩
      -- 4: s40 := move t5
      apply rgd_ev
      · intro a w hR hC hf
        obtain ⟨e5, -⟩ := hf
        replace e5 : a.tmps.getD 5 undef = _ := e5
        refine rg_plain rfl fun K hK => ?_
        go_simp
        exact hK _ _ rfl ⟨hRr _, Only.refl _ _, fun _ _ _ _ h => h⟩
      -- 5: s41 := indexAddr 27 t39 t40
      apply rgd_ev
      · intro a w hR hC hf
        obtain ⟨e39, e40, -⟩ := hf
        replace e39 : a.tmps.getD 39 undef = _ := e39
        replace e40 : a.tmps.getD 40 undef = _ := e40
        refine rg_plain rfl fun K hK => ?_
        have hiN : (i : Int) < (n1 : Int) := by omega
        go_simp
        exact hK _ _ rfl ⟨hRr _, Only.refl _ _, fun _ _ _ _ h => h⟩
      -- 6: s42 := load 5 t41
      apply rgd_ev
      · intro a w hR hC hf
        obtain ⟨e41, -⟩ := hf
        replace e41 : a.tmps.getD 41 undef = _ := e41
        refine rg_plain rfl fun K hK => ?_
        have h6 := hR.cell hcx (by simpa using nx)
        go_simp
        exact hK _ _ rfl ⟨hRr _, Only.refl _ _, fun _ _ _ _ h => h⟩
      -- 7: s43 := fieldAddr 73 t1 3
      apply rgd_ev
      · intro a w hR hC hf
        obtain ⟨e1, -⟩ := hf
        replace e1 : a.tmps.getD 1 undef = _ := e1
        refine rg_plain rfl fun K hK => ?_
        go_simp
        exact hK _ _ rfl ⟨hRr _, Only.refl _ _, fun _ _ _ _ h => h⟩
      -- 8: s44 := load 27 t43
      apply rgd_ev
      · intro a w hR hC hf
        obtain ⟨e43, -⟩ := hf
        replace e43 : a.tmps.getD 43 undef = _ := e43
        refine rg_plain rfl fun K hK => ?_
        have h8 := hR.cell hb3 (by simpa using Hbg.out)
        go_simp
        exact hK _ _ rfl ⟨hRr _, Only.refl _ _, fun _ _ _ _ h => h⟩
      -- 9: s45 := move t5
      apply rgd_ev
      · intro a w hR hC hf
        obtain ⟨e5, -⟩ := hf
        replace e5 : a.tmps.getD 5 undef = _ := e5
        refine rg_plain rfl fun K hK => ?_
        go_simp
        exact hK _ _ rfl ⟨hRr _, Only.refl _ _, fun _ _ _ _ h => h⟩
      -- 10: s46 := indexAddr 27 t44 t45
      apply rgd_ev
      · intro a w hR hC hf
        obtain ⟨e44, e45, -⟩ := hf
        replace e44 : a.tmps.getD 44 undef = _ := e44
        replace e45 : a.tmps.getD 45 undef = _ := e45
        refine rg_plain rfl fun K hK => ?_
        have hiN : (i : Int) < (n2 : Int) := by omega
        go_simp
        exact hK _ _ rfl ⟨hRr _, Only.refl _ _, fun _ _ _ _ h => h⟩
      -- 11: s47 := load 5 t46
      apply rgd_ev
      · intro a w hR hC hf
        obtain ⟨e46, -⟩ := hf
        replace e46 : a.tmps.getD 46 undef = _ := e46
        refine rg_plain rfl fun K hK => ?_
        have h11 := hR.cell hcy (by simpa using ny)
        go_simp
        exact hK _ _ rfl ⟨hRr _, Only.refl _ _, fun _ _ _ _ h => h⟩
      -- 12: s48 := binOp Binxor 5 t42 t47 5
      apply rgd_ev
      · intro a w hR hC hf
        obtain ⟨e42, e47, -⟩ := hf
        replace e42 : a.tmps.getD 42 undef = _ := e42
        replace e47 : a.tmps.getD 47 undef = _ := e47
        refine rg_plain rfl fun K hK => ?_
        have hxr := u8_xor_u8 x y
        go_simp
        exact hK _ _ rfl ⟨hRr _, Only.refl _ _, fun _ _ _ _ h => h⟩
      -- 13: s49 := indexAddr 27 t36 t37
      apply rgd_ev
      · intro a w hR hC hf
        obtain ⟨e36, e37, -⟩ := hf
        replace e36 : a.tmps.getD 36 undef = _ := e36
        replace e37 : a.tmps.getD 37 undef = _ := e37
        refine rg_plain rfl fun K hK => ?_
        have hiN : (i : Int) < (N : Int) := by omega
        go_simp
        exact hK _ _ rfl ⟨hRr _, Only.refl _ _, fun _ _ _ _ h => h⟩
      -- 14: sNone := store 5 t49 t48
      refine ⟨fun _ a => Row a g 5 (u8s (upL T N (i + 1))), stands_of (fun _ _ _ h ho => h.only0 ho) (by intro x hx hk; obtain rfl := List.mem_singleton.1 hx; simp at hk), fun a w hR hC hf => ?_, ?_⟩
      · obtain ⟨e49, e48, -⟩ := hf
        replace e49 : a.tmps.getD 49 undef = _ := e49
        replace e48 : a.tmps.getD 48 undef = _ := e48
        refine rg_plain rfl fun K hK => ?_
        have hC14 := hC 14 (by simp) (by kernel_rfl)
        have hcc := hC14.cell Hget.out
        have hff := hC14.free i
        go_simp
        have hst : Only [g] w (w.setCell ⟨g, i, none⟩ (u8 (x ^^^ y))) := Only.setCell w ⟨g, i, none⟩ _
        rw [show (Value.int .u8 ((x.toNat ^^^ y.toNat : Nat) : Int)) = u8 (x ^^^ y) by rw [u8, UInt8.toNat_xor]]
        refine hK undef _ ?_ ⟨hst, hst, fun i hi hne ha _ => absurd (List.mem_singleton.1 hi) hne⟩
        have hrs := hC14.setCell i (u8 (x ^^^ y))
        rw [u8s_set, Hset.out] at hrs
        exact hrs
      intro f10 w10 hR10 hf hz10
      dsimp only [mergeT]
      -- R10>>
      obtain ⟨v14, r14⟩ := hz10 _ (List.mem_cons_self ..)
      have R2 := Lib.hid r14
      have HO10 := Lib.hid (HO.out.trans hR10 (fun i hi _ => hi))
      clear hz10 r14 hR10 hC0 hRt hRr hRd
      go_wp2_with fail
      exact ⟨⟨i + 1, by go_num, by omega, R2, HO10⟩, by simp [intOf]; omega⟩
    · obtain rfl : N = i := by omega
      have hiN : ¬ (N : Int) < (N : Int) := by omega
      have hro := R.out
      rw [upL_full HTl.out] at hro
      have Hro := Lib.hid hro
      have HO4 : Hid (Only [] w0 wr) := Lib.hid (HO3.out.transN HO.out (by simpa using Hgb.out))
      have hb0 := HO.out.cell hb0a (by simpa using Hbg.out)
      have hb1 := HO.out.cell hb1a (by simpa using Hbg.out)
      have hb2 := HO.out.cell hb2a (by simpa using Hbg.out)
      have hb3 := HO.out.cell hb3a (by simpa using Hbg.out)
      have hfit : N ≤ k * shardLen k N := shardLen_mul (by omega)
      have hszl := shardLen_le (k := k) hN3
      have Hx1 : Hid (∀ w, Only [] wr w → Rd w p1 (u8s (xs.take N))) := Lib.hid fun w ho => by
        have := ((hHx1.out.only0 HO4.out).only0 ho).take N
        rwa [u8s_take] at this
      have Hx2 : Hid (∀ w, Only [] wr w → Rd w p2 (u8s (ys.take N))) := Lib.hid fun w ho => by
        have := ((hHx2.out.only0 HO4.out).only0 ho).take N
        rwa [u8s_take] at this
      have Hx1n : Hid (p1 = none → N = 0 ∧ N = 0) := Lib.hid fun e => by have := (Hp1.out e).1; omega
      have Hx2n : Hid (p2 = none → N = 0 ∧ N = 0) := Lib.hid fun e => by have := (Hp2.out e).1; omega
      have HA : Hid (∃ A, A = encB k m (shardLen k N) (xs.take N)) := Lib.hid ⟨_, rfl⟩
      have HB : Hid (∃ A, A = encB k m (shardLen k N) (ys.take N)) := Lib.hid ⟨_, rfl⟩
      have HC : Hid (∃ A, A = encB k m (shardLen k N) T) := Lib.hid ⟨_, rfl⟩
      obtain ⟨A, hA⟩ := HA.out
      obtain ⟨BB, hB⟩ := HB.out
      obtain ⟨C, hC⟩ := HC.out
      clear HA HB HC
      have lA : A.length = k + m := by rw [hA]; exact encB_len _ _ _ _
      have lB : BB.length = k + m := by rw [hB]; exact encB_len _ _ _ _
      have lC : C.length = k + m := by rw [hC]; exact encB_len _ _ _ _
      have eA : ∀ l ∈ A, l.length = shardLen k N := by rw [hA]; exact encB_each (by rw [Hxl.out]; exact hfit)
      have eB : ∀ l ∈ BB, l.length = shardLen k N := by rw [hB]; exact encB_each (by rw [Hyl.out]; exact hfit)
      have eC : ∀ l ∈ C, l.length = shardLen k N := by rw [hC]; exact encB_each (by rw [HTl.out]; exact hfit)
      have hxor : ∀ (i b : Nat) (la lb lc : List UInt8), A[i]? = some la → BB[i]? = some lb → C[i]? = some lc → b < shardLen k N → lc.getD b 0 = la.getD b 0 ^^^ lb.getD b 0 := fun i b la lb lc h1 h2 h3 hb => by
        have hi : i < k + m := by have := (List.getElem?_eq_some_iff.1 h1).1; omega
        rw [← ent_some h1, ← ent_some h2, ← ent_some h3, hA, hB, hC, HT.out]
        exact encB_xor Hxl.out Hyl.out hi hb
      have HLA := Lib.hid lA
      have HLB := Lib.hid lB
      have HLC := Lib.hid lC
      have HEA := Lib.hid eA
      have HEB := Lib.hid eB
      have HEC := Lib.hid eC
      have HXor := Lib.hid hxor
      have HA := Lib.hid hA
      have HBB := Lib.hid hB
      have HC := Lib.hid hC
      clear hA hB hC lA lB lC eA eB eC hxor R HO hro hfit
      go_wp2_with fail
      -- <<R12
      refine wp_region_rg2 (Only []) [[(1, none)], [(52, some 0)], [(1, none)], [(54, some 0)], [(1, none)], [(56, some 0)], [(3, none)], [(3, none)], [(57, some 2), (58, some 1), (59, some 0)], [(53, some 7), (55, some 5), (60, some 0)], [(61, some 0)], [(51, some 0)], [(51, some 1)], [(62, some 1)], [(63, some 1)]] [(6, 1), (7, 0)] [none, none, none, none, none, none, some 6, some 7, none, none, none, none, none, none, none, none, none, none, none, none, none, none, none, none, none, none, none, none, none, none, none, none, none, none, none, none, none, none, none, none, none, none, none, none, none, none, none, none, none, none, none, some 51, some 52, some 53, some 54, some 55, some 56, some 57, some 58, some 59, some 60, some 61, some 62, some 63, none, none, none, none, none, none, none, none, none, none, none, none, none, none, none, none, none, none, none, none, none, none, none, none, none, none, none, none, none, none, none, none, none, none, none, none, none, none, none, none, none, none, none, none, none, none, none, none, none, none, none, none, none, none, none, none, none, none, none, none, none, none, none, none, none, none, none, none, none, none, none, none, none, none, none, none, none, none, none, none, none, none, none, none, none, none, none, none, none, none, none, none, none, none, none, none, none, none, none, none, none, none, none, none, none, none, none, none, none, none, none, none, none, none, none, none, none, none] (by kernel_rfl) rfl (by kernel_rfl) (fun _ => Only.refl _ _) (fun _ _ _ h k => h.trans0 k) (Only.drew _) (by kernel_rfl) ?_
      -- 0: s52 := fieldAddr 73 t1 0
      apply rg_ev
      · intro a w hR hf
        obtain ⟨e1, -⟩ := hf
        replace e1 : a.tmps.getD 1 undef = _ := e1
        refine rg_plain rfl fun K hK => ?_
        go_simp
        exact hK _ _ rfl (Only.refl _ _)
      -- 1: s53 := load 3 t52
      apply rg_ev
      · intro a w hR hf
        obtain ⟨e52, -⟩ := hf
        replace e52 : a.tmps.getD 52 undef = _ := e52
        refine rg_plain rfl fun K hK => ?_
        have h1 := hR.cell hb0 (by simp)
        go_simp
        exact hK _ _ rfl (Only.refl _ _)
      -- 2: s54 := fieldAddr 73 t1 1
      apply rg_ev
      · intro a w hR hf
        obtain ⟨e1, -⟩ := hf
        replace e1 : a.tmps.getD 1 undef = _ := e1
        refine rg_plain rfl fun K hK => ?_
        go_simp
        exact hK _ _ rfl (Only.refl _ _)
      -- 3: s55 := load 3 t54
      apply rg_ev
      · intro a w hR hf
        obtain ⟨e54, -⟩ := hf
        replace e54 : a.tmps.getD 54 undef = _ := e54
        refine rg_plain rfl fun K hK => ?_
        have h3 := hR.cell hb1 (by simp)
        go_simp
        exact hK _ _ rfl (Only.refl _ _)
      -- 4: s56 := fieldAddr 73 t1 2
      apply rg_ev
      · intro a w hR hf
        obtain ⟨e1, -⟩ := hf
        replace e1 : a.tmps.getD 1 undef = _ := e1
        refine rg_plain rfl fun K hK => ?_
        go_simp
        exact hK _ _ rfl (Only.refl _ _)
      -- 5: s57 := load 27 t56
      apply rg_ev
      · intro a w hR hf
        obtain ⟨e56, -⟩ := hf
        replace e56 : a.tmps.getD 56 undef = _ := e56
        refine rg_plain rfl fun K hK => ?_
        have h5 := hR.cell hb2 (by simp)
        go_simp
        exact hK _ _ rfl (Only.refl _ _)
      -- 6: s58 := move t3
      apply rg_ev
      · intro a w hR hf
        obtain ⟨e3, -⟩ := hf
        replace e3 : a.tmps.getD 3 undef = _ := e3
        refine rg_plain rfl fun K hK => ?_
        go_simp
        exact hK _ _ rfl (Only.refl _ _)
      -- 7: s59 := move t3
      apply rg_ev
      · intro a w hR hf
        obtain ⟨e3, -⟩ := hf
        replace e3 : a.tmps.getD 3 undef = _ := e3
        refine rg_plain rfl fun K hK => ?_
        go_simp
        exact hK _ _ rfl (Only.refl _ _)
      -- 8: s60 := slice 27 t57 none (some t58) (some t59)
      apply rg_ev
      · intro a w hR hf
        obtain ⟨e57, e58, e59, -⟩ := hf
        replace e57 : a.tmps.getD 57 undef = _ := e57
        replace e58 : a.tmps.getD 58 undef = _ := e58
        replace e59 : a.tmps.getD 59 undef = _ := e59
        refine rg_plain rfl fun K hK => ?_
        have hN0 : (N : Int) ≤ (c1 : Int) := by omega
        go_simp
        exact hK _ _ rfl (Only.refl _ _)
      -- 9: s61 := call { value (Operand.func 30), args := #[t53, t55, t60], #[3, 3, 27] }
      refine ⟨EncT A (k + m), EncT.stable _ _, fun a w hR hf => ?_, ?_⟩
      · obtain ⟨e53, e55, e60, -⟩ := hf
        replace e53 : a.tmps.getD 53 undef = _ := e53
        replace e55 : a.tmps.getD 55 undef = _ := e55
        replace e60 : a.tmps.getD 60 undef = _ := e60
        refine rg_plain rfl fun K hK => ?_
        go_simp
        (with_reducible refine (encode_ok p1 (xs.take N) N N k m w Hl.out Hxl.out (by omega) Hx1n.out (Hx1.out w hR)).mono ?_)
        rintro e w' ⟨q, c', gs, rfl, nl, ho⟩
        exact hK _ _ ⟨q, c', rfl, by rw [HA.out]; exact nl.lists⟩ ho
      -- 10: s51 := move t61
      refine ⟨EncT A (k + m), EncT.stable _ _, fun a w hR hf => ?_, ?_⟩
      · obtain ⟨e61, -⟩ := hf
        replace e61 : EncT A (k + m) (a.tmps.getD 61 undef) w := e61
        refine rg_plain rfl fun K hK => ?_
        generalize hv61 : a.tmps.getD 61 undef = v61 at e61
        go_simp
        exact hK _ _ e61 (Only.refl _ _)
      -- 11: s62 := extract t51 0
      refine ⟨LstS A (k + m), LstS.stable _ _, fun a w hR hf => ?_, ?_⟩
      · obtain ⟨e51, -⟩ := hf
        replace e51 : EncT A (k + m) (a.tmps.getD 51 undef) w := e51
        refine rg_plain rfl fun K hK => ?_
        obtain ⟨q, c, eT, hls⟩ := e51
        go_simp
        exact hK _ _ ⟨q, c, rfl, hls⟩ (Only.refl _ _)
      -- 12: s63 := extract t51 1
      apply rg_ev
      · intro a w hR hf
        obtain ⟨e51, -⟩ := hf
        replace e51 : EncT A (k + m) (a.tmps.getD 51 undef) w := e51
        refine rg_plain rfl fun K hK => ?_
        obtain ⟨q, c, eT, hls⟩ := e51
        go_simp
        exact hK _ _ rfl (Only.refl _ _)
      -- 13: s6 := assign t62
      refine ⟨LstS A (k + m), LstS.stable _ _, fun a w hR hf => ?_, ?_⟩
      · obtain ⟨e62, -⟩ := hf
        replace e62 : LstS A (k + m) (a.tmps.getD 62 undef) w := e62
        refine rg_plain rfl fun K hK => ?_
        generalize hv62 : a.tmps.getD 62 undef = v62 at e62
        go_simp
        exact hK _ _ e62 (Only.refl _ _)
      -- 14: s7 := assign t63
      apply rg_ev
      · intro a w hR hf
        obtain ⟨e63, -⟩ := hf
        replace e63 : a.tmps.getD 63 undef = _ := e63
        refine rg_plain rfl fun K hK => ?_
        go_simp
        exact hK _ _ rfl (Only.refl _ _)
      intro f12 w12 hR12 hf
      dsimp only [mergeT]
      obtain ⟨e6, e7, -⟩ := hf
      replace e6 : LstS A (k + m) (f12 6) w12 := e6
      replace e7 : f12 7 = _ := e7
      rw [e7]
      -- R12>>
      obtain ⟨q6, c6, e6, l6⟩ := e6
      rw [e6]
      have L6 := Lib.hid l6
      have hb0 := hR12.cell hb0 (by simp)
      have hb1 := hR12.cell hb1 (by simp)
      have hb3 := hR12.cell hb3 (by simp)
      have HO5 := Lib.hid (HO4.out.trans0 hR12)
      have Hro5 := Lib.hid (Hro.out.only0 hR12)
      have Hx2 : Hid (∀ w, Only [] w12 w → Rd w p2 (u8s (ys.take N))) := Lib.hid fun w ho => Hx2.out w (hR12.trans0 ho)
      clear l6 e6 hR12 Hx1 hb2
      go_wp2_with fail
      -- <<R13
      refine wp_region_rg2 (Only []) [[(1, none)], [(65, some 0)], [(1, none)], [(67, some 0)], [(1, none)], [(69, some 0)], [(3, none)], [(3, none)], [(70, some 2), (71, some 1), (72, some 0)], [(66, some 7), (68, some 5), (73, some 0)], [(74, some 0)], [(64, some 0)], [(64, some 1)], [(75, some 1)], [(76, some 1)]] [(8, 1), (9, 0)] [none, none, none, none, none, none, none, none, some 8, some 9, none, none, none, none, none, none, none, none, none, none, none, none, none, none, none, none, none, none, none, none, none, none, none, none, none, none, none, none, none, none, none, none, none, none, none, none, none, none, none, none, none, none, none, none, none, none, none, none, none, none, none, none, none, none, some 64, some 65, some 66, some 67, some 68, some 69, some 70, some 71, some 72, some 73, some 74, some 75, some 76, none, none, none, none, none, none, none, none, none, none, none, none, none, none, none, none, none, none, none, none, none, none, none, none, none, none, none, none, none, none, none, none, none, none, none, none, none, none, none, none, none, none, none, none, none, none, none, none, none, none, none, none, none, none, none, none, none, none, none, none, none, none, none, none, none, none, none, none, none, none, none, none, none, none, none, none, none, none, none, none, none, none, none, none, none, none, none, none, none, none, none, none, none, none, none, none, none, none, none, none, none, none, none, none, none] (by kernel_rfl) rfl (by kernel_rfl) (fun _ => Only.refl _ _) (fun _ _ _ h k => h.trans0 k) (Only.drew _) (by kernel_rfl) ?_
      -- 0: s65 := fieldAddr 73 t1 0
      apply rg_ev
      · intro a w hR hf
        obtain ⟨e1, -⟩ := hf
        replace e1 : a.tmps.getD 1 undef = _ := e1
        refine rg_plain rfl fun K hK => ?_
        go_simp
        exact hK _ _ rfl (Only.refl _ _)
      -- 1: s66 := load 3 t65
      apply rg_ev
      · intro a w hR hf
        obtain ⟨e65, -⟩ := hf
        replace e65 : a.tmps.getD 65 undef = _ := e65
        refine rg_plain rfl fun K hK => ?_
        have h1 := hR.cell hb0 (by simp)
        go_simp
        exact hK _ _ rfl (Only.refl _ _)
      -- 2: s67 := fieldAddr 73 t1 1
      apply rg_ev
      · intro a w hR hf
        obtain ⟨e1, -⟩ := hf
        replace e1 : a.tmps.getD 1 undef = _ := e1
        refine rg_plain rfl fun K hK => ?_
        go_simp
        exact hK _ _ rfl (Only.refl _ _)
      -- 3: s68 := load 3 t67
      apply rg_ev
      · intro a w hR hf
        obtain ⟨e67, -⟩ := hf
        replace e67 : a.tmps.getD 67 undef = _ := e67
        refine rg_plain rfl fun K hK => ?_
        have h3 := hR.cell hb1 (by simp)
        go_simp
        exact hK _ _ rfl (Only.refl _ _)
      -- 4: s69 := fieldAddr 73 t1 3
      apply rg_ev
      · intro a w hR hf
        obtain ⟨e1, -⟩ := hf
        replace e1 : a.tmps.getD 1 undef = _ := e1
        refine rg_plain rfl fun K hK => ?_
        go_simp
        exact hK _ _ rfl (Only.refl _ _)
      -- 5: s70 := load 27 t69
      apply rg_ev
      · intro a w hR hf
        obtain ⟨e69, -⟩ := hf
        replace e69 : a.tmps.getD 69 undef = _ := e69
        refine rg_plain rfl fun K hK => ?_
        have h5 := hR.cell hb3 (by simp)
        go_simp
        exact hK _ _ rfl (Only.refl _ _)
      -- 6: s71 := move t3
      apply rg_ev
      · intro a w hR hf
        obtain ⟨e3, -⟩ := hf
        replace e3 : a.tmps.getD 3 undef = _ := e3
        refine rg_plain rfl fun K hK => ?_
        go_simp
        exact hK _ _ rfl (Only.refl _ _)
      -- 7: s72 := move t3
      apply rg_ev
      · intro a w hR hf
        obtain ⟨e3, -⟩ := hf
        replace e3 : a.tmps.getD 3 undef = _ := e3
        refine rg_plain rfl fun K hK => ?_
        go_simp
        exact hK _ _ rfl (Only.refl _ _)
      -- 8: s73 := slice 27 t70 none (some t71) (some t72)
      apply rg_ev
      · intro a w hR hf
        obtain ⟨e70, e71, e72, -⟩ := hf
        replace e70 : a.tmps.getD 70 undef = _ := e70
        replace e71 : a.tmps.getD 71 undef = _ := e71
        replace e72 : a.tmps.getD 72 undef = _ := e72
        refine rg_plain rfl fun K hK => ?_
        have hN0 : (N : Int) ≤ (c2 : Int) := by omega
        go_simp
        exact hK _ _ rfl (Only.refl _ _)
      -- 9: s74 := call { value (Operand.func 30), args := #[t66, t68, t73], #[3, 3, 27] }
      refine ⟨EncT BB (k + m), EncT.stable _ _, fun a w hR hf => ?_, ?_⟩
      · obtain ⟨e66, e68, e73, -⟩ := hf
        replace e66 : a.tmps.getD 66 undef = _ := e66
        replace e68 : a.tmps.getD 68 undef = _ := e68
        replace e73 : a.tmps.getD 73 undef = _ := e73
        refine rg_plain rfl fun K hK => ?_
        go_simp
        (with_reducible refine (encode_ok p2 (ys.take N) N N k m w Hl.out Hyl.out (by omega) Hx2n.out (Hx2.out w hR)).mono ?_)
        rintro e w' ⟨q, c', gs, rfl, nl, ho⟩
        exact hK _ _ ⟨q, c', rfl, by rw [HBB.out]; exact nl.lists⟩ ho
      -- 10: s64 := move t74
      refine ⟨EncT BB (k + m), EncT.stable _ _, fun a w hR hf => ?_, ?_⟩
      · obtain ⟨e74, -⟩ := hf
        replace e74 : EncT BB (k + m) (a.tmps.getD 74 undef) w := e74
        refine rg_plain rfl fun K hK => ?_
        generalize hv74 : a.tmps.getD 74 undef = v74 at e74
        go_simp
        exact hK _ _ e74 (Only.refl _ _)
      -- 11: s75 := extract t64 0
      refine ⟨LstS BB (k + m), LstS.stable _ _, fun a w hR hf => ?_, ?_⟩
      · obtain ⟨e64, -⟩ := hf
        replace e64 : EncT BB (k + m) (a.tmps.getD 64 undef) w := e64
        refine rg_plain rfl fun K hK => ?_
        obtain ⟨q, c, eT, hls⟩ := e64
        go_simp
        exact hK _ _ ⟨q, c, rfl, hls⟩ (Only.refl _ _)
      -- 12: s76 := extract t64 1
      apply rg_ev
      · intro a w hR hf
        obtain ⟨e64, -⟩ := hf
        replace e64 : EncT BB (k + m) (a.tmps.getD 64 undef) w := e64
        refine rg_plain rfl fun K hK => ?_
        obtain ⟨q, c, eT, hls⟩ := e64
        go_simp
        exact hK _ _ rfl (Only.refl _ _)
      -- 13: s8 := assign t75
      refine ⟨LstS BB (k + m), LstS.stable _ _, fun a w hR hf => ?_, ?_⟩
      · obtain ⟨e75, -⟩ := hf
        replace e75 : LstS BB (k + m) (a.tmps.getD 75 undef) w := e75
        refine rg_plain rfl fun K hK => ?_
        generalize hv75 : a.tmps.getD 75 undef = v75 at e75
        go_simp
        exact hK _ _ e75 (Only.refl _ _)
      -- 14: s9 := assign t76
      apply rg_ev
      · intro a w hR hf
        obtain ⟨e76, -⟩ := hf
        replace e76 : a.tmps.getD 76 undef = _ := e76
        refine rg_plain rfl fun K hK => ?_
        go_simp
        exact hK _ _ rfl (Only.refl _ _)
      intro f13 w13 hR13 hf
      dsimp only [mergeT]
      obtain ⟨e8, e9, -⟩ := hf
      replace e8 : LstS BB (k + m) (f13 8) w13 := e8
      replace e9 : f13 9 = _ := e9
      rw [e9]
      -- R13>>
      obtain ⟨q8, c8, e8, l8⟩ := e8
      rw [e8]
      have L8 := Lib.hid l8
      have hb0 := hR13.cell hb0 (by simp)
      have hb1 := hR13.cell hb1 (by simp)
      have HO6 := Lib.hid (HO5.out.trans0 hR13)
      have Hro6 := Lib.hid (Hro5.out.only0 hR13)
      have L6 := Lib.hid (L6.out.only0 hR13)
      clear l8 e8 hR13 Hx2 hb3 Hro5 HO5
      have hkm : ((k + m : Nat) : Int) = (k : Int) + (m : Int) := by omega
      go_wp2_with fail
      (with_reducible refine (encode_ok (some ⟨g, 0, none⟩) T N N k m w13 Hl.out HTl.out hN3 (by simp) Hro6.out.rd0).mono ?_)
      rintro e w7 ⟨q10, c10, gs, rfl, nl, o7⟩
      rw [← HC.out] at nl
      have L10 := Lib.hid nl.lists
      have hb0 := o7.cell hb0 (by simp)
      have hb1 := o7.cell hb1 (by simp)
      have HO7 := Lib.hid (HO6.out.trans0 o7)
      have L6 := Lib.hid (L6.out.only0 o7)
      have L8 := Lib.hid (L8.out.only0 o7)
      clear nl o7 HO6
      generalize shardLen k N = size at *
      go_wp2_with fail
      clear hb0 hb1
      go_loopw [122] (fun x wr => ∃ i : Nat, x = .int .i64 (i : Int) ∧ i ≤ k + m ∧ Hid (Only [] w7 wr)) (fun x _ => k + m - (intOf x).toNat)
      case atStart => exact ⟨0, rfl, Nat.zero_le _, Lib.hid (Only.refl _ _)⟩
      case round =>
        obtain ⟨i, rfl, hi, HO⟩ := hrel
        by_cases hlt : i < k + m
        · have hii : (i : Int) < (k : Int) + (m : Int) := by omega
          obtain ⟨la, ha⟩ : ∃ l, A[i]? = some l := ⟨_, List.getElem?_eq_getElem (by rw [HLA.out]; exact hlt)⟩
          obtain ⟨lb, hb⟩ : ∃ l, BB[i]? = some l := ⟨_, List.getElem?_eq_getElem (by rw [HLB.out]; exact hlt)⟩
          obtain ⟨lc, hc⟩ : ∃ l, C[i]? = some l := ⟨_, List.getElem?_eq_getElem (by rw [HLC.out]; exact hlt)⟩
          obtain ⟨ba, oa, qa, ca, rfl, hca, hra, -, -⟩ := (L6.out.only0 HO.out) i la ha
          obtain ⟨bb, ob, qb, cb, rfl, hcb, hrb, -, -⟩ := (L8.out.only0 HO.out) i lb hb
          obtain ⟨bc, oc, qc, cc, rfl, hcc, hrc, -, -⟩ := (L10.out.only0 HO.out) i lc hc
          have sa := HEA.out la (List.mem_of_getElem? ha)
          have sb := HEB.out lb (List.mem_of_getElem? hb)
          have sc := HEC.out lc (List.mem_of_getElem? hc)
          rw [sa] at hca
          rw [sb] at hcb
          rw [sc] at hcc
          have HX : Hid (∀ b, b < size → lc.getD b 0 = la.getD b 0 ^^^ lb.getD b 0) := Lib.hid fun b hb2 => HXor.out i b la lb lc ha hb hc hb2
          have Ha := Lib.hid hra
          have Hb := Lib.hid hrb
          have Hc := Lib.hid hrc
          have Sa := Lib.hid sa
          have Sb := Lib.hid sb
          have Sc := Lib.hid sc
          clear ha hb hc hra hrb hrc sa sb sc
          obtain ⟨w9, hw9⟩ : ∃ w, w = wr := ⟨_, rfl⟩
          subst hw9
          go_wp2_with fail
          go_quiet (fail)
          have HOq : Hid (Only [] w9 (w9.drewN nq)) := Lib.hid (Only.drewN _ _)
          have hca := HOq.out.cell hca (by simp)
          have hcb := HOq.out.cell hcb (by simp)
          have hcc := HOq.out.cell hcc (by simp)
          have Ha := Lib.hid (Ha.out.only0 HOq.out)
          have Hb := Lib.hid (Hb.out.only0 HOq.out)
          have Hc := Lib.hid (Hc.out.only0 HOq.out)
          have HO := Lib.hid (HO.out.trans0 HOq.out)
          clear HOq
          generalize w9.drewN nq = wq at *
          go_wp2_with fail
          go_loopw [154] (fun x wr => ∃ j : Nat, x = .int .i64 (j : Int) ∧ j ≤ size ∧ Hid (Only [] wq wr)) (fun x _ => size - (intOf x).toNat)
          case atStart => exact ⟨0, rfl, Nat.zero_le _, Lib.hid (Only.refl _ _)⟩
          case round =>
            obtain ⟨j, rfl, hj, HO2⟩ := hrel
            by_cases hjl : j < size
            · have hji : (j : Int) < (size : Int) := by omega
              obtain ⟨ya, hya⟩ : ∃ y, la[j]? = some y := ⟨_, List.getElem?_eq_getElem (by rw [Sa.out]; exact hjl)⟩
              obtain ⟨yb, hyb⟩ : ∃ y, lb[j]? = some y := ⟨_, List.getElem?_eq_getElem (by rw [Sb.out]; exact hjl)⟩
              obtain ⟨yc, hyc⟩ : ∃ y, lc[j]? = some y := ⟨_, List.getElem?_eq_getElem (by rw [Sc.out]; exact hjl)⟩
              have hx := HX.out j hjl
              rw [getD_some 0 hya, getD_some 0 hyb, getD_some 0 hyc] at hx
              obtain ⟨b1, p1', rfl, d1⟩ := u8_at (Ha.out.only0 HO2.out) hya
              obtain ⟨b2, p2', rfl, d2⟩ := u8_at (Hb.out.only0 HO2.out) hyb
              obtain ⟨b3, p3', rfl, d3⟩ := u8_at (Hc.out.only0 HO2.out) hyc
              have e1 := HO2.out.cell hca (by simp)
              have e2 := HO2.out.cell hcb (by simp)
              have e3 := HO2.out.cell hcc (by simp)
              have hxr := u8_xor_u8 ya yb
              rw [← hx] at hxr
              clear hya hyb hyc hx
              go_wp2_with fail
              go_quiet (fail)
              have HO3 : Hid (Only [] wq (wr.drewN nq)) := Lib.hid (HO2.out.trans0 (Only.drewN _ _))
              generalize wr.drewN nq = wz at *
              go_wp2_with fail
              go_roundw
              case rel => exact ⟨j + 1, by go_num, by omega, HO3⟩
              case measure => simp [intOf]; omega
            · obtain rfl : j = size := by omega
              have hji : ¬ (j : Int) < (j : Int) := by omega
              have HO3 := Lib.hid (HO.out.trans0 HO2.out)
              go_wp2_with fail
              go_roundw
              case rel => exact ⟨i + 1, by go_num, by omega, HO3⟩
              case measure => simp [intOf]; omega
        · obtain rfl : i = k + m := by omega
          have hii : ¬ ((k + m : Nat) : Int) < (k : Int) + (m : Int) := by omega
          go_wp2_with fail
          go_ret
          exact ⟨rfl, HO7.out.trans0 HO.out⟩
end Go.Proofs.YtlgcclhepegggaaDoor
