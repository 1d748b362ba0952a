/- The walk of the digest of one block. -/
import Derived.Test.YtfoplbolbjcggaaDoorShaRound
set_option linter.unusedVariables false
set_option maxRecDepth 100000
namespace Go.Proofs.YtfoplbolbjcggaaDoor
open Go.RowKit

set_option maxRecDepth 100000 in
set_option maxHeartbeats 20000000 in
theorem dig_any (s : St) (p : Option Addr) (bs : List UInt8) (c : Nat) (ww : World) (hn : bs.length = 64) (hx : Rd ww p (u8s bs)) :
    Calls Tryd.prog 115 #[.agg (u32s s.l).toArray, .slice p 64 c] ww fun e w' => e = .returned (.agg (u32s (dig s bs).l).toArray) ∧ Only [] ww w' := by
  have hlS := sched_len bs hn
  have hdef : dig s bs = (rnds s shaK (sched bs)).add s := rfl
  have hsc := fun w h => sched_any p bs c w hn h
  have hcn := consts_any
  have hlK : shaK.length = 64 := rfl
  generalize shaK = K at hcn hdef hlK
  generalize dig s bs = D at hdef ⊢
  generalize sched bs = S at hlS hdef hsc
  have hl8 : s.l.length = 8 := rfl
  go_enter Tryd.func115, Tryd.ntmps115
  go_wp2_with fail
  obtain ⟨w0, hw0⟩ : ∃ w0, w0 = (ww.alloc (Obj.cells (u32s s.l).toArray 197)).alloc (Obj.cells (List.replicate 8 (Value.int .u32 0)).toArray 197) := ⟨_, rfl⟩
  have ho0 : Only [] ww w0 := by rw [hw0]; exact (Only.alloc _ _).trans0 (Only.alloc _ _)
  have r2 : Row w0 ww.heap.size 197 (u32s s.l) := by rw [hw0]; exact (Row.new ww _ (u32s s.l)).only0 (Only.alloc _ _)
  have r4 : Row w0 (ww.heap.size + 1) 197 (u32s (List.replicate 8 0)) := by rw [hw0]; exact Row.newAt _ _ _ (by simp)
  have hw0' := hw0.symm
  refine Eq.mpr (congrArg (fun x => Calls Tryd.prog 135 _ x _) hw0') ?_
  clear hw0 hw0'
  (with_reducible refine (hsc w0 (hx.only0 ho0)).mono ?_)
  rintro e w1 ⟨rfl, h1⟩
  go_wp2_with fail
  (with_reducible refine (hcn w1).mono ?_)
  rintro e w2 ⟨rfl, h2⟩
  have ho2 : Only [] ww w2 := (ho0.trans0 h1).trans0 h2
  replace r2 := (r2.only0 h1).only0 h2
  replace r4 := (r4.only0 h1).only0 h2
  have hn2 := ho2.size
  have hn4 := r4.lt
  clear h1 h2 ho0 hsc hx w0 w1
  obtain ⟨n, hnn⟩ : ∃ n, n = w2.heap.size := ⟨_, rfl⟩
  obtain ⟨W1, hW1⟩ : ∃ W1, W1 = (w2.alloc (Obj.cells (List.replicate 64 (Value.int .u32 0)).toArray 227)).alloc (Obj.cells (List.replicate 64 (Value.int .u32 0)).toArray 227) := ⟨_, rfl⟩
  have hoWW : Only [] w2 W1 := by rw [hW1]; exact (Only.alloc _ _).trans0 (Only.alloc _ _)
  have hoW1 : Only [] ww W1 := ho2.trans0 hoWW
  have r5 : Row W1 n 227 (List.replicate 64 (Value.int .u32 0)) := by rw [hW1, hnn]; exact (Row.new w2 _ (List.replicate 64 (Value.int .u32 0))).only0 (Only.alloc _ _)
  have r6 : Row W1 (n + 1) 227 (List.replicate 64 (Value.int .u32 0)) := by rw [hW1, hnn]; exact Row.newAt _ _ _ (by simp)
  replace r2 := r2.only0 hoWW
  replace r4 := r4.only0 hoWW
  have hsz64 : (Tryd.prog.info? 227).map (·.size) = some 64 := by kernel_rfl
  have hsz8 : (Tryd.prog.info? 197).map (·.size) = some 8 := by kernel_rfl
  have st5 := r5.storeAt (P := Tryd.prog) (ty := 227) (us := u32s S) (by rw [u32s_length, hlS]; exact hsz64) (by rw [u32s_length, hlS]; simp) (fun u hu => u32s_one hu)
  replace r5 := r5.setRow (u32s S)
  have o5 : Only [n] W1 (W1.setRow n (u32s S).toArray) := Only.setRow _ _ _
  replace r6 := r6.only o5 (by simp)
  have st6 := r6.storeAt (P := Tryd.prog) (ty := 227) (us := u32s K) (by rw [u32s_length, hlK]; exact hsz64) (by rw [u32s_length, hlK]; simp) (fun u hu => u32s_one hu)
  have o6 : Only [n + 1] (W1.setRow n (u32s S).toArray) ((W1.setRow n (u32s S).toArray).setRow (n + 1) (u32s K).toArray) := Only.setRow _ _ _
  replace r6 := r6.setRow (u32s K)
  replace r5 := r5.only o6 (by simp)
  replace r2 := (r2.only o5 (by simp; omega)).only o6 (by simp; omega)
  replace r4 := (r4.only o5 (by simp; omega)).only o6 (by simp; omega)
  have ho6 := (hoW1.transN o5 (by simp; omega)).transN o6 (by simp; omega)
  have ld2 := r2.loadAt (P := Tryd.prog) Tryd.underlying197 (by rw [u32s_length, hl8]; exact hsz8)
  obtain ⟨W3, hW3⟩ : ∃ W3, W3 = (W1.setRow n (u32s S).toArray).setRow (n + 1) (u32s K).toArray := ⟨_, rfl⟩
  obtain ⟨W4, hW4⟩ : ∃ W4, W4 = W3.alloc (Obj.cells (List.replicate 8 (Value.int .u32 0)).toArray 197) := ⟨_, rfl⟩
  rw [← hW3] at r2 r4 r5 r6 ld2 ho6 st6
  have oW4 : Only [] W3 W4 := by rw [hW4]; exact Only.alloc _ _
  replace r2 := r2.only0 oW4
  replace r4 := r4.only0 oW4
  replace r5 := r5.only0 oW4
  replace r6 := r6.only0 oW4
  have hs3 : W3.heap.size = n + 1 + 1 := by rw [hW3, hW1, hnn]; simp
  have r7 : Row W4 (n + 1 + 1) 197 (List.replicate 8 (Value.int .u32 0)) := by rw [hW4]; exact Row.newAt _ _ _ hs3
  have st7 := r7.storeAt (P := Tryd.prog) (ty := 197) (us := u32s s.l) (by rw [u32s_length, hl8]; exact hsz8) (by rw [u32s_length, hl8]; simp) (fun u hu => u32s_one hu)
  have o7 : Only [n + 1 + 1] W4 (W4.setRow (n + 1 + 1) (u32s s.l).toArray) := Only.setRow _ _ _
  replace r7 := r7.setRow (u32s s.l)
  replace r2 := r2.only o7 (by simp; omega)
  replace r4 := r4.only o7 (by simp; omega)
  replace r5 := r5.only o7 (by simp; omega)
  replace r6 := r6.only o7 (by simp)
  have ho7 := (ho6.trans0 oW4).transN o7 (by simp; omega)
  have Hst5 := Lib.hid st5
  have Hst6 := Lib.hid st6
  have Hld2 := Lib.hid ld2
  have Hst7 := Lib.hid st7
  have Hr2 := Lib.hid r2
  have Hr4 := Lib.hid r4
  have Hr5 := Lib.hid r5
  have Hr6 := Lib.hid r6
  have Hr7 := Lib.hid r7
  have Ho7 := Lib.hid ho7
  clear st5 st6 ld2 st7 r2 r4 r5 r6 r7 ho7 ho6 oW4 o7 o5 o6 hoWW hoW1 ho2 hs3
  subst hW4
  subst hW3
  subst hW1
  subst hnn
  have Hdef := Lib.hid hdef
  clear hdef
  go_wp2_with (first | ((with_reducible show wpList _ _ _ _ _ _); refine wpl_store (ty := 227) (x := .tmp 5) (y := .tmp 14) rfl rfl rfl rfl Hst5.out ?_) | ((with_reducible show wpList _ _ _ _ _ _); refine wpl_store (ty := 227) (x := .tmp 6) (y := .tmp 15) rfl rfl rfl rfl Hst6.out ?_) | ((with_reducible show wpList _ _ _ _ _ _); refine wpl_load (ty := 197) (x := .tmp 2) rfl rfl rfl Hld2.out ?_) | ((with_reducible show wpList _ _ _ _ _ _); refine wpl_store (ty := 197) (x := .tmp 7) (y := .tmp 16) rfl rfl rfl rfl Hst7.out ?_))
  clear Hst5 Hst6 Hld2 Hst7
  have hn0 : ww.heap.size + 1 < w2.heap.size := hn4
  generalize w2.heap.size = n at Hr2 Hr4 Hr5 Hr6 Hr7 Ho7 hn0 ⊢
  obtain ⟨Z8, hZ8⟩ : ∃ Z8, Z8 = List.replicate 8 (0 : UInt32) := ⟨_, rfl⟩
  rw [← hZ8] at Hr4
  have HZ8 := Lib.hid hZ8
  clear hZ8
  clear hn4 hn2
  go_loopw [17] (fun i wr => ∃ (j : Nat) (st : St), i = .int .i64 (j : Int) ∧ j ≤ 64 ∧ Hid (st = rnds s (K.take j) (S.take j)) ∧ Hid (Row wr ww.heap.size 197 (u32s s.l)) ∧ Hid (Row wr (ww.heap.size + 1) 197 (u32s Z8)) ∧ Hid (Row wr n 227 (u32s S)) ∧ Hid (Row wr (n + 1) 227 (u32s K)) ∧ Hid (Row wr (n + 1 + 1) 197 (u32s st.l)) ∧ Hid (Only [] ww wr)) (fun i _ => 64 - (intOf i).toNat)
  case atStart => exact ⟨0, s, rfl, by omega, Lib.hid rfl, Hr2, Hr4, Hr5, Hr6, Hr7, Ho7⟩
  case round =>
    obtain ⟨j, st, rfl, hj, Hst, R2, R4, R5, R6, R7, Ho⟩ := hrel
    by_cases hlt : j < 64
    · obtain ⟨a0, a1, a2, a3, a4, a5, a6, a7⟩ := st
      have hc0 := R7.out.cell (u32s_get (i := 0) rfl)
      have hc1 := R7.out.cell (u32s_get (i := 1) rfl)
      have hc2 := R7.out.cell (u32s_get (i := 2) rfl)
      have hc3 := R7.out.cell (u32s_get (i := 3) rfl)
      have hc4 := R7.out.cell (u32s_get (i := 4) rfl)
      have hc5 := R7.out.cell (u32s_get (i := 5) rfl)
      have hc6 := R7.out.cell (u32s_get (i := 6) rfl)
      have hc7 := R7.out.cell (u32s_get (i := 7) rfl)
      dsimp only at hc0 hc1 hc2 hc3 hc4 hc5 hc6 hc7
      obtain ⟨xk, hxk⟩ : ∃ x, K[j]? = some x := ⟨_, List.getElem?_eq_getElem (by omega)⟩
      obtain ⟨xs, hxs⟩ : ∃ x, S[j]? = some x := ⟨_, List.getElem?_eq_getElem (by omega)⟩
      have hck := R6.out.cell (u32s_get hxk)
      have hcs := R5.out.cell (u32s_get hxs)
      have Hstep := Lib.hid (rnds_step s K S j xk xs hxk hxs)
      clear hxk hxs
      have hji : (j : Int) < 64 := by omega
      go_wp2_with fail
      go_quiet ((go_at_call 137; (first | exact qof0 (rot_any a4 6 (by simp) 6 rfl _ rfl _) | exact qof0 (rot_any a4 11 (by simp) 11 rfl _ rfl _) | exact qof0 (rot_any a4 25 (by simp) 25 rfl _ rfl _))))
      obtain ⟨t1, ht1⟩ : ∃ x : UInt32, x = a7 + big1 a4 + choose a4 a5 a6 + xk + xs := ⟨_, rfl⟩
      rw [u32_ones]
      have hc := t1_cells' a7 a4 a5 a6 xk xs
      rw [← ht1] at hc
      rw [hc]
      have Ht1 := Lib.hid ht1
      clear ht1 hc hck hcs
      have hoq : Only [] wr (wr.drewN nq) := Only.drewN _ _
      generalize wr.drewN nq = wq at hoq ⊢
      replace hc0 := hoq.cell hc0 (by simp)
      replace hc1 := hoq.cell hc1 (by simp)
      replace hc2 := hoq.cell hc2 (by simp)
      replace hc3 := hoq.cell hc3 (by simp)
      replace hc4 := hoq.cell hc4 (by simp)
      replace hc5 := hoq.cell hc5 (by simp)
      replace hc6 := hoq.cell hc6 (by simp)
      clear hc7
      have Hoq := Lib.hid hoq
      clear hoq
      go_wp2_with fail
      go_quiet ((go_at_call 137; (first | exact qof0 (rot_any a0 2 (by simp) 2 rfl _ rfl _) | exact qof0 (rot_any a0 13 (by simp) 13 rfl _ rfl _) | exact qof0 (rot_any a0 22 (by simp) 22 rfl _ rfl _))))
      obtain ⟨t2, ht2⟩ : ∃ x : UInt32, x = big0 a0 + most a0 a1 a2 := ⟨_, rfl⟩
      have hc := t2_cells a0 a1 a2
      rw [← ht2] at hc
      rw [hc]
      have Ht2 := Lib.hid ht2
      clear ht2 hc
      have hoq : Only [] wq (wq.drewN nq) := Only.drewN _ _
      generalize wq.drewN nq = wp at hoq ⊢
      replace hc0 := hoq.cell hc0 (by simp)
      replace hc1 := hoq.cell hc1 (by simp)
      replace hc2 := hoq.cell hc2 (by simp)
      replace hc3 := hoq.cell hc3 (by simp)
      replace hc4 := hoq.cell hc4 (by simp)
      replace hc5 := hoq.cell hc5 (by simp)
      replace hc6 := hoq.cell hc6 (by simp)
      have hos := Hoq.out.trans0 hoq
      replace R2 := Lib.hid (R2.out.only0 hos)
      replace R4 := Lib.hid (R4.out.only0 hos)
      replace R5 := Lib.hid (R5.out.only0 hos)
      replace R6 := Lib.hid (R6.out.only0 hos)
      have r7 := R7.out.only0 hos
      replace Ho := Lib.hid (Ho.out.trans0 hos)
      clear R7 hos hoq Hoq
      obtain ⟨u0, hu0⟩ : ∃ x : UInt32, x = t1 + t2 := ⟨_, rfl⟩
      obtain ⟨u4, hu4⟩ : ∃ x : UInt32, x = a3 + t1 := ⟨_, rfl⟩
      have hs0 : ((t1.toNat : Int) + (t2.toNat : Int)) % 4294967296 = (u0.toNat : Int) := by rw [hu0]; exact u32_add_u32 _ _
      have hs4 : ((a3.toNat : Int) + (t1.toNat : Int)) % 4294967296 = (u4.toNat : Int) := by rw [hu4]; exact u32_add_u32 _ _
      have hnew : (⟨u0, a0, a1, a2, u4, a4, a5, a6⟩ : St) = rnds s (K.take (j + 1)) (S.take (j + 1)) := by
        rw [Hstep.out, ← Hst.out, hu0, hu4, Ht1.out, Ht2.out]; rfl
      have Hnew := Lib.hid hnew
      clear hnew hu0 hu4 Ht1 Ht2 Hstep Hst
      have hst := r7.storeAt (P := Tryd.prog) (ty := 197) (us := u32s [u0, a0, a1, a2, u4, a4, a5, a6]) hsz8 rfl (fun u hu => u32s_one hu)
      have o7 : Only [n + 1 + 1] wp (wp.setRow (n + 1 + 1) (u32s [u0, a0, a1, a2, u4, a4, a5, a6]).toArray) := Only.setRow _ _ _
      replace R2 := Lib.hid (R2.out.only o7 (by simp; omega))
      replace R4 := Lib.hid (R4.out.only o7 (by simp; omega))
      replace R5 := Lib.hid (R5.out.only o7 (by simp; omega))
      replace R6 := Lib.hid (R6.out.only o7 (by simp))
      have R7 := Lib.hid (r7.setRow (u32s [u0, a0, a1, a2, u4, a4, a5, a6]))
      replace Ho := Lib.hid (Ho.out.transN o7 (by simp; omega))
      have Hstr := Lib.hid hst
      clear hst o7 r7
      go_wp2_with (first | ((with_reducible show wpList _ _ _ _ _ _); refine wpl_store (ty := 197) (x := .tmp 7) (y := .tmp 100) rfl rfl rfl rfl Hstr.out ?_))
      refine ⟨⟨j + 1, ⟨u0, a0, a1, a2, u4, a4, a5, a6⟩, by go_num, by omega, Hnew, R2, R4, R5, R6, R7, Ho⟩, ?_⟩
      simp [intOf]; omega
    · obtain rfl : j = 64 := by omega
      have hT : st = rnds s K S := by rw [Hst.out, List.take_of_length_le (by omega), List.take_of_length_le (by omega)]
      have hD : D.l = List.zipWith (· + ·) st.l s.l := by rw [Hdef.out, ← hT]; rfl
      have HD := Lib.hid hD
      clear hT hD Hst R5 R6
      have hlT : st.l.length = 8 := rfl
      generalize hTT : st = T at *
      clear hTT
      go_wp2_with fail
      go_loopw [102] (fun i wr => ∃ (j : Nat), i = .int .i64 (j : Int) ∧ j ≤ 8 ∧ Hid (Row wr ww.heap.size 197 (u32s s.l)) ∧ Hid (Row wr (ww.heap.size + 1) 197 (u32s Z8)) ∧ Hid (Row wr (n + 1 + 1) 197 (u32s (addR T.l s.l j))) ∧ Hid (Only [] ww wr)) (fun i _ => 8 - (intOf i).toNat)
      case atStart => exact ⟨0, rfl, by omega, R2, R4, R7, Ho⟩
      case round =>
        clear R2 R4 R7 Ho
        obtain ⟨j, rfl, hj, R2, R4, R7, Ho⟩ := hrel
        by_cases hlt : j < 8
        · obtain ⟨x, hx⟩ : ∃ x, T.l[j]? = some x := ⟨_, List.getElem?_eq_getElem (by omega)⟩
          obtain ⟨y, hy⟩ : ∃ y, s.l[j]? = some y := ⟨_, List.getElem?_eq_getElem (by omega)⟩
          obtain ⟨hax, hset⟩ := addR_step hlT hl8 hx hy
          have hcy := R2.out.cell (u32s_get hy)
          obtain ⟨xy, hxy⟩ : ∃ z : UInt32, z = x + y := ⟨_, rfl⟩
          have hsum : IntKind.u32.wrap ((x.toNat : Int) + (y.toNat : Int)) = (xy.toNat : Int) := by rw [hxy]; exact u32_add_cell _ _
          rw [← hxy] at hset
          have Hset := Lib.hid hset
          clear hset hx hy hxy
          have hji : (j : Int) < 8 := by omega
          go_wp2_with fail
          have hRr : ∀ a, Only [n + 1 + 1] a a := fun a => Only.refl _ _
          have hRt : ∀ a b e, Only [n + 1 + 1] a b → Only [n + 1 + 1] b e → Only [n + 1 + 1] a e := fun a b e h h2 => h.trans h2 (fun i hi _ => hi)
          have hRd : Only [n + 1 + 1] wr wr.drew := (Only.drew _).mono (by simp)
          have hC0 : ∀ i ∈ [8], (fun (_ : Nat) (a : World) => Row a (n + 1 + 1) 197 (u32s (addR T.l s.l j))) i wr.drew := fun _ _ => R7.out.only0 (Only.drew _)
          -- <<r14
          refine wp_region_rg4 (Only [n + 1 + 1]) (Dirt [(8, [n + 1 + 1])]) (fun (_ : Nat) (a : World) => Row a (n + 1 + 1) 197 (u32s (addR T.l s.l j))) [8] [[(12, none)], [(7, none), (105, some 0)], [(106, some 0)], [(12, none)], [(2, none), (108, some 0)], [(109, some 0)], [(107, some 3), (110, some 0)], [(7, none), (105, some 6)], [(112, some 0), (111, some 1)]] [] [none, none, none, none, none, none, none, none, none, none, none, none, none, none, none, none, none, none, none, none, none, none, none, none, none, none, none, none, none, none, none, none, none, none, none, none, none, none, none, none, none, none, none, none, none, none, none, none, none, none, none, none, none, none, none, none, none, none, none, none, none, none, none, none, none, none, none, none, none, none, none, none, none, none, none, none, none, none, none, none, none, none, none, none, none, none, none, none, none, none, none, none, none, none, none, none, none, none, none, none, none, none, none, none, none, some 105, some 106, some 107, some 108, some 109, some 110, some 111, some 112, none, none] (by kernel_rfl) rfl (by kernel_rfl) hRr hRt (fun _ _ => Only.refl _ _) hRd hC0 (by kernel_rfl) (by kernel_rfl) ?_
          -- 0: s105 := move t12
          apply rgd_ev
          · intro a w hR hC hf
            obtain ⟨e12, -⟩ := hf
            replace e12 : a.tmps.getD 12 undef = _ := e12
            refine rg_plain rfl fun K hK => ?_
            go_simp
            exact hK _ _ rfl ⟨hRr _, Only.refl _ _, fun _ _ _ _ h => h⟩
          -- 1: s106 := indexAddr 63 t7 t105
          apply rgd_ev
          · intro a w hR hC hf
            obtain ⟨e7, e105, -⟩ := hf
            replace e7 : a.tmps.getD 7 undef = _ := e7
            replace e105 : a.tmps.getD 105 undef = _ := e105
            refine rg_plain rfl fun K hK => ?_
            go_simp
            exact hK _ _ rfl ⟨hRr _, Only.refl _ _, fun _ _ _ _ h => h⟩
          -- 2: s107 := load 57 t106
          apply rgd_ev
          · intro a w hR hC hf
            obtain ⟨e106, -⟩ := hf
            replace e106 : a.tmps.getD 106 undef = _ := e106
            refine rg_plain rfl fun K hK => ?_
            have hl := (hC 8 (by simp) (by kernel_rfl)).cell (u32s_get hax)
            go_simp
            exact hK _ _ rfl ⟨hRr _, Only.refl _ _, fun _ _ _ _ h => h⟩
          -- 3: s108 := move t12
          apply rgd_ev
          · intro a w hR hC hf
            obtain ⟨e12, -⟩ := hf
            replace e12 : a.tmps.getD 12 undef = _ := e12
            refine rg_plain rfl fun K hK => ?_
            go_simp
            exact hK _ _ rfl ⟨hRr _, Only.refl _ _, fun _ _ _ _ h => h⟩
          -- 4: s109 := indexAddr 63 t2 t108
          apply rgd_ev
          · intro a w hR hC hf
            obtain ⟨e2, e108, -⟩ := hf
            replace e2 : a.tmps.getD 2 undef = _ := e2
            replace e108 : a.tmps.getD 108 undef = _ := e108
            refine rg_plain rfl fun K hK => ?_
            go_simp
            exact hK _ _ rfl ⟨hRr _, Only.refl _ _, fun _ _ _ _ h => h⟩
          -- 5: s110 := load 57 t109
          apply rgd_ev
          · intro a w hR hC hf
            obtain ⟨e109, -⟩ := hf
            replace e109 : a.tmps.getD 109 undef = _ := e109
            refine rg_plain rfl fun K hK => ?_
            have hl := hR.cell hcy (by simp; omega)
            go_simp
            exact hK _ _ rfl ⟨hRr _, Only.refl _ _, fun _ _ _ _ h => h⟩
          -- 6: s111 := binOp Binadd 57 t107 t110 57
          apply rgd_ev
          · intro a w hR hC hf
            obtain ⟨e107, e110, -⟩ := hf
            replace e107 : a.tmps.getD 107 undef = _ := e107
            replace e110 : a.tmps.getD 110 undef = _ := e110
            refine rg_plain rfl fun K hK => ?_
            go_simp
            exact hK _ _ rfl ⟨hRr _, Only.refl _ _, fun _ _ _ _ h => h⟩
          -- 7: s112 := indexAddr 63 t7 t105
          apply rgd_ev
          · intro a w hR hC hf
            obtain ⟨e7, e105, -⟩ := hf
            replace e7 : a.tmps.getD 7 undef = _ := e7
            replace e105 : a.tmps.getD 105 undef = _ := e105
            refine rg_plain rfl fun K hK => ?_
            go_simp
            exact hK _ _ rfl ⟨hRr _, Only.refl _ _, fun _ _ _ _ h => h⟩
          -- 8: sNone := store 57 t112 t111
          refine ⟨fun _ a => Row a (n + 1 + 1) 197 (u32s (addR T.l s.l (j + 1))), stands_of (fun _ _ _ h ho => h.only0 ho) (by intro x hx hk; obtain rfl := List.mem_singleton.1 hx; simp at hk), fun a w hR hC hf => ?_, ?_⟩
          · obtain ⟨e112, e111, -⟩ := hf
            replace e112 : a.tmps.getD 112 undef = _ := e112
            replace e111 : a.tmps.getD 111 undef = _ := e111
            refine rg_plain rfl fun K hK => ?_
            have hC8 := hC 8 (by simp) (by kernel_rfl)
            have hcc := hC8.cell (u32s_get hax)
            have hff := hC8.free j
            go_simp
            have hst : Only [n + 1 + 1] w (w.setCell ⟨n + 1 + 1, j, none⟩ (u32v xy)) := Only.setCell w ⟨n + 1 + 1, j, none⟩ _
            refine hK undef _ ?_ ⟨hst, hst, fun i hi hne ha _ => absurd (List.mem_singleton.1 hi) hne⟩
            rw [← Hset.out, ← u32s_set]
            exact hC8.setCell j (u32v xy)
          intro f14 w14 hR14 hf hz14
          dsimp only [mergeT]
          -- r14>>
          obtain ⟨v8, r8⟩ := hz14 _ (List.mem_cons_self ..)
          go_wp2_with fail
          go_roundw
          case rel => exact ⟨j + 1, by go_num, by omega, Lib.hid (R2.out.only hR14 (by simp; omega)), Lib.hid (R4.out.only hR14 (by simp; omega)), Lib.hid r8, Lib.hid (Ho.out.transN hR14 (by simp; omega))⟩
          case measure => simp [intOf]; omega
        · obtain rfl : j = 8 := by omega
          have r7 := R7.out
          have hfull : addR T.l s.l 8 = D.l := by rw [HD.out]; unfold addR; rw [List.take_of_length_le (by rw [List.length_zipWith]; omega), List.drop_eq_nil_of_le (by omega), List.append_nil]
          rw [hfull] at r7
          have hld := r7.loadAt (P := Tryd.prog) Tryd.underlying197 hsz8
          have hst := R4.out.storeAt (P := Tryd.prog) (ty := 197) (us := u32s D.l) hsz8 (by rw [u32s_length, u32s_length, HZ8.out]; rfl) (fun u hu => u32s_one hu)
          have hrow := R4.out.setRow (u32s D.l)
          have hos : Only [ww.heap.size + 1] wr (wr.setRow (ww.heap.size + 1) (u32s D.l).toArray) := Only.setRow _ _ _
          have Hrow := Lib.hid hrow
          have Hld := Lib.hid hld
          have Hst := Lib.hid hst
          clear hld hst hrow r7 hfull
          go_wp2_with (first | ((with_reducible show wpList _ _ _ _ _ _); refine wpl_load (ty := 197) (x := .tmp 7) rfl rfl rfl Hld.out ?_) | ((with_reducible show wpList _ _ _ _ _ _); refine wpl_store (ty := 197) (x := .tmp 4) (y := .tmp 114) rfl rfl rfl rfl Hst.out ?_))
          refine bodyPost_ret (results_cell_row (p := 4) rfl _ _ (ww.heap.size + 1) 197 (u32s D.l).toArray (0, 0) _ (by rfl) Hrow.out Tryd.underlying197 rfl (by rw [List.size_toArray, u32s_length]; exact hsz8)) (by rfl) ?_
          exact ⟨rfl, Ho.out.transN hos (by simp)⟩
end Go.Proofs.YtfoplbolbjcggaaDoor
