/- The walk of bollardlaw06.FrameBlocks. (Printed by wip/gen/frameblocks.py.) -/
import Derived.Test.YtfoplbolbjcggaaDoorFrameWholeW
import Derived.Test.YtfoplbolbjcggaaDoorRefBlocksW
import Derived.Deep.DeepCutAuto
import Derived.Deep.Cut
set_option linter.unusedVariables false
set_option maxRecDepth 100000
namespace Go.Proofs.YtfoplbolbjcggaaDoor
open Go.RowKit Go.Shelf
attribute [local go_sem] Oper.semAt_some

theorem u8_xor5 (x : UInt8) : bits .xor .u8 (x.toNat : Int) 5 = ((x ^^^ 5).toNat : Int) := u8_xor_u8 x 5
/-- what stays while the blocks are gone over -/
structure FbS (w0 w : World) (xs : List UInt8) (g : Nat) (p' : Option Addr) (k' : Nat) (base : Nat) (F : List Nat) (qW : Option Addr) (kW Wn R St gI : Nat) (stop : Int) (Ms : List Nat) : Prop where
  mks : ∀ m ∈ Ms, w.heap[m]? = some (.deferred (some []))
  blk : BlkAt w g p' k' xs
  lst : LstAt w base F qW (nblk xs) kW (chunks xs)
  rw : Row w Wn 25 [.slice qW (nblk xs) kW]
  rr : Row w R 4 [.bool false]
  rs : Row w St 3 [.int .i64 stop]
  ri : Row w gI 5 (u8s (xs ++ marks))
  only : Only [] w0 w
section
variable {w0 w w' : World} {xs : List UInt8} {g k' base kW Wn R St gI : Nat} {p' qW : Option Addr} {F T Ms : List Nat} {stop : Int}
/-- all these blocks lie below k -/
def FbLow (g : Nat) (p' : Option Addr) (F : List Nat) (Wn R St gI : Nat) (Ms : List Nat) (k : Nat) : Prop := (∀ x ∈ g :: blk p', x < k) ∧ (∀ x ∈ F, x < k) ∧ Wn < k ∧ R < k ∧ St < k ∧ gI < k ∧ (∀ m ∈ Ms, m < k)
theorem FbS.step {k : Nat} (h : FbS w0 w xs g p' k' base F qW kW Wn R St gI stop Ms) (hl : FbLow g p' F Wn R St gI Ms k) (ho : Only T w w') (hT : ∀ t ∈ T, k ≤ t) (hk : w0.heap.size ≤ k) : FbS w0 w' xs g p' k' base F qW kW Wn R St gI stop Ms := by
  have hn : ∀ x, x < k → x ∉ T := fun x hx hm => by have := hT x hm; omega
  exact ⟨fun m hm => (ho.block m (Array.getElem?_eq_some_iff.1 (h.mks m hm)).1 (hn m (hl.2.2.2.2.2.2 m hm))).trans (h.mks m hm), h.blk.only ho (fun x hx => hn x (hl.1 x hx)), h.lst.only ho (fun x hx => hn x (hl.2.1 x hx)), h.rw.only ho (hn _ hl.2.2.1), h.rr.only ho (hn _ hl.2.2.2.1), h.rs.only ho (hn _ hl.2.2.2.2.1), h.ri.only ho (hn _ hl.2.2.2.2.2.1), h.only.transN ho (fun t ht => by have := hT t ht; omega)⟩
theorem FbS.low (h : FbS w0 w xs g p' k' base F qW kW Wn R St gI stop Ms) : FbLow g p' F Wn R St gI Ms w.heap.size := by
  refine ⟨fun x hx => ?_, fun x hx => (h.lst.lo x hx).2, h.rw.lt, h.rr.lt, h.rs.lt, h.ri.lt, fun m hm => (Array.getElem?_eq_some_iff.1 (h.mks m hm)).1⟩
  rcases List.mem_cons.1 hx with rfl | hx
  · exact h.blk.row.lt
  · exact blkLt h.blk.own x hx
end

set_option maxHeartbeats 32000000 in
theorem frameBlocks_any (p : Option Addr) (xs : List UInt8) (n c : Nat) (stop : Int) (w0 : World) (hn : xs.length = n) (hnc : n ≤ c) (hb : n ≤ 140737488351232) (hp : p = none → n = 0 ∧ c = 0) (hx : Rd w0 p (u8s xs)) :
    Calls Tryd.prog 3 #[.slice p n c, .int .i64 stop] w0 fun e w' => e = .returned (.bool true) ∧ Only [] w0 w' := by
  obtain ⟨w1, hw1⟩ : ∃ w1, w1 = (w0.alloc (.cells #[.int .i64 stop] 3)).alloc (.cells #[.bool false] 4) := ⟨_, rfl⟩
  obtain ⟨wq, hwq⟩ : ∃ wq, wq = w0.alloc (.cells #[.int .i64 stop] 3) := ⟨_, rfl⟩
  have zq : wq.heap.size = w0.heap.size + 1 := by rw [hwq]; exact Array.size_push ..
  have oq : Only [] w0 wq := by rw [hwq]; exact Only.alloc _ _
  have o1' : Only [] wq w1 := by rw [hw1, ← hwq]; exact Only.alloc _ _
  have rS : Row w1 w0.heap.size 3 [.int .i64 stop] := (show Row wq w0.heap.size 3 [.int .i64 stop] by rw [hwq]; exact Row.newOf _ _ _ _ rfl).only0 o1'
  have rR : Row w1 (w0.heap.size + 1) 4 [.bool false] := by rw [hw1, ← hwq, ← zq]; exact Row.newOf _ _ _ _ rfl
  have o1 : Only [] w0 w1 := oq.trans0 o1'
  have hal := alive06_any w1
  have Hw1 := Lib.hid hw1
  have HO1 := Lib.hid o1
  have HS1 := Lib.hid rS
  have HR1 := Lib.hid rR
  have Hx := Lib.hid hx
  have Hn := Lib.hid hn
  have Hp := Lib.hid hp
  clear hw1 o1 rS rR hx hn hp oq o1' zq hwq
  refine calls_of_marks Tryd.func3 rfl ?_
  simp only [Tryd.ntmps3, List.size_toArray, List.length_cons, List.length_nil, Nat.reduceAdd, Nat.reduceSub, Array.replicate_succ, Array.replicate_zero, List.push_toArray, List.append_toArray, List.nil_append, List.cons_append]
  go_wp2_with fail
  rw [← Hw1.out]
  refine hal.mono ?_
  clear hal
  rintro e w2 ⟨rfl, o2⟩
  have hby := bytes_any p xs n c w2 Hn.out hb Hp.out (Hx.out.only0 (HO1.out.trans0 o2))
  have HO2 := Lib.hid (HO1.out.trans0 o2)
  have HS2 := Lib.hid (HS1.out.only0 o2)
  have HR2 := Lib.hid (HR1.out.only0 o2)
  clear o2
  go_wp2_with fail
  refine hby.mono ?_
  clear hby
  rintro e w3 ⟨gI, rfl, hgI, rI, o3⟩
  have hrb := refBlocks_any p xs n c w3 Hn.out hnc hb Hp.out (Hx.out.only0 (HO2.out.trans0 o3))
  have HO3 := Lib.hid (HO2.out.trans0 o3)
  have HS3 := Lib.hid (HS2.out.only0 o3)
  have HR3 := Lib.hid (HR2.out.only0 o3)
  have HI3 := Lib.hid rI
  clear o3 rI
  go_wp2_with fail
  refine hrb.mono ?_
  clear hrb
  rintro e w4 ⟨F, qW, kW, rfl, hL, o4⟩
  obtain ⟨w5, hw5⟩ : ∃ w5, w5 = w4.alloc (.cells #[.slice qW (nblk xs) kW] 25) := ⟨_, rfl⟩
  have o5 : Only [] w4 w5 := by rw [hw5]; exact Only.alloc _ _
  have rW : Row w5 w4.heap.size 25 [.slice qW (nblk xs) kW] := by rw [hw5]; exact Row.newOf _ _ _ _ rfl
  have HO5 := Lib.hid ((HO3.out.trans0 o4).trans0 o5)
  have o45 := o4.trans0 o5
  have hI5 := HI3.out.only0 o45
  have hbk := blocks_any (some ⟨gI, 0, none⟩) xs n (n + 6) w5 Hn.out (by omega) (by simp) (by
    have := hI5.rd0.take n
    rw [u8s_take, List.take_left' Hn.out] at this
    exact this)
  have HI5 := Lib.hid hI5
  have HS5 := Lib.hid (HS3.out.only0 o45)
  have HR5 := Lib.hid (HR3.out.only0 o45)
  have HL5 := Lib.hid (hL.only o5 (by simp))
  have HW5 := Lib.hid rW
  have Hw5 := Lib.hid hw5
  clear hL o4 o5 rW o45 hI5 hw5
  go_wp2_with fail
  rw [← Hw5.out]
  refine hbk.mono ?_
  clear hbk Hw5
  rintro e wA0 ⟨g, p', k', rfl, hBk, ob, hlo⟩
  have HA0 : Hid (FbS w0 wA0 xs g p' k' w3.heap.size F qW kW w4.heap.size (w0.heap.size + 1) w0.heap.size gI stop []) := Lib.hid ⟨by simp, hBk, HL5.out.only ob (by simp), HW5.out.only0 ob, HR5.out.only0 ob, HS5.out.only0 ob, HI5.out.only0 ob, HO5.out.trans0 ob⟩
  have hm0 : Hid (True) := Lib.hid trivial
  generalize w3.heap.size = base at HA0
  generalize hWe : w4.heap.size = Wn at *
  generalize hRe : w0.heap.size + 1 = R at *
  have HRe := Lib.hid hRe
  clear hRe
  clear hBk ob hlo HI3 HS3 HR3 HO3 HO5 HI5 HS5 HR5 HL5 HW5 HS1 HR1 HO1 HO2 HS2 HR2 hgI Hw1
  unfold blkF
  have hnN : nblk xs ≤ 4398046511104 := by unfold nblk; rw [Hn.out]; omega
  generalize hNe : nblk xs = N at *
  have HNe := Lib.hid hNe
  clear hNe
  go_wp2_with fail
  refine wp_loop_rounds 3 ?_
  rw [rounds_succ]
  obtain ⟨wB1, hwB1⟩ : ∃ wB, wB = wA0.alloc (.cells #[.int .i64 0] 3) := ⟨_, rfl⟩
  have oB1 : Only [] wA0 wB1 := by rw [hwB1]; exact Only.alloc _ _
  have rB1 : Row wB1 wA0.heap.size 3 [.int .i64 0] := by rw [hwB1]; exact Row.newOf _ _ _ _ rfl
  have HB1 := Lib.hid (HA0.out.step HA0.out.low oB1 (by simp) HA0.out.only.size)
  have HrB1 := Lib.hid rB1
  have HoB1 := Lib.hid oB1
  have HwB1 := Lib.hid hwB1
  clear oB1 rB1 hwB1
  go_wp2_with fail
  rw [← HwB1.out]
  generalize hYe1 : wA0.heap.size = Y1 at *
  have HYe1 := Lib.hid hYe1
  clear hYe1 HwB1
  refine wp_rangeB (xs := blks xs) 2 rfl (enters_of Tryd.func44 (by kernel_rfl) rfl) (blocks_seq HB1.out.blk (by rw [Hn.out]; exact hb)) HB1.out.low.1 (by rintro _ _ _ _ ⟨_, _, rfl, -, -⟩; rfl) (fun _ _ h => h)
    (fun ys D w => D = [Y1] ∧ Row w Y1 3 [.int .i64 (ys.length : Int)] ∧ FbS w0 w xs g p' k' base F qW kW Wn R w0.heap.size gI stop [])
    (fun ys D w => D = [Y1] ∧ Row w Y1 3 [.int .i64 stop] ∧ FbS w0 w xs g p' k' base F qW kW Wn R w0.heap.size gI stop [])
    (fun D w => ∃ v : Int, (v = (N : Int) ∨ v = stop) ∧ D = [Y1] ∧ Row w Y1 3 [.int .i64 v] ∧ FbS w0 w xs g p' k' base F qW kW Wn R w0.heap.size gI stop []) [Y1] ?hD0 ?hI ?hIx ⟨rfl, HrB1.out, HB1.out⟩ ?round (fun D B ⟨h1, h2, h3⟩ => ⟨_, .inl (by rw [blks_length, HNe.out]), h1, h2, h3⟩) (fun ys D B ⟨h1, h2, h3⟩ => ⟨_, .inr rfl, h1, h2, h3⟩) ?done
  case hD0 =>
    intro d hd
    obtain rfl := List.mem_singleton.1 hd
    exact ⟨fun hm => by have := HA0.out.low.1 _ hm; rw [HYe1.out] at this; omega, HrB1.out.lt⟩
  case hI =>
    rintro ys D A B T ⟨rfl, h1, h2⟩ ho hT
    exact ⟨rfl, h1.only ho (fun hm => (hT _ hm).1 (by simp)), h2.step HB1.out.low ho (fun t ht => (hT t ht).2) HB1.out.only.size⟩
  case hIx =>
    rintro ys D A B T ⟨rfl, h1, h2⟩ ho hT
    exact ⟨rfl, h1.only ho (fun hm => (hT _ hm).1 (by simp)), h2.step HB1.out.low ho (fun t ht => (hT t ht).2) HB1.out.only.size⟩
  case round =>
    rintro l ys ⟨ib, cs⟩ zs D A vs G hl1 hl2 hDG hG ⟨rfl, rN, hS⟩ hxs ⟨qb, kb2, rfl, rfl, hown⟩
    obtain ⟨hxe, hys, hyn⟩ := blks_at hxs
    obtain ⟨rfl, rfl⟩ : ib = ys.length ∧ cs = chunk xs ys.length := by simpa using hxe
    have hlen1 : ∀ z : Nat × List UInt8, (ys ++ [z]).length = ys.length + 1 := fun z => by rw [List.length_append]; rfl
    generalize hi : ys.length = i at *
    rw [HNe.out] at hys
    have hck := chunks_get xs (i := i) (by rw [HNe.out]; exact hys)
    have hcl := chunk_length xs i
    rw [Hn.out] at hyn hcl
    dsimp only at hown ⊢
    obtain ⟨mb, hmb⟩ : ∃ mb, (chunk xs i).length = mb := ⟨_, rfl⟩
    rw [hmb] at hown hcl ⊢
    have HG := Lib.hid hG
    have HDG := Lib.hid hDG
    have Hown := Lib.hid hown
    have HL := Lib.hid hmb
    have HS := Lib.hid hS
    have HrN := Lib.hid rN
    have Hlen1 := Lib.hid hlen1
    have hlo0 : w0.heap.size ≤ wB1.heap.size := HB1.out.only.size
    have hmb0 : mb ≤ 32 := by omega
    clear hS hG hDG hown hmb hxs hxe rN hi hlen1 hcl
    gi_wp2_with fail
    refine ⟨Only.refl _ _, fun A2 o2 hs2 => ?_⟩
    have hS2 := HS.out.step HB1.out.low o2 (fun t ht => by obtain rfl := List.mem_singleton.1 ht; omega) hlo0
    have rN2 := HrN.out.only o2 (fun hm => by
      have h1 := List.mem_singleton.1 hm
      exact (HDG.out Y1 (by simp)).1 h1)
    have own2 := Hown.out.only o2 (fun x hx hm => by
      have h1 := List.mem_singleton.1 hm
      exact (HDG.out x (List.mem_append_right _ (ownBlk hx))).1 h1)
    obtain ⟨b, gj, cj, hqW, hcell, hownj⟩ := hS2.lst.cell hck
    rw [HL.out] at hcell hownj
    have cN := rN2.cell (i := 0) rfl
    have cW := hS2.rw.cell (i := 0) rfl
    rw [HNe.out, hqW] at cW
    have cS := hS2.rs.cell (i := 0) rfl
    have Hrd1 : Hid (Rd A2 qb (u8s (chunk xs i))) := Lib.hid own2.view.1
    have Hnil1 : Hid (qb = none → mb = 0 ∧ kb2 = 0) := Lib.hid own2.view.2.2.1
    have Hrd2 : Hid (Rd A2 (some ⟨gj, 0, none⟩) (u8s (chunk xs i))) := Lib.hid hownj.view.1
    have HS2 := Lib.hid hS2
    have HrN2 := Lib.hid rN2
    have Hown2 := Lib.hid own2
    have hii : (i : Int) < (N : Int) := by omega
    have hib : i ≤ 4398046511104 := by omega
    have hcs : (⟨(chunk xs i).toArray⟩ : ByteArray) = ⟨(chunk xs i).toArray⟩ := rfl
    obtain ⟨sb, hsb⟩ : ∃ sb : ByteArray, sb = ⟨(chunk xs i).toArray⟩ := ⟨_, rfl⟩
    have Hsb := Lib.hid hsb
    have hNi : ¬ N ≤ i := by omega
    clear hS2 rN2 own2 hownj hck hcs hsb hys hyn hqW
    gi_wp2_with fail
    -- <<R12
    refine wpIn_region_rg2 (Only []) [[(9, none)], [(8, none)], [(25, some 1), (26, some 0)], [(27, some 0)], [(28, some 0), (8, none)], [(28, some 1), (6, none)], [(28, some 2), (30, some 0)], [(28, some 3), (29, some 2), (31, some 0)], [(28, some 4), (32, some 0)], [(33, some 0)], [(34, some 0), (10, none)], [(34, some 1), (35, some 0)], [(34, some 2), (6, none)], [(34, some 3), (8, none)], [(34, some 4), (37, some 1), (38, some 0)], [(34, some 5), (39, some 0)], [(34, some 6), (40, some 0)], [(34, some 7), (36, some 5), (41, some 0)], [(34, some 8), (42, some 0)]] [(43, 0)] [none, none, none, none, none, none, none, none, none, none, none, none, none, none, none, none, none, none, none, none, none, none, none, none, none, some 25, some 26, some 27, some 28, some 29, some 30, some 31, some 32, some 33, some 34, some 35, some 36, some 37, some 38, some 39, some 40, some 41, some 42, some 43, none, none, none, none, none, none, none, none, none, none, none, none, none, none, none, none, none, none, none, none, none, none, none, none, none, none, none, none, none, none] (by kernel_rfl) rfl (by kernel_rfl) (fun _ => Only.refl _ _) (fun _ _ _ h k => h.trans0 k) (Only.drew _) (by kernel_rfl) (by kernel_rfl) ?_
    -- 0: s25 := move t9
    apply rg_ev
    · intro a w hR hf
      obtain ⟨e9, -⟩ := hf
      replace e9 : a.tmps.getD 9 undef = _ := e9
      refine rg_plain rfl fun K hK => ?_
      go_simp
      exact hK _ _ rfl (Only.refl _ _)
    -- 1: s26 := load 3 t8
    apply rg_ev
    · intro a w hR hf
      obtain ⟨e8, -⟩ := hf
      replace e8 : a.tmps.getD 8 undef = _ := e8
      refine rg_plain rfl fun K hK => ?_
      have h1 := hR.cell cN (by simp)
      go_simp
      exact hK _ _ rfl (Only.refl _ _)
    -- 2: s27 := binOp Binneq 3 t25 t26 3
    apply rg_ev
    · intro a w hR hf
      obtain ⟨e25, e26, -⟩ := hf
      replace e25 : a.tmps.getD 25 undef = _ := e25
      replace e26 : a.tmps.getD 26 undef = _ := e26
      refine rg_plain rfl fun K hK => ?_
      go_simp
      exact hK _ _ rfl (Only.refl _ _)
    -- 3: s28 := move t27
    apply rg_ev
    · intro a w hR hf
      obtain ⟨e27, -⟩ := hf
      replace e27 : a.tmps.getD 27 undef = _ := e27
      refine rg_plain rfl fun K hK => ?_
      go_simp
      exact hK _ _ rfl (Only.refl _ _)
    -- 4: s29 := load 3 t8 [if 3=false]
    apply rg_ev
    · intro a w hR hf
      obtain ⟨e28, e8, -⟩ := hf
      replace e28 : a.tmps.getD 28 undef = _ := e28
      replace e8 : a.tmps.getD 8 undef = _ := e8
      refine rg_want rfl rfl e28 fun K hK => ?_
      clear e28
      have h1 := hR.cell cN (by simp)
      go_simp
      exact hK _ _ rfl (Only.refl _ _)
    -- 5: s30 := load 25 t6 [if 3=false]
    apply rg_ev
    · intro a w hR hf
      obtain ⟨e28, e6, -⟩ := hf
      replace e28 : a.tmps.getD 28 undef = _ := e28
      replace e6 : a.tmps.getD 6 undef = _ := e6
      refine rg_want rfl rfl e28 fun K hK => ?_
      clear e28
      have h1 := hR.cell cW (by simp)
      go_simp
      exact hK _ _ rfl (Only.refl _ _)
    -- 6: s31 := call { builtin len, args := #[t30], #[25] } [if 3=false]
    apply rg_ev
    · intro a w hR hf
      obtain ⟨e28, e30, -⟩ := hf
      replace e28 : a.tmps.getD 28 undef = _ := e28
      replace e30 : a.tmps.getD 30 undef = _ := e30
      refine rg_want rfl rfl e28 fun K hK => ?_
      clear e28
      go_simp
      exact hK _ _ rfl (Only.refl _ _)
    -- 7: s32 := binOp Bingeq 3 t29 t31 3 [if 3=false]
    apply rg_ev
    · intro a w hR hf
      obtain ⟨e28, e29, e31, -⟩ := hf
      replace e28 : a.tmps.getD 28 undef = _ := e28
      replace e29 : a.tmps.getD 29 undef = _ := e29
      replace e31 : a.tmps.getD 31 undef = _ := e31
      refine rg_want rfl rfl e28 fun K hK => ?_
      clear e28
      go_simp
      exact hK _ _ rfl (Only.refl _ _)
    -- 8: s33 := pick t28 (const (Value.bool true)) t32
    apply rg_ev
    · intro a w hR hf
      obtain ⟨e28, e32, -⟩ := hf
      replace e28 : a.tmps.getD 28 undef = _ := e28
      replace e32 : a.tmps.getD 32 undef = _ := e32
      refine rg_plain rfl fun K hK => ?_
      go_simp
      exact hK _ _ rfl (Only.refl _ _)
    -- 9: s34 := move t33
    apply rg_ev
    · intro a w hR hf
      obtain ⟨e33, -⟩ := hf
      replace e33 : a.tmps.getD 33 undef = _ := e33
      refine rg_plain rfl fun K hK => ?_
      go_simp
      exact hK _ _ rfl (Only.refl _ _)
    -- 10: s35 := move t10 [if 9=false]
    apply rg_ev
    · intro a w hR hf
      obtain ⟨e34, e10, -⟩ := hf
      replace e34 : a.tmps.getD 34 undef = _ := e34
      replace e10 : a.tmps.getD 10 undef = _ := e10
      refine rg_want rfl rfl e34 fun K hK => ?_
      clear e34
      go_simp
      exact hK _ _ rfl (Only.refl _ _)
    -- 11: s36 := convert 22 9 t35 [if 9=false]
    apply rg_ev
    · intro a w hR hf
      obtain ⟨e34, e35, -⟩ := hf
      replace e34 : a.tmps.getD 34 undef = _ := e34
      replace e35 : a.tmps.getD 35 undef = _ := e35
      refine rg_want rfl rfl e34 fun K hK => ?_
      clear e34
      have hcv := conv_bytes (P := Tryd.prog) (src := 22) (dst := 9) w Tryd.underlying22 Tryd.underlying5 Tryd.underlying9 (c := kb2) (n := mb) (Hrd1.out.only0 hR) HL.out Hnil1.out
      rw [← Hsb.out] at hcv
      go_simp
      exact hK _ _ rfl (Only.refl _ _)
    -- 12: s37 := load 25 t6 [if 9=false]
    apply rg_ev
    · intro a w hR hf
      obtain ⟨e34, e6, -⟩ := hf
      replace e34 : a.tmps.getD 34 undef = _ := e34
      replace e6 : a.tmps.getD 6 undef = _ := e6
      refine rg_want rfl rfl e34 fun K hK => ?_
      clear e34
      have h1 := hR.cell cW (by simp)
      go_simp
      exact hK _ _ rfl (Only.refl _ _)
    -- 13: s38 := load 3 t8 [if 9=false]
    apply rg_ev
    · intro a w hR hf
      obtain ⟨e34, e8, -⟩ := hf
      replace e34 : a.tmps.getD 34 undef = _ := e34
      replace e8 : a.tmps.getD 8 undef = _ := e8
      refine rg_want rfl rfl e34 fun K hK => ?_
      clear e34
      have h1 := hR.cell cN (by simp)
      go_simp
      exact hK _ _ rfl (Only.refl _ _)
    -- 14: s39 := indexAddr 25 t37 t38 [if 9=false]
    apply rg_ev
    · intro a w hR hf
      obtain ⟨e34, e37, e38, -⟩ := hf
      replace e34 : a.tmps.getD 34 undef = _ := e34
      replace e37 : a.tmps.getD 37 undef = _ := e37
      replace e38 : a.tmps.getD 38 undef = _ := e38
      refine rg_want rfl rfl e34 fun K hK => ?_
      clear e34
      go_simp
      exact hK _ _ rfl (Only.refl _ _)
    -- 15: s40 := load 22 t39 [if 9=false]
    apply rg_ev
    · intro a w hR hf
      obtain ⟨e34, e39, -⟩ := hf
      replace e34 : a.tmps.getD 34 undef = _ := e34
      replace e39 : a.tmps.getD 39 undef = _ := e39
      refine rg_want rfl rfl e34 fun K hK => ?_
      clear e34
      have h1 := hR.cell hcell (by simp)
      go_simp
      exact hK _ _ rfl (Only.refl _ _)
    -- 16: s41 := convert 22 9 t40 [if 9=false]
    apply rg_ev
    · intro a w hR hf
      obtain ⟨e34, e40, -⟩ := hf
      replace e34 : a.tmps.getD 34 undef = _ := e34
      replace e40 : a.tmps.getD 40 undef = _ := e40
      refine rg_want rfl rfl e34 fun K hK => ?_
      clear e34
      have hcv := conv_bytes (P := Tryd.prog) (src := 22) (dst := 9) w Tryd.underlying22 Tryd.underlying5 Tryd.underlying9 (c := cj) (n := mb) (p := some ⟨gj, 0, none⟩) (Hrd2.out.only0 hR) HL.out (by simp)
      rw [← Hsb.out] at hcv
      go_simp
      exact hK _ _ rfl (Only.refl _ _)
    -- 17: s42 := binOp Binneq 9 t36 t41 9 [if 9=false]
    apply rg_ev
    · intro a w hR hf
      obtain ⟨e34, e36, e41, -⟩ := hf
      replace e34 : a.tmps.getD 34 undef = _ := e34
      replace e36 : a.tmps.getD 36 undef = _ := e36
      replace e41 : a.tmps.getD 41 undef = _ := e41
      refine rg_want rfl rfl e34 fun K hK => ?_
      clear e34
      go_simp
      exact hK _ _ rfl (Only.refl _ _)
    -- 18: s43 := pick t34 (const (Value.bool true)) t42
    apply rg_ev
    · intro a w hR hf
      obtain ⟨e34, e42, -⟩ := hf
      replace e34 : a.tmps.getD 34 undef = _ := e34
      replace e42 : a.tmps.getD 42 undef = _ := e42
      refine rg_plain rfl fun K hK => ?_
      go_simp
      exact hK _ _ rfl (Only.refl _ _)
    intro f12 w12 hR12 hf
    dsimp only [mergeT]
    obtain ⟨e43, -⟩ := hf
    replace e43 : f12 43 = _ := e43
    rw [e43]
    -- R12>>
    clear cN cW cS hcell
    have HS3 := Lib.hid (HS2.out.step HB1.out.low hR12 (by simp) hlo0)
    have HrN3 := Lib.hid (HrN2.out.only0 hR12)
    have Hown3 := Lib.hid (Hown2.out.only0 hR12)
    gi_wp2_with fail
    gi_loopw [46] (fun a wr => ∃ (j : Nat) (ys2 : List UInt8), a = .int .i64 (j : Int) ∧ j ≤ mb ∧ Hid (ys2.length = mb) ∧ Hid (Own wr 0 5 (.slice qb mb kb2) (u8s ys2)) ∧ Hid (Only (blk qb) w12 wr)) (fun a _ => mb - (intOf a).toNat)
    case atStart => exact ⟨0, chunk xs i, rfl, Nat.zero_le _, HL, Hown3, Lib.hid (Only.refl _ _)⟩
    case round =>
      obtain ⟨j, ys2, rfl, hj, Hys, Hr, HO⟩ := hrel
      by_cases hlt : j < mb
      · have hji : (j : Int) < (mb : Int) := by omega
        obtain ⟨gb, hgb, -, -⟩ := Hr.out.at (by omega)
        have hown := Hr.out
        rw [hgb] at hown
        have hjl : j < ys2.length := by rw [Hys.out]; exact hlt
        have hcj := hown.cellAt (u8s_get hjl)
        generalize ys2[j]'hjl = y at hcj
        obtain ⟨hfj, hset⟩ := hown.set hlt (u8 (y ^^^ 5))
        have hx5 := u8_xor5 y
        rw [u8s_set] at hset
        have Hr2 : Hid (Own (wr.setCell ⟨gb, j, none⟩ (.int .u8 ((y ^^^ 5).toNat : Int))) 0 5 (.slice qb mb kb2) (u8s (ys2.set j (y ^^^ 5)))) := Lib.hid (by rw [hgb]; exact hset)
        have HO7 : Hid (Only (blk qb) w12 (wr.setCell ⟨gb, j, none⟩ (.int .u8 ((y ^^^ 5).toNat : Int)))) := Lib.hid (HO.out.trans (Only.setCell _ ⟨gb, j, none⟩ _) (fun i hi _ => by obtain rfl := List.mem_singleton.1 hi; rw [hgb]; simp [blk]))
        have Hys2 : Hid ((ys2.set j (y ^^^ 5)).length = mb) := Lib.hid (by rw [List.length_set]; exact Hys.out)
        clear hown hjl hset
        gi_wp2_with fail
        refine ⟨⟨j + 1, ys2.set j (y ^^^ 5), by go_num, by omega, Hys2, Hr2, HO7⟩, ?_⟩
        show mb - ((j : Int) + 1).toNat < mb - ((j : Int)).toNat
        omega
      · obtain rfl : j = mb := by omega
        have hji : ¬ (j : Int) < (j : Int) := by omega
        have hYq : Y1 ∉ blk qb := fun hm => (HG.out _ hm).1 (by simp)
        have rN4 := HrN3.out.only HO.out hYq
        have cN := rN4.cell (i := 0) rfl
        have fN := rN4.free 0
        have hS4 := HS3.out.step HB1.out.low HO.out (fun t ht => (HG.out t ht).2) hlo0
        obtain ⟨w6, hw6⟩ : ∃ w6, w6 = wr.setCell ⟨Y1, 0, none⟩ (.int .i64 ((i : Int) + 1)) := ⟨_, rfl⟩
        have o6 : Only [Y1] wr w6 := by rw [hw6]; exact Only.setCell _ ⟨_, 0, none⟩ _
        have rN6 : Row w6 Y1 3 [.int .i64 ((i : Int) + 1)] := by rw [hw6]; exact rN4.setCell 0 _
        have hYlo : wA0.heap.size ≤ Y1 := by rw [HYe1.out]; exact Nat.le_refl _
        have hS6 := hS4.step HA0.out.low o6 (fun t ht => by obtain rfl := List.mem_singleton.1 ht; exact hYlo) HA0.out.only.size
        have cS6 := hS6.rs.cell (i := 0) rfl
        have cN6 := rN6.cell (i := 0) rfl
        have hOall : Only (Y1 :: blk qb) A2 w6 := ((hR12.mono (by simp)).trans HO.out (fun i hi _ => by simp [hi])).trans o6 (fun i hi _ => by simp at hi; simp [hi])
        have hsub : ∀ s ∈ Y1 :: blk qb, s ∈ [Y1] ++ blk qb ∨ A.heap.size ≤ s := fun s hs => .inl (by simpa using hs)
        have hD' : ∀ d ∈ [Y1], (d ∈ [Y1] ++ blk qb ∨ A.heap.size ≤ d) ∧ d < w6.heap.size := fun d hd => by
          obtain rfl := List.mem_singleton.1 hd
          exact ⟨.inl (by simp), rN6.lt⟩
        have HOall := Lib.hid hOall
        have Hsub := Lib.hid hsub
        have HD' := Lib.hid hD'
        have HS6 := Lib.hid hS6
        have HrN6 := Lib.hid rN6
        have Hw6 := Lib.hid hw6
        rw [hw6] at cS6 cN6
        clear rN4 hS4 hw6 o6 rN6 hYlo hS6 hOall hsub hD' hYq
        by_cases hst : (i : Int) + 1 = stop
        · have hstb : ((i : Int) + 1 == stop) = true := by simp [hst]
          have Hst := Lib.hid hst
          clear hst
          gi_wp2_with fail
          rw [← Hw6.out]
          exact ⟨_, [Y1], HOall.out, Hsub.out, HD'.out, rfl, rfl, by rw [← Hst.out]; exact HrN6.out, HS6.out⟩
        · have hstb : ((i : Int) + 1 == stop) = false := by simp [hst]
          clear hst
          gi_wp2_with fail
          rw [← Hw6.out]
          refine ⟨_, [Y1], HOall.out, Hsub.out, HD'.out, rfl, ?_, HS6.out⟩
          rw [Hlen1.out]
          exact HrN6.out
  case done =>
  rintro D wA1 ⟨v, hv, rfl, rN, hS⟩ hd hk
  have cN := rN.cell (i := 0) rfl
  have cW := hS.rw.cell (i := 0) rfl
  rw [HNe.out] at cW
  have cS := hS.rs.cell (i := 0) rfl
  have hkY : wB1.heap.size < wA1.heap.size := (Array.getElem?_eq_some_iff.1 hk).1
  have HA1 : Hid (FbS w0 wA1 xs g p' k' base F qW kW Wn R w0.heap.size gI stop [wB1.heap.size]) := Lib.hid ⟨by
    intro m hm
    rcases List.mem_cons.1 hm with rfl | hm
    · exact hk
    · exact hS.mks m hm, hS.blk, hS.lst, hS.rw, hS.rr, hS.rs, hS.ri, hS.only⟩
  have Hk1 := Lib.hid hk
  have HkY1 := Lib.hid hkY
  clear rN hS hd hk hkY
  go_upto_region 21 with (fail)
  go_cut [69] from 61 to 69 (fun b wx => b = .bool false ∧ wx = wA1)
  case first =>
    rcases hv with rfl | rfl
    · skip
      go_wp2_with fail
      go_meet
      exact ⟨rfl, rfl⟩
    · by_cases hsN : v = (N : Int)
      · have hsb : (v != (N : Int)) = false := by simp [hsN]
        clear hsN
        go_wp2_with fail
        go_meet
        exact ⟨rfl, rfl⟩
      · have hsb : (v != (N : Int)) = true := by simp [hsN]
        clear hsN
        go_wp2_with fail
        go_meet
        exact ⟨rfl, rfl⟩
  case rest =>
  obtain ⟨rfl, hwc⟩ := hcut
  have hwc2 := hwc.symm
  subst hwc2
  clear cN cW cS hv
  go_wp2_with fail
  rw [rounds_succ]
  obtain ⟨wB2, hwB2⟩ : ∃ wB, wB = wA1.alloc (.cells #[.int .i64 0] 3) := ⟨_, rfl⟩
  have oB2 : Only [] wA1 wB2 := by rw [hwB2]; exact Only.alloc _ _
  have rB2 : Row wB2 wA1.heap.size 3 [.int .i64 0] := by rw [hwB2]; exact Row.newOf _ _ _ _ rfl
  have HB2 := Lib.hid (HA1.out.step HA1.out.low oB2 (by simp) HA1.out.only.size)
  have HrB2 := Lib.hid rB2
  have HoB2 := Lib.hid oB2
  have HwB2 := Lib.hid hwB2
  clear oB2 rB2 hwB2
  go_wp2_with fail
  rw [← HwB2.out]
  generalize hYe2 : wA1.heap.size = Y2 at *
  have HYe2 := Lib.hid hYe2
  clear hYe2 HwB2
  refine wp_rangeB (xs := blks xs) 2 rfl (enters_of Tryd.func44 (by kernel_rfl) rfl) (blocks_seq HB2.out.blk (by rw [Hn.out]; exact hb)) HB2.out.low.1 (by rintro _ _ _ _ ⟨_, _, rfl, -, -⟩; rfl) (fun _ _ h => h)
    (fun ys D w => D = [Y2] ∧ Row w Y2 3 [.int .i64 (ys.length : Int)] ∧ FbS w0 w xs g p' k' base F qW kW Wn R w0.heap.size gI stop [wB1.heap.size])
    (fun ys D w => D = [Y2] ∧ Row w Y2 3 [.int .i64 stop] ∧ FbS w0 w xs g p' k' base F qW kW Wn R w0.heap.size gI stop [wB1.heap.size])
    (fun D w => ∃ v : Int, (v = (N : Int) ∨ v = stop) ∧ D = [Y2] ∧ Row w Y2 3 [.int .i64 v] ∧ FbS w0 w xs g p' k' base F qW kW Wn R w0.heap.size gI stop [wB1.heap.size]) [Y2] ?hD0 ?hI ?hIx ⟨rfl, HrB2.out, HB2.out⟩ ?round (fun D B ⟨h1, h2, h3⟩ => ⟨_, .inl (by rw [blks_length, HNe.out]), h1, h2, h3⟩) (fun ys D B ⟨h1, h2, h3⟩ => ⟨_, .inr rfl, h1, h2, h3⟩) ?done
  case hD0 =>
    intro d hd
    obtain rfl := List.mem_singleton.1 hd
    exact ⟨fun hm => by have := HA1.out.low.1 _ hm; rw [HYe2.out] at this; omega, HrB2.out.lt⟩
  case hI =>
    rintro ys D A B T ⟨rfl, h1, h2⟩ ho hT
    exact ⟨rfl, h1.only ho (fun hm => (hT _ hm).1 (by simp)), h2.step HB2.out.low ho (fun t ht => (hT t ht).2) HB2.out.only.size⟩
  case hIx =>
    rintro ys D A B T ⟨rfl, h1, h2⟩ ho hT
    exact ⟨rfl, h1.only ho (fun hm => (hT _ hm).1 (by simp)), h2.step HB2.out.low ho (fun t ht => (hT t ht).2) HB2.out.only.size⟩
  case round =>
    rintro l ys ⟨ib, cs⟩ zs D A vs G hl1 hl2 hDG hG ⟨rfl, rN, hS⟩ hxs ⟨qb, kb2, rfl, rfl, hown⟩
    obtain ⟨hxe, hys, hyn⟩ := blks_at hxs
    obtain ⟨rfl, rfl⟩ : ib = ys.length ∧ cs = chunk xs ys.length := by simpa using hxe
    have hlen1 : ∀ z : Nat × List UInt8, (ys ++ [z]).length = ys.length + 1 := fun z => by rw [List.length_append]; rfl
    generalize hi : ys.length = i at *
    rw [HNe.out] at hys
    have hck := chunks_get xs (i := i) (by rw [HNe.out]; exact hys)
    have hcl := chunk_length xs i
    rw [Hn.out] at hyn hcl
    dsimp only at hown ⊢
    obtain ⟨mb, hmb⟩ : ∃ mb, (chunk xs i).length = mb := ⟨_, rfl⟩
    rw [hmb] at hown hcl ⊢
    have HG := Lib.hid hG
    have HDG := Lib.hid hDG
    have Hown := Lib.hid hown
    have HL := Lib.hid hmb
    have HS := Lib.hid hS
    have HrN := Lib.hid rN
    have Hlen1 := Lib.hid hlen1
    have hlo0 : w0.heap.size ≤ wB2.heap.size := HB2.out.only.size
    have hmb0 : mb ≤ 32 := by omega
    clear hS hG hDG hown hmb hxs hxe rN hi hlen1 hcl
    gi_wp2_with fail
    refine ⟨Only.refl _ _, fun A2 o2 hs2 => ?_⟩
    have hS2 := HS.out.step HB2.out.low o2 (fun t ht => by obtain rfl := List.mem_singleton.1 ht; omega) hlo0
    have rN2 := HrN.out.only o2 (fun hm => by
      have h1 := List.mem_singleton.1 hm
      exact (HDG.out Y2 (by simp)).1 h1)
    have own2 := Hown.out.only o2 (fun x hx hm => by
      have h1 := List.mem_singleton.1 hm
      exact (HDG.out x (List.mem_append_right _ (ownBlk hx))).1 h1)
    obtain ⟨b, gj, cj, hqW, hcell, hownj⟩ := hS2.lst.cell hck
    rw [HL.out] at hcell hownj
    have cN := rN2.cell (i := 0) rfl
    have cW := hS2.rw.cell (i := 0) rfl
    rw [HNe.out, hqW] at cW
    have cS := hS2.rs.cell (i := 0) rfl
    have Hrd1 : Hid (Rd A2 qb (u8s (chunk xs i))) := Lib.hid own2.view.1
    have Hnil1 : Hid (qb = none → mb = 0 ∧ kb2 = 0) := Lib.hid own2.view.2.2.1
    have Hrd2 : Hid (Rd A2 (some ⟨gj, 0, none⟩) (u8s (chunk xs i))) := Lib.hid hownj.view.1
    have HS2 := Lib.hid hS2
    have HrN2 := Lib.hid rN2
    have Hown2 := Lib.hid own2
    have hii : (i : Int) < (N : Int) := by omega
    have hib : i ≤ 4398046511104 := by omega
    have hcs : (⟨(chunk xs i).toArray⟩ : ByteArray) = ⟨(chunk xs i).toArray⟩ := rfl
    obtain ⟨sb, hsb⟩ : ∃ sb : ByteArray, sb = ⟨(chunk xs i).toArray⟩ := ⟨_, rfl⟩
    have Hsb := Lib.hid hsb
    have hNi : ¬ N ≤ i := by omega
    clear hS2 rN2 own2 hownj hck hcs hsb hys hyn hqW
    gi_wp2_with fail
    -- <<R12
    refine wpIn_region_rg2 (Only []) [[(9, none)], [(8, none)], [(25, some 1), (26, some 0)], [(27, some 0)], [(28, some 0), (8, none)], [(28, some 1), (6, none)], [(28, some 2), (30, some 0)], [(28, some 3), (29, some 2), (31, some 0)], [(28, some 4), (32, some 0)], [(33, some 0)], [(34, some 0), (10, none)], [(34, some 1), (35, some 0)], [(34, some 2), (6, none)], [(34, some 3), (8, none)], [(34, some 4), (37, some 1), (38, some 0)], [(34, some 5), (39, some 0)], [(34, some 6), (40, some 0)], [(34, some 7), (36, some 5), (41, some 0)], [(34, some 8), (42, some 0)]] [(43, 0)] [none, none, none, none, none, none, none, none, none, none, none, none, none, none, none, none, none, none, none, none, none, none, none, none, none, some 25, some 26, some 27, some 28, some 29, some 30, some 31, some 32, some 33, some 34, some 35, some 36, some 37, some 38, some 39, some 40, some 41, some 42, some 43, none, none, none, none, none, none, none, none, none, none, none, none, none, none, none, none, none, none, none, none, none, none, none, none, none, none, none, none, none, none] (by kernel_rfl) rfl (by kernel_rfl) (fun _ => Only.refl _ _) (fun _ _ _ h k => h.trans0 k) (Only.drew _) (by kernel_rfl) (by kernel_rfl) ?_
    -- 0: s25 := move t9
    apply rg_ev
    · intro a w hR hf
      obtain ⟨e9, -⟩ := hf
      replace e9 : a.tmps.getD 9 undef = _ := e9
      refine rg_plain rfl fun K hK => ?_
      go_simp
      exact hK _ _ rfl (Only.refl _ _)
    -- 1: s26 := load 3 t8
    apply rg_ev
    · intro a w hR hf
      obtain ⟨e8, -⟩ := hf
      replace e8 : a.tmps.getD 8 undef = _ := e8
      refine rg_plain rfl fun K hK => ?_
      have h1 := hR.cell cN (by simp)
      go_simp
      exact hK _ _ rfl (Only.refl _ _)
    -- 2: s27 := binOp Binneq 3 t25 t26 3
    apply rg_ev
    · intro a w hR hf
      obtain ⟨e25, e26, -⟩ := hf
      replace e25 : a.tmps.getD 25 undef = _ := e25
      replace e26 : a.tmps.getD 26 undef = _ := e26
      refine rg_plain rfl fun K hK => ?_
      go_simp
      exact hK _ _ rfl (Only.refl _ _)
    -- 3: s28 := move t27
    apply rg_ev
    · intro a w hR hf
      obtain ⟨e27, -⟩ := hf
      replace e27 : a.tmps.getD 27 undef = _ := e27
      refine rg_plain rfl fun K hK => ?_
      go_simp
      exact hK _ _ rfl (Only.refl _ _)
    -- 4: s29 := load 3 t8 [if 3=false]
    apply rg_ev
    · intro a w hR hf
      obtain ⟨e28, e8, -⟩ := hf
      replace e28 : a.tmps.getD 28 undef = _ := e28
      replace e8 : a.tmps.getD 8 undef = _ := e8
      refine rg_want rfl rfl e28 fun K hK => ?_
      clear e28
      have h1 := hR.cell cN (by simp)
      go_simp
      exact hK _ _ rfl (Only.refl _ _)
    -- 5: s30 := load 25 t6 [if 3=false]
    apply rg_ev
    · intro a w hR hf
      obtain ⟨e28, e6, -⟩ := hf
      replace e28 : a.tmps.getD 28 undef = _ := e28
      replace e6 : a.tmps.getD 6 undef = _ := e6
      refine rg_want rfl rfl e28 fun K hK => ?_
      clear e28
      have h1 := hR.cell cW (by simp)
      go_simp
      exact hK _ _ rfl (Only.refl _ _)
    -- 6: s31 := call { builtin len, args := #[t30], #[25] } [if 3=false]
    apply rg_ev
    · intro a w hR hf
      obtain ⟨e28, e30, -⟩ := hf
      replace e28 : a.tmps.getD 28 undef = _ := e28
      replace e30 : a.tmps.getD 30 undef = _ := e30
      refine rg_want rfl rfl e28 fun K hK => ?_
      clear e28
      go_simp
      exact hK _ _ rfl (Only.refl _ _)
    -- 7: s32 := binOp Bingeq 3 t29 t31 3 [if 3=false]
    apply rg_ev
    · intro a w hR hf
      obtain ⟨e28, e29, e31, -⟩ := hf
      replace e28 : a.tmps.getD 28 undef = _ := e28
      replace e29 : a.tmps.getD 29 undef = _ := e29
      replace e31 : a.tmps.getD 31 undef = _ := e31
      refine rg_want rfl rfl e28 fun K hK => ?_
      clear e28
      go_simp
      exact hK _ _ rfl (Only.refl _ _)
    -- 8: s33 := pick t28 (const (Value.bool true)) t32
    apply rg_ev
    · intro a w hR hf
      obtain ⟨e28, e32, -⟩ := hf
      replace e28 : a.tmps.getD 28 undef = _ := e28
      replace e32 : a.tmps.getD 32 undef = _ := e32
      refine rg_plain rfl fun K hK => ?_
      go_simp
      exact hK _ _ rfl (Only.refl _ _)
    -- 9: s34 := move t33
    apply rg_ev
    · intro a w hR hf
      obtain ⟨e33, -⟩ := hf
      replace e33 : a.tmps.getD 33 undef = _ := e33
      refine rg_plain rfl fun K hK => ?_
      go_simp
      exact hK _ _ rfl (Only.refl _ _)
    -- 10: s35 := move t10 [if 9=false]
    apply rg_ev
    · intro a w hR hf
      obtain ⟨e34, e10, -⟩ := hf
      replace e34 : a.tmps.getD 34 undef = _ := e34
      replace e10 : a.tmps.getD 10 undef = _ := e10
      refine rg_want rfl rfl e34 fun K hK => ?_
      clear e34
      go_simp
      exact hK _ _ rfl (Only.refl _ _)
    -- 11: s36 := convert 22 9 t35 [if 9=false]
    apply rg_ev
    · intro a w hR hf
      obtain ⟨e34, e35, -⟩ := hf
      replace e34 : a.tmps.getD 34 undef = _ := e34
      replace e35 : a.tmps.getD 35 undef = _ := e35
      refine rg_want rfl rfl e34 fun K hK => ?_
      clear e34
      have hcv := conv_bytes (P := Tryd.prog) (src := 22) (dst := 9) w Tryd.underlying22 Tryd.underlying5 Tryd.underlying9 (c := kb2) (n := mb) (Hrd1.out.only0 hR) HL.out Hnil1.out
      rw [← Hsb.out] at hcv
      go_simp
      exact hK _ _ rfl (Only.refl _ _)
    -- 12: s37 := load 25 t6 [if 9=false]
    apply rg_ev
    · intro a w hR hf
      obtain ⟨e34, e6, -⟩ := hf
      replace e34 : a.tmps.getD 34 undef = _ := e34
      replace e6 : a.tmps.getD 6 undef = _ := e6
      refine rg_want rfl rfl e34 fun K hK => ?_
      clear e34
      have h1 := hR.cell cW (by simp)
      go_simp
      exact hK _ _ rfl (Only.refl _ _)
    -- 13: s38 := load 3 t8 [if 9=false]
    apply rg_ev
    · intro a w hR hf
      obtain ⟨e34, e8, -⟩ := hf
      replace e34 : a.tmps.getD 34 undef = _ := e34
      replace e8 : a.tmps.getD 8 undef = _ := e8
      refine rg_want rfl rfl e34 fun K hK => ?_
      clear e34
      have h1 := hR.cell cN (by simp)
      go_simp
      exact hK _ _ rfl (Only.refl _ _)
    -- 14: s39 := indexAddr 25 t37 t38 [if 9=false]
    apply rg_ev
    · intro a w hR hf
      obtain ⟨e34, e37, e38, -⟩ := hf
      replace e34 : a.tmps.getD 34 undef = _ := e34
      replace e37 : a.tmps.getD 37 undef = _ := e37
      replace e38 : a.tmps.getD 38 undef = _ := e38
      refine rg_want rfl rfl e34 fun K hK => ?_
      clear e34
      go_simp
      exact hK _ _ rfl (Only.refl _ _)
    -- 15: s40 := load 22 t39 [if 9=false]
    apply rg_ev
    · intro a w hR hf
      obtain ⟨e34, e39, -⟩ := hf
      replace e34 : a.tmps.getD 34 undef = _ := e34
      replace e39 : a.tmps.getD 39 undef = _ := e39
      refine rg_want rfl rfl e34 fun K hK => ?_
      clear e34
      have h1 := hR.cell hcell (by simp)
      go_simp
      exact hK _ _ rfl (Only.refl _ _)
    -- 16: s41 := convert 22 9 t40 [if 9=false]
    apply rg_ev
    · intro a w hR hf
      obtain ⟨e34, e40, -⟩ := hf
      replace e34 : a.tmps.getD 34 undef = _ := e34
      replace e40 : a.tmps.getD 40 undef = _ := e40
      refine rg_want rfl rfl e34 fun K hK => ?_
      clear e34
      have hcv := conv_bytes (P := Tryd.prog) (src := 22) (dst := 9) w Tryd.underlying22 Tryd.underlying5 Tryd.underlying9 (c := cj) (n := mb) (p := some ⟨gj, 0, none⟩) (Hrd2.out.only0 hR) HL.out (by simp)
      rw [← Hsb.out] at hcv
      go_simp
      exact hK _ _ rfl (Only.refl _ _)
    -- 17: s42 := binOp Binneq 9 t36 t41 9 [if 9=false]
    apply rg_ev
    · intro a w hR hf
      obtain ⟨e34, e36, e41, -⟩ := hf
      replace e34 : a.tmps.getD 34 undef = _ := e34
      replace e36 : a.tmps.getD 36 undef = _ := e36
      replace e41 : a.tmps.getD 41 undef = _ := e41
      refine rg_want rfl rfl e34 fun K hK => ?_
      clear e34
      go_simp
      exact hK _ _ rfl (Only.refl _ _)
    -- 18: s43 := pick t34 (const (Value.bool true)) t42
    apply rg_ev
    · intro a w hR hf
      obtain ⟨e34, e42, -⟩ := hf
      replace e34 : a.tmps.getD 34 undef = _ := e34
      replace e42 : a.tmps.getD 42 undef = _ := e42
      refine rg_plain rfl fun K hK => ?_
      go_simp
      exact hK _ _ rfl (Only.refl _ _)
    intro f12 w12 hR12 hf
    dsimp only [mergeT]
    obtain ⟨e43, -⟩ := hf
    replace e43 : f12 43 = _ := e43
    rw [e43]
    -- R12>>
    clear cN cW cS hcell
    have HS3 := Lib.hid (HS2.out.step HB2.out.low hR12 (by simp) hlo0)
    have HrN3 := Lib.hid (HrN2.out.only0 hR12)
    have Hown3 := Lib.hid (Hown2.out.only0 hR12)
    gi_wp2_with fail
    gi_loopw [46] (fun a wr => ∃ (j : Nat) (ys2 : List UInt8), a = .int .i64 (j : Int) ∧ j ≤ mb ∧ Hid (ys2.length = mb) ∧ Hid (Own wr 0 5 (.slice qb mb kb2) (u8s ys2)) ∧ Hid (Only (blk qb) w12 wr)) (fun a _ => mb - (intOf a).toNat)
    case atStart => exact ⟨0, chunk xs i, rfl, Nat.zero_le _, HL, Hown3, Lib.hid (Only.refl _ _)⟩
    case round =>
      obtain ⟨j, ys2, rfl, hj, Hys, Hr, HO⟩ := hrel
      by_cases hlt : j < mb
      · have hji : (j : Int) < (mb : Int) := by omega
        obtain ⟨gb, hgb, -, -⟩ := Hr.out.at (by omega)
        have hown := Hr.out
        rw [hgb] at hown
        have hjl : j < ys2.length := by rw [Hys.out]; exact hlt
        have hcj := hown.cellAt (u8s_get hjl)
        generalize ys2[j]'hjl = y at hcj
        obtain ⟨hfj, hset⟩ := hown.set hlt (u8 (y ^^^ 5))
        have hx5 := u8_xor5 y
        rw [u8s_set] at hset
        have Hr2 : Hid (Own (wr.setCell ⟨gb, j, none⟩ (.int .u8 ((y ^^^ 5).toNat : Int))) 0 5 (.slice qb mb kb2) (u8s (ys2.set j (y ^^^ 5)))) := Lib.hid (by rw [hgb]; exact hset)
        have HO7 : Hid (Only (blk qb) w12 (wr.setCell ⟨gb, j, none⟩ (.int .u8 ((y ^^^ 5).toNat : Int)))) := Lib.hid (HO.out.trans (Only.setCell _ ⟨gb, j, none⟩ _) (fun i hi _ => by obtain rfl := List.mem_singleton.1 hi; rw [hgb]; simp [blk]))
        have Hys2 : Hid ((ys2.set j (y ^^^ 5)).length = mb) := Lib.hid (by rw [List.length_set]; exact Hys.out)
        clear hown hjl hset
        gi_wp2_with fail
        refine ⟨⟨j + 1, ys2.set j (y ^^^ 5), by go_num, by omega, Hys2, Hr2, HO7⟩, ?_⟩
        show mb - ((j : Int) + 1).toNat < mb - ((j : Int)).toNat
        omega
      · obtain rfl : j = mb := by omega
        have hji : ¬ (j : Int) < (j : Int) := by omega
        have hYq : Y2 ∉ blk qb := fun hm => (HG.out _ hm).1 (by simp)
        have rN4 := HrN3.out.only HO.out hYq
        have cN := rN4.cell (i := 0) rfl
        have fN := rN4.free 0
        have hS4 := HS3.out.step HB2.out.low HO.out (fun t ht => (HG.out t ht).2) hlo0
        obtain ⟨w6, hw6⟩ : ∃ w6, w6 = wr.setCell ⟨Y2, 0, none⟩ (.int .i64 ((i : Int) + 1)) := ⟨_, rfl⟩
        have o6 : Only [Y2] wr w6 := by rw [hw6]; exact Only.setCell _ ⟨_, 0, none⟩ _
        have rN6 : Row w6 Y2 3 [.int .i64 ((i : Int) + 1)] := by rw [hw6]; exact rN4.setCell 0 _
        have hYlo : wA1.heap.size ≤ Y2 := by rw [HYe2.out]; exact Nat.le_refl _
        have hS6 := hS4.step HA1.out.low o6 (fun t ht => by obtain rfl := List.mem_singleton.1 ht; exact hYlo) HA1.out.only.size
        have cS6 := hS6.rs.cell (i := 0) rfl
        have cN6 := rN6.cell (i := 0) rfl
        have hOall : Only (Y2 :: blk qb) A2 w6 := ((hR12.mono (by simp)).trans HO.out (fun i hi _ => by simp [hi])).trans o6 (fun i hi _ => by simp at hi; simp [hi])
        have hsub : ∀ s ∈ Y2 :: blk qb, s ∈ [Y2] ++ blk qb ∨ A.heap.size ≤ s := fun s hs => .inl (by simpa using hs)
        have hD' : ∀ d ∈ [Y2], (d ∈ [Y2] ++ blk qb ∨ A.heap.size ≤ d) ∧ d < w6.heap.size := fun d hd => by
          obtain rfl := List.mem_singleton.1 hd
          exact ⟨.inl (by simp), rN6.lt⟩
        have HOall := Lib.hid hOall
        have Hsub := Lib.hid hsub
        have HD' := Lib.hid hD'
        have HS6 := Lib.hid hS6
        have HrN6 := Lib.hid rN6
        have Hw6 := Lib.hid hw6
        rw [hw6] at cS6 cN6
        clear rN4 hS4 hw6 o6 rN6 hYlo hS6 hOall hsub hD' hYq
        by_cases hst : (i : Int) + 1 = stop
        · have hstb : ((i : Int) + 1 == stop) = true := by simp [hst]
          have Hst := Lib.hid hst
          clear hst
          gi_wp2_with fail
          rw [← Hw6.out]
          exact ⟨_, [Y2], HOall.out, Hsub.out, HD'.out, rfl, rfl, by rw [← Hst.out]; exact HrN6.out, HS6.out⟩
        · have hstb : ((i : Int) + 1 == stop) = false := by simp [hst]
          clear hst
          gi_wp2_with fail
          rw [← Hw6.out]
          refine ⟨_, [Y2], HOall.out, Hsub.out, HD'.out, rfl, ?_, HS6.out⟩
          rw [Hlen1.out]
          exact HrN6.out
  case done =>
  rintro D wA2 ⟨v, hv, rfl, rN, hS⟩ hd hk
  have cN := rN.cell (i := 0) rfl
  have cW := hS.rw.cell (i := 0) rfl
  rw [HNe.out] at cW
  have cS := hS.rs.cell (i := 0) rfl
  have hkY : wB2.heap.size < wA2.heap.size := (Array.getElem?_eq_some_iff.1 hk).1
  have HA2 : Hid (FbS w0 wA2 xs g p' k' base F qW kW Wn R w0.heap.size gI stop [wB2.heap.size, wB1.heap.size]) := Lib.hid ⟨by
    intro m hm
    rcases List.mem_cons.1 hm with rfl | hm
    · exact hk
    · exact hS.mks m hm, hS.blk, hS.lst, hS.rw, hS.rr, hS.rs, hS.ri, hS.only⟩
  have Hk2 := Lib.hid hk
  have HkY2 := Lib.hid hkY
  clear rN hS hd hk hkY
  go_upto_region 21 with (fail)
  go_cut [69] from 61 to 69 (fun b wx => b = .bool false ∧ wx = wA2)
  case first =>
    rcases hv with rfl | rfl
    · skip
      go_wp2_with fail
      go_meet
      exact ⟨rfl, rfl⟩
    · by_cases hsN : v = (N : Int)
      · have hsb : (v != (N : Int)) = false := by simp [hsN]
        clear hsN
        go_wp2_with fail
        go_meet
        exact ⟨rfl, rfl⟩
      · have hsb : (v != (N : Int)) = true := by simp [hsN]
        clear hsN
        go_wp2_with fail
        go_meet
        exact ⟨rfl, rfl⟩
  case rest =>
  obtain ⟨rfl, hwc⟩ := hcut
  have hwc2 := hwc.symm
  subst hwc2
  clear cN cW cS hv
  go_wp2_with fail
  rw [rounds_succ]
  have hkp := kept_any gI p xs n c n wA2 Hn.out hb Hp.out (by omega) HA2.out.ri (Hx.out.only0 HA2.out.only)
  go_wp2_with fail
  refine hkp.mono ?_
  clear hkp
  rintro e w8 ⟨rfl, d8⟩
  have hS8 := HA2.out.step HA2.out.low d8.only (by simp) HA2.out.only.size
  have cR := hS8.rr.cell (i := 0) rfl
  have fR := hS8.rr.free 0
  have hlow := hS8.low
  have h0R : w0.heap.size ≤ R := by rw [← HRe.out]; omega
  obtain ⟨w9, hw9⟩ : ∃ w9, w9 = w8.setCell ⟨R, 0, none⟩ (.bool true) := ⟨_, rfl⟩
  have o9 : Only [R] w8 w9 := by rw [hw9]; exact Only.setCell _ ⟨_, 0, none⟩ _
  have hR9 : Row w9 R 4 [.bool true] := by rw [hw9]; exact hS8.rr.setCell 0 _
  have m1 := hS8.mks wB1.heap.size (by simp)
  have m2 := hS8.mks wB2.heap.size (by simp)
  have hRB1 := HB1.out.low.2.2.2.1
  have hRB2 := HB2.out.low.2.2.2.1
  have h12 : wB1.heap.size < wB2.heap.size := by have := HB2.out.low.2.2.2.2.2.2 wB1.heap.size (by simp); exact this
  have m19 := (o9.block _ (Array.getElem?_eq_some_iff.1 m1).1 (by simp; omega)).trans m1
  have m29 := (o9.block _ (Array.getElem?_eq_some_iff.1 m2).1 (by simp; omega)).trans m2
  have oP1 := Only.putObj w9 wB2.heap.size (.deferred none)
  have oP2 := Only.putObj (w9.putObj wB2.heap.size (.deferred none)) wB1.heap.size (.deferred none)
  have hRf := (hR9.only oP1 (by simp; omega)).only oP2 (by simp; omega)
  have hw01 := HB1.out.only.size
  have hOf : Only [] w0 ((w9.putObj wB2.heap.size (.deferred none)).putObj wB1.heap.size (.deferred none)) := ((hS8.only.transN o9 (by simpa using h0R)).transN oP1 (by simp; omega)).transN oP2 (by simp; omega)
  have HRf := Lib.hid hRf
  have HOf := Lib.hid hOf
  have Hw9 := Lib.hid hw9
  have M1 := Lib.hid m19
  have M2 := Lib.hid m29
  clear hS8 o9 hR9 m1 m2 m19 m29 oP1 oP2 hRf hOf hw9 d8 hlow h0R
  go_wp2_with fail
  rw [← Hw9.out]
  exact mret2 (by omega) M2.out M1.out (results_cellBool rfl _ _ _ true rfl (HRf.out.cell (i := 0) rfl)) ⟨rfl, HOf.out⟩
end Go.Proofs.YtfoplbolbjcggaaDoor
