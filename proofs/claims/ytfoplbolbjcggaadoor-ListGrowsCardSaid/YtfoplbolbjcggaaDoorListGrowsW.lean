/- The walk of bollardlaw20.ListGrows. -/
import Derived.Test.YtfoplbolbjcggaaDoorListChain
import Derived.Test.YtfoplbolbjcggaaDoorListPagesW
set_option linter.unusedVariables false
set_option maxRecDepth 100000
namespace Go.Proofs.YtfoplbolbjcggaaDoor
open Go.RowKit

set_option maxHeartbeats 16000000 in
theorem listGrows_any (p : Option Addr) (ks : List Bs) (n c : Nat) (pf dl tk : Bs) (M a b : Int) (w0 : World) (hn : ks.length = n) (hnc : n ≤ c) (hb : n ≤ 140737488351232) (hbk : ∀ k ∈ ks, k.length ≤ 140737488351232) (hp : p = none → n = 0 ∧ c = 0) (hx : Rd w0 p (strs ks)) (hpl : pf.length ≤ 140737488351232) (hdl : dl.length ≤ 140737488351232) (htl : tk.length ≤ 140737488351232) (mx : Int) (hmx : w0.cell? ⟨18, 0, none⟩ = some (.int .i64 mx)) :
    Calls Tryd.prog 9 #[.agg #[.slice p n c, .string (str pf), .string (str dl), .string (str tk), .int .i64 M], .int .i64 a, .int .i64 b] w0 fun e w' => e = .returned (.bool true) ∧ Only [] w0 w' := by
  obtain ⟨w1, hw1⟩ : ∃ w1, w1 = w0.alloc (.cells #[.slice p n c, .string (str pf), .string (str dl), .string (str tk), .int .i64 M] 35) := ⟨_, rfl⟩
  have o1 : Only [] w0 w1 := by rw [hw1]; exact Only.alloc _ _
  have r1 : Row w1 w0.heap.size 35 [.slice p n c, .string (str pf), .string (str dl), .string (str tk), .int .i64 M] := by rw [hw1]; exact Row.newOf _ _ _ _ rfl
  have hal := alive20_any mx w1 (o1.cell hmx (by simp))
  have HO1 := Lib.hid o1
  have HR1 := Lib.hid r1
  have Hw1 := Lib.hid hw1
  have Hbu : Hid (∀ w, Only [] w0 w → Calls Tryd.prog 22 #[.agg #[.slice p n c, .string (str pf), .string (str dl), .string (str tk), .int .i64 M]] w fun e w' => ∃ q m k, e = .returned (bkV q m k) ∧ (buck ks).length = m ∧ OwnK w' w.heap.size 59 5 (.slice q m k) m ((buck ks).flatMap obCells) ∧ Only [] w w') :=
    Lib.hid (fun w ho => bucket_any p ks n c (str pf) (str dl) (str tk) M w hn hnc hb hbk hp (hx.only0 ho))
  have hok := buck_ok ks
  have HBl := Lib.hid hok.len
  have HBs := Lib.hid hok.sorted
  have HBk : Hid (∀ o ∈ buck ks, o.key ≠ [] ∧ o.key.length ≤ 200) := Lib.hid (fun o ho => hok.key ho)
  have Hmx := Lib.hid hmx
  clear o1 r1 hw1 hok hmx hx hbk hn hp
  obtain ⟨ja, hja, hjv⟩ := mod100 a
  obtain ⟨jb, hjb, hjw⟩ := mod100 b
  obtain ⟨ma, hma⟩ : ∃ ma : Nat, (ja : Int) + 1 = (ma : Int) := ⟨ja + 1, by omega⟩
  obtain ⟨mb, hmb⟩ : ∃ mb : Nat, (jb : Int) + 1 = (mb : Int) := ⟨jb + 1, by omega⟩
  have hma' : 1 ≤ ma ∧ ma ≤ 100 := by omega
  have hmb' : 1 ≤ mb ∧ mb ≤ 100 := by omega
  go_enter Tryd.func9, Tryd.ntmps9
  go_wp2_with fail
  rw [← Hw1.out]
  refine hal.mono ?_
  clear hal Hw1
  rintro e wA ⟨rfl, oA⟩
  have hrA := HR1.out.only0 oA
  have hbA := Hbu.out wA (HO1.out.trans0 oA)
  have k0 := hrA.cell (i := 0) rfl
  have k1 := hrA.cell (i := 1) rfl
  have k2 := hrA.cell (i := 2) rfl
  have k3 := hrA.cell (i := 3) rfl
  have k4 := hrA.cell (i := 4) rfl
  have HOA := Lib.hid (HO1.out.trans0 oA)
  have HRA := Lib.hid hrA
  clear oA hrA
  rcases Nat.lt_or_ge mb ma with hsw | hsw
  · have hd : decide (mb < ma) = true := decide_eq_true hsw
    go_upto_region 6 with (fail)
    obtain ⟨A, hA⟩ : ∃ A, A = mb := ⟨_, rfl⟩
    obtain ⟨B, hB⟩ : ∃ B, B = ma := ⟨_, rfl⟩
    have hAB : 1 ≤ A ∧ A ≤ B ∧ B ≤ 100 := by omega
    rw [← hA, ← hB]
    clear hd hjv hjw hma hmb hA hB hsw hma' hmb' hja hjb
    go_wp2_with fail
    refine hbA.mono ?_
    clear hbA k0 k1 k2 k3 k4
    rintro e wB ⟨q, m, k, rfl, hlB, ownB, oB⟩
    obtain ⟨w2, hw2⟩ : ∃ w2, w2 = wB.alloc (.cells #[.string aaa, .int .i64 0, .int .i64 0, .slice q m k, .slice none 0 0] 39) := ⟨_, rfl⟩
    have o2 : Only [] wB w2 := by rw [hw2]; exact Only.alloc _ _
    have r2 : Row w2 wB.heap.size 39 [.string aaa, .int .i64 0, .int .i64 0, .slice q m k, .slice none 0 0] := by rw [hw2]; exact Row.newOf _ _ _ _ rfl
    have oB2 := oB.trans0 o2
    have hr2 := HRA.out.only0 oB2
    have ho2 := HOA.out.trans0 oB2
    have hownx := ownB.only0 o2
    obtain ⟨es, hes⟩ : ∃ es, entries pf dl (buck ks) = es := ⟨_, rfl⟩
    obtain ⟨me, hle⟩ : ∃ me, es.length = me := ⟨_, rfl⟩
    have hml : me ≤ 1000 := by
      have h1 := entries_len pf dl (buck ks)
      have h2 := HBl.out
      rw [hes] at h1
      omega
    have HP : Hid (∀ (a M : Nat) (w : World), Only [] w2 w → a ≤ me → 1 ≤ M → M ≤ 100 → Calls Tryd.prog 23 #[.agg #[.string aaa, .int .i64 0, .int .i64 0, .slice q m k, .slice none 0 0], .string (str pf), .string (str dl), .string (str (tokAt es a)), .int .i64 (M : Int)] w fun e w' => ∃ q m k, e = .returned (.tuple #[pgV q m k (str (if a + M < me then tokAt es (a + M) else [])), .nilIface]) ∧ ((es.drop a).take M).length = m ∧ OwnK w' w.heap.size 61 5 (.slice q m k) m (((es.drop a).take M).flatMap enCells) ∧ Only [] w w') := Lib.hid (fun a M w ho ha h1 h2 => by
      have h := page_chain aaa 0 0 (.slice none 0 0) rfl q (buck ks) m k pf dl a M mx w hlB (by have := HBl.out; omega) hownx.view.2.2.2.1 (hownx.view.2.2.1.only0 ho) HBs.out HBk.out hpl hdl (ho.cell (ho2.cell Hmx.out (by simp)) (by simp)) (by rw [hes, hle]; exact ha) h1 h2
      rw [hes, hle] at h
      exact h)
    have Hnm : Hid (∀ e ∈ es, e.name ≠ []) := Lib.hid (fun e he => by rw [← hes] at he; obtain ⟨o, ho, h⟩ := (entries_mem HBs.out _).1 he; exact (ent_name h).2 (HBk.out o ho).1)
    have h1g := HP.out 0 A w2 (Only.refl _ _) (Nat.zero_le _) hAB.1 (by omega)
    rw [Nat.zero_add, List.drop_zero] at h1g
    have k1 := hr2.cell (i := 1) rfl
    have k2 := hr2.cell (i := 2) rfl
    have b0 := r2.cell (i := 0) rfl
    have b1 := r2.cell (i := 1) rfl
    have b2 := r2.cell (i := 2) rfl
    have b3 := r2.cell (i := 3) rfl
    have b4 := r2.cell (i := 4) rfl
    have HO2 := Lib.hid ho2
    have HR2 := Lib.hid hr2
    have HB2 := Lib.hid r2
    have Hle := Lib.hid hle
    have Hw2 := Lib.hid hw2
    have HAB := Lib.hid hAB
    unfold bkV
    clear hlB ownB oB o2 r2 oB2 hr2 ho2 hw2 hes hle hownx hAB HOA HRA HR1
    go_upto_region 7 with (fail)
    rw [← Hw2.out]
    go_wp2_with fail
    refine h1g.mono ?_
    clear h1g k1 k2 b0 b1 b2 b3 b4 Hw2
    rintro e wC ⟨qs, ms, cs, rfl, hls, owns, oC⟩
    obtain ⟨nxs, hnxs⟩ : ∃ nxs, (if A < me then tokAt es A else []) = nxs := ⟨_, rfl⟩
    rw [hnxs]
    obtain ⟨w3, hw3⟩ : ∃ w3, w3 = wC.alloc (.cells #[.slice qs ms cs, .string (str nxs)] 43) := ⟨_, rfl⟩
    have o3 : Only [] wC w3 := by rw [hw3]; exact Only.alloc _ _
    have r3 : Row w3 wC.heap.size 43 [.slice qs ms cs, .string (str nxs)] := by rw [hw3]; exact Row.newOf _ _ _ _ rfl
    have o23 := oC.trans0 o3
    have hk3 := HR2.out.only0 o23
    have hb3 := HB2.out.only0 o23
    have h2g := HP.out 0 B w3 o23 (Nat.zero_le _) (by have := HAB.out; omega) HAB.out.2.2
    rw [Nat.zero_add, List.drop_zero] at h2g
    have k1 := hk3.cell (i := 1) rfl
    have k2 := hk3.cell (i := 2) rfl
    have b0 := hb3.cell (i := 0) rfl
    have b1 := hb3.cell (i := 1) rfl
    have b2 := hb3.cell (i := 2) rfl
    have b3 := hb3.cell (i := 3) rfl
    have b4 := hb3.cell (i := 4) rfl
    have HO23 := Lib.hid o23
    have HR3 := Lib.hid r3
    have HK3 := Lib.hid hk3
    have HB3 := Lib.hid hb3
    have Hos := Lib.hid (owns.only0 o3)
    have Hls := Lib.hid hls
    have Hnxs := Lib.hid hnxs
    have Hw3 := Lib.hid hw3
    unfold pgV
    clear hls owns oC o3 r3 o23 hk3 hb3 hnxs hw3 HR2 HB2
    go_upto_region 8 with (fail)
    rw [← Hw3.out]
    go_wp2_with fail
    refine h2g.mono ?_
    clear h2g k1 k2 b0 b1 b2 b3 b4 Hw3
    rintro e wD ⟨ql, ml, cl, rfl, hll, ownl, oD⟩
    obtain ⟨nxl, hnxl⟩ : ∃ nxl, (if B < me then tokAt es B else []) = nxl := ⟨_, rfl⟩
    rw [hnxl]
    obtain ⟨w4, hw4⟩ : ∃ w4, w4 = wD.alloc (.cells #[.slice ql ml cl, .string (str nxl)] 43) := ⟨_, rfl⟩
    have o4 : Only [] wD w4 := by rw [hw4]; exact Only.alloc _ _
    have r4 : Row w4 wD.heap.size 43 [.slice ql ml cl, .string (str nxl)] := by rw [hw4]; exact Row.newOf _ _ _ _ rfl
    have o34 := oD.trans0 o4
    have HO24 := Lib.hid (HO23.out.trans0 o34)
    have HS4 := Lib.hid (HR3.out.only0 o34)
    have HL4 := Lib.hid r4
    have HK4 := Lib.hid (HK3.out.only0 o34)
    have HB4 := Lib.hid (HB3.out.only0 o34)
    have vs := (Hos.out.only0 o34).view
    have vl := (ownl.only0 o4).view
    have Hrs : Hid (Rd w4 qs ((es.take A).flatMap enCells)) := Lib.hid vs.2.2.1
    have Hrl0 : Hid (Rd w4 ql ((es.take B).flatMap enCells)) := Lib.hid vl.2.2.1
    have Hls' := Hls.out
    rw [List.length_take, Hle.out] at Hls'
    rw [List.length_take, Hle.out] at hll
    have hAB := HAB.out
    have Hrl : Hid (Rd w4 ql ((es.take A).flatMap enCells)) := Lib.hid (by
      have h := rd_take enCells_len vl.2.2.1 A
      rwa [List.take_take, Nat.min_eq_left hAB.2.1] at h)
    have C80 := Lib.hid (HS4.out.cell (i := 0) rfl)
    have C81 := Lib.hid (HS4.out.cell (i := 1) rfl)
    have C100 := Lib.hid (HL4.out.cell (i := 0) rfl)
    have C101 := Lib.hid (HL4.out.cell (i := 1) rfl)
    have Hml : Hid (decide (ml < ms) = false) := Lib.hid (decide_eq_false (by omega))
    have Hmk : Hid ((ms : Int) ≤ (cl : Int)) := Lib.hid (by have := vl.2.2.2.2.1; omega)
    have Hmcl : Hid (ms ≤ cl) := Lib.hid (by have := vl.2.2.2.2.1; omega)
    have Hcs : Hid (ms ≤ cs) := Lib.hid vs.2.2.2.2.1
    have Hm1000 : Hid (ms ≤ 1000) := Lib.hid (by omega)
    have HlE : Hid (ms = min A me ∧ ml = min B me ∧ ml ≤ cl) := Lib.hid ⟨Hls'.symm, hll.symm, vl.2.2.2.2.1⟩
    have Hnxl := Lib.hid hnxl
    have Hw4 := Lib.hid hw4
    unfold pgV
    clear hll ownl oD o4 r4 o34 hnxl hw4 vs vl Hls' hAB HO23 HR3 HK3 HB3 Hos
    go_upto_region 9 with (fail)
    rw [← Hw4.out]
    clear Hw4
    -- <<R9a
    refine wp_region_rg2 (Only []) [[(9, none)], [(54, some 0)], [(55, some 0)], [(56, some 0), (11, none)], [(56, some 1), (57, some 0)], [(56, some 2), (58, some 0)], [(59, some 0)], [(60, some 0), (8, none)], [(60, some 1), (61, some 0)], [(60, some 2), (62, some 0)], [(60, some 3), (10, none)], [(60, some 4), (64, some 0)], [(60, some 5), (65, some 0)], [(60, some 6), (63, some 3), (66, some 0)], [(60, some 7), (67, some 0)], [(68, some 0)], [(69, some 0), (8, none)], [(69, some 1), (70, some 0)], [(69, some 2), (71, some 0)], [(69, some 3), (10, none)], [(69, some 4), (73, some 0)], [(69, some 5), (8, none)], [(69, some 6), (75, some 0)], [(69, some 7), (76, some 0)], [(69, some 8), (74, some 3), (77, some 0)], [(69, some 9), (78, some 0)], [(69, some 10), (72, some 7), (79, some 0)], [(69, some 11), (80, some 0)], [(69, some 12), (81, some 0)]] [(82, 0)] [none, none, none, none, none, none, none, none, none, none, none, none, none, none, none, none, none, none, none, none, none, none, none, none, none, none, none, none, none, none, none, none, none, none, none, none, none, none, none, none, none, none, none, none, none, none, none, none, none, none, none, none, none, none, some 54, some 55, some 56, some 57, some 58, some 59, some 60, some 61, some 62, some 63, some 64, some 65, some 66, some 67, some 68, some 69, some 70, some 71, some 72, some 73, some 74, some 75, some 76, some 77, some 78, some 79, some 80, some 81, some 82, none, none, none, none, none, none, none, none, none, none, none, none, none, none, none, none, none, none, none, none, none, none, none, none, none, none, none, none, none, none, none, none, none, none, none, none, none, none, none, none, none, none, none, none, none, none, none, none, none, none, none, none, none, none, none, none, none, none, none, none, none, none, none, none] (by kernel_rfl) rfl (by kernel_rfl) (fun _ => Only.refl _ _) (fun _ _ _ h k => h.trans0 k) (Only.drew _) (by kernel_rfl) ?_
    -- 0: s54 := move t9
    apply rg_ev
    · intro a w hR hf
      obtain ⟨e9, -⟩ := hf
      replace e9 : a.tmps.getD 9 undef = _ := e9
      refine rg_plain rfl fun K hK => ?_
      go_simp
      exact hK _ _ rfl (Only.refl _ _)
    -- 1: s55 := binOp Binneq 45 t54 (const Value.nilIface) 45
    apply rg_ev
    · intro a w hR hf
      obtain ⟨e54, -⟩ := hf
      replace e54 : a.tmps.getD 54 undef = _ := e54
      refine rg_plain rfl fun K hK => ?_
      go_simp
      exact hK _ _ rfl (Only.refl _ _)
    -- 2: s56 := move t55
    apply rg_ev
    · intro a w hR hf
      obtain ⟨e55, -⟩ := hf
      replace e55 : a.tmps.getD 55 undef = _ := e55
      refine rg_plain rfl fun K hK => ?_
      go_simp
      exact hK _ _ rfl (Only.refl _ _)
    -- 3: s57 := move t11 [if 2=false]
    apply rg_ev
    · intro a w hR hf
      obtain ⟨e56, e11, -⟩ := hf
      replace e56 : a.tmps.getD 56 undef = _ := e56
      replace e11 : a.tmps.getD 11 undef = _ := e11
      refine rg_want rfl rfl e56 fun K hK => ?_
      clear e56
      go_simp
      exact hK _ _ rfl (Only.refl _ _)
    -- 4: s58 := binOp Binneq 45 t57 (const Value.nilIface) 45 [if 2=false]
    apply rg_ev
    · intro a w hR hf
      obtain ⟨e56, e57, -⟩ := hf
      replace e56 : a.tmps.getD 56 undef = _ := e56
      replace e57 : a.tmps.getD 57 undef = _ := e57
      refine rg_want rfl rfl e56 fun K hK => ?_
      clear e56
      go_simp
      exact hK _ _ rfl (Only.refl _ _)
    -- 5: s59 := pick t56 (const (Value.bool true)) t58
    apply rg_ev
    · intro a w hR hf
      obtain ⟨e56, e58, -⟩ := hf
      replace e56 : a.tmps.getD 56 undef = _ := e56
      replace e58 : a.tmps.getD 58 undef = _ := e58
      refine rg_plain rfl fun K hK => ?_
      go_simp
      exact hK _ _ rfl (Only.refl _ _)
    -- 6: s60 := move t59
    apply rg_ev
    · intro a w hR hf
      obtain ⟨e59, -⟩ := hf
      replace e59 : a.tmps.getD 59 undef = _ := e59
      refine rg_plain rfl fun K hK => ?_
      go_simp
      exact hK _ _ rfl (Only.refl _ _)
    -- 7: s61 := fieldAddr 43 t8 0 [if 6=false]
    apply rg_ev
    · intro a w hR hf
      obtain ⟨e60, e8, -⟩ := hf
      replace e60 : a.tmps.getD 60 undef = _ := e60
      replace e8 : a.tmps.getD 8 undef = _ := e8
      refine rg_want rfl rfl e60 fun K hK => ?_
      clear e60
      go_simp
      exact hK _ _ rfl (Only.refl _ _)
    -- 8: s62 := load 41 t61 [if 6=false]
    apply rg_ev
    · intro a w hR hf
      obtain ⟨e60, e61, -⟩ := hf
      replace e60 : a.tmps.getD 60 undef = _ := e60
      replace e61 : a.tmps.getD 61 undef = _ := e61
      refine rg_want rfl rfl e60 fun K hK => ?_
      clear e60
      have g := hR.cell C80.out (by simp)
      go_simp
      exact hK _ _ rfl (Only.refl _ _)
    -- 9: s63 := call { builtin len, args := #[t62], #[41] } [if 6=false]
    apply rg_ev
    · intro a w hR hf
      obtain ⟨e60, e62, -⟩ := hf
      replace e60 : a.tmps.getD 60 undef = _ := e60
      replace e62 : a.tmps.getD 62 undef = _ := e62
      refine rg_want rfl rfl e60 fun K hK => ?_
      clear e60
      go_simp
      exact hK _ _ rfl (Only.refl _ _)
    -- 10: s64 := fieldAddr 43 t10 0 [if 6=false]
    apply rg_ev
    · intro a w hR hf
      obtain ⟨e60, e10, -⟩ := hf
      replace e60 : a.tmps.getD 60 undef = _ := e60
      replace e10 : a.tmps.getD 10 undef = _ := e10
      refine rg_want rfl rfl e60 fun K hK => ?_
      clear e60
      go_simp
      exact hK _ _ rfl (Only.refl _ _)
    -- 11: s65 := load 41 t64 [if 6=false]
    apply rg_ev
    · intro a w hR hf
      obtain ⟨e60, e64, -⟩ := hf
      replace e60 : a.tmps.getD 60 undef = _ := e60
      replace e64 : a.tmps.getD 64 undef = _ := e64
      refine rg_want rfl rfl e60 fun K hK => ?_
      clear e60
      have g := hR.cell C100.out (by simp)
      go_simp
      exact hK _ _ rfl (Only.refl _ _)
    -- 12: s66 := call { builtin len, args := #[t65], #[41] } [if 6=false]
    apply rg_ev
    · intro a w hR hf
      obtain ⟨e60, e65, -⟩ := hf
      replace e60 : a.tmps.getD 60 undef = _ := e60
      replace e65 : a.tmps.getD 65 undef = _ := e65
      refine rg_want rfl rfl e60 fun K hK => ?_
      clear e60
      go_simp
      exact hK _ _ rfl (Only.refl _ _)
    -- 13: s67 := binOp Bingtr 3 t63 t66 3 [if 6=false]
    apply rg_ev
    · intro a w hR hf
      obtain ⟨e60, e63, e66, -⟩ := hf
      replace e60 : a.tmps.getD 60 undef = _ := e60
      replace e63 : a.tmps.getD 63 undef = _ := e63
      replace e66 : a.tmps.getD 66 undef = _ := e66
      refine rg_want rfl rfl e60 fun K hK => ?_
      clear e60
      have h := Hml.out
      go_simp
      exact hK _ _ rfl (Only.refl _ _)
    -- 14: s68 := pick t60 (const (Value.bool true)) t67
    apply rg_ev
    · intro a w hR hf
      obtain ⟨e60, e67, -⟩ := hf
      replace e60 : a.tmps.getD 60 undef = _ := e60
      replace e67 : a.tmps.getD 67 undef = _ := e67
      refine rg_plain rfl fun K hK => ?_
      go_simp
      exact hK _ _ rfl (Only.refl _ _)
    -- 15: s69 := move t68
    apply rg_ev
    · intro a w hR hf
      obtain ⟨e68, -⟩ := hf
      replace e68 : a.tmps.getD 68 undef = _ := e68
      refine rg_plain rfl fun K hK => ?_
      go_simp
      exact hK _ _ rfl (Only.refl _ _)
    -- 16: s70 := fieldAddr 43 t8 0 [if 15=false]
    apply rg_ev
    · intro a w hR hf
      obtain ⟨e69, e8, -⟩ := hf
      replace e69 : a.tmps.getD 69 undef = _ := e69
      replace e8 : a.tmps.getD 8 undef = _ := e8
      refine rg_want rfl rfl e69 fun K hK => ?_
      clear e69
      go_simp
      exact hK _ _ rfl (Only.refl _ _)
    -- 17: s71 := load 41 t70 [if 15=false]
    apply rg_ev
    · intro a w hR hf
      obtain ⟨e69, e70, -⟩ := hf
      replace e69 : a.tmps.getD 69 undef = _ := e69
      replace e70 : a.tmps.getD 70 undef = _ := e70
      refine rg_want rfl rfl e69 fun K hK => ?_
      clear e69
      have g := hR.cell C80.out (by simp)
      go_simp
      exact hK _ _ rfl (Only.refl _ _)
    -- 18: s72 := build 43 #[(0, t71)] [if 15=false]
    apply rg_ev
    · intro a w hR hf
      obtain ⟨e69, e71, -⟩ := hf
      replace e69 : a.tmps.getD 69 undef = _ := e69
      replace e71 : a.tmps.getD 71 undef = _ := e71
      refine rg_want rfl rfl e69 fun K hK => ?_
      clear e69
      have e71' := e71
      rw [Array.getD_eq_getD_getElem?] at e71'
      go_simp
      exact hK _ _ rfl (Only.refl _ _)
    -- 19: s73 := fieldAddr 43 t10 0 [if 15=false]
    apply rg_ev
    · intro a w hR hf
      obtain ⟨e69, e10, -⟩ := hf
      replace e69 : a.tmps.getD 69 undef = _ := e69
      replace e10 : a.tmps.getD 10 undef = _ := e10
      refine rg_want rfl rfl e69 fun K hK => ?_
      clear e69
      go_simp
      exact hK _ _ rfl (Only.refl _ _)
    -- 20: s74 := load 41 t73 [if 15=false]
    apply rg_ev
    · intro a w hR hf
      obtain ⟨e69, e73, -⟩ := hf
      replace e69 : a.tmps.getD 69 undef = _ := e69
      replace e73 : a.tmps.getD 73 undef = _ := e73
      refine rg_want rfl rfl e69 fun K hK => ?_
      clear e69
      have g := hR.cell C100.out (by simp)
      go_simp
      exact hK _ _ rfl (Only.refl _ _)
    -- 21: s75 := fieldAddr 43 t8 0 [if 15=false]
    apply rg_ev
    · intro a w hR hf
      obtain ⟨e69, e8, -⟩ := hf
      replace e69 : a.tmps.getD 69 undef = _ := e69
      replace e8 : a.tmps.getD 8 undef = _ := e8
      refine rg_want rfl rfl e69 fun K hK => ?_
      clear e69
      go_simp
      exact hK _ _ rfl (Only.refl _ _)
    -- 22: s76 := load 41 t75 [if 15=false]
    apply rg_ev
    · intro a w hR hf
      obtain ⟨e69, e75, -⟩ := hf
      replace e69 : a.tmps.getD 69 undef = _ := e69
      replace e75 : a.tmps.getD 75 undef = _ := e75
      refine rg_want rfl rfl e69 fun K hK => ?_
      clear e69
      have g := hR.cell C80.out (by simp)
      go_simp
      exact hK _ _ rfl (Only.refl _ _)
    -- 23: s77 := call { builtin len, args := #[t76], #[41] } [if 15=false]
    apply rg_ev
    · intro a w hR hf
      obtain ⟨e69, e76, -⟩ := hf
      replace e69 : a.tmps.getD 69 undef = _ := e69
      replace e76 : a.tmps.getD 76 undef = _ := e76
      refine rg_want rfl rfl e69 fun K hK => ?_
      clear e69
      go_simp
      exact hK _ _ rfl (Only.refl _ _)
    -- 24: s78 := slice 41 t74 none (some t77) none [if 15=false]
    apply rg_ev
    · intro a w hR hf
      obtain ⟨e69, e74, e77, -⟩ := hf
      replace e69 : a.tmps.getD 69 undef = _ := e69
      replace e74 : a.tmps.getD 74 undef = _ := e74
      replace e77 : a.tmps.getD 77 undef = _ := e77
      refine rg_want rfl rfl e69 fun K hK => ?_
      clear e69
      have h := Hmk.out
      go_simp
      exact hK _ _ rfl (Only.refl _ _)
    -- 25: s79 := build 43 #[(0, t78)] [if 15=false]
    apply rg_ev
    · intro a w hR hf
      obtain ⟨e69, e78, -⟩ := hf
      replace e69 : a.tmps.getD 69 undef = _ := e69
      replace e78 : a.tmps.getD 78 undef = _ := e78
      refine rg_want rfl rfl e69 fun K hK => ?_
      clear e69
      have e78' := e78
      rw [Array.getD_eq_getD_getElem?] at e78'
      go_simp
      exact hK _ _ rfl (Only.refl _ _)
    -- 26: s80 := call { value (Operand.func 25), args := #[t72, t79], #[43, 43] } [if 15=false]
    apply rg_ev
    · intro a w hR hf
      obtain ⟨e69, e72, e79, -⟩ := hf
      replace e69 : a.tmps.getD 69 undef = _ := e69
      replace e72 : a.tmps.getD 72 undef = _ := e72
      replace e79 : a.tmps.getD 79 undef = _ := e79
      refine rg_want rfl rfl e69 fun K hK => ?_
      clear e69
      have hs := same_yes qs ql ms cs cl ⟨#[]⟩ (es.take A) w Hls.out Hm1000.out Hcs.out Hmcl.out (Hrs.out.only0 hR) (Hrl.out.only0 hR)
      unfold pgV at hs
      go_simp
      (with_reducible refine hs.mono ?_)
      rintro e w' ⟨rfl, ho⟩
      exact hK _ _ rfl ho
    -- 27: s81 := unOp Unnot 4 t80 [if 15=false]
    apply rg_ev
    · intro a w hR hf
      obtain ⟨e69, e80, -⟩ := hf
      replace e69 : a.tmps.getD 69 undef = _ := e69
      replace e80 : a.tmps.getD 80 undef = _ := e80
      refine rg_want rfl rfl e69 fun K hK => ?_
      clear e69
      go_simp
      exact hK _ _ rfl (Only.refl _ _)
    -- 28: s82 := pick t69 (const (Value.bool true)) t81
    apply rg_ev
    · intro a w hR hf
      obtain ⟨e69, e81, -⟩ := hf
      replace e69 : a.tmps.getD 69 undef = _ := e69
      replace e81 : a.tmps.getD 81 undef = _ := e81
      refine rg_plain rfl fun K hK => ?_
      go_simp
      exact hK _ _ rfl (Only.refl _ _)
    intro fR9a wR9a hRR9a hf
    dsimp only [mergeT]
    obtain ⟨e82, -⟩ := hf
    replace e82 : fR9a 82 = _ := e82
    rw [e82]
    -- R9a>>
    have ho5 : Only [] w2 wR9a := HO24.out.trans0 hRR9a
    have s80 := hRR9a.cell C80.out (by simp)
    have s81 := hRR9a.cell C81.out (by simp)
    have s100 := hRR9a.cell C100.out (by simp)
    have s101 := hRR9a.cell C101.out (by simp)
    by_cases hc : A < me
    · have hnx : nxs = tokAt es A := by rw [← Hnxs.out, if_pos hc]
      have hmsA : ms = A := by have := HlE.out; omega
      subst hmsA
      subst hnx
      have hne := tokAt_ne (es := es) Hnm.out (a := ms) (by have := HAB.out; omega) (by rw [Hle.out]; omega)
      have h3g := HP.out ms 100 wR9a ho5 (by omega) (by omega) (by omega)
      have hk5 := HK4.out.only0 hRR9a
      have hb5 := HB4.out.only0 hRR9a
      have k1 := hk5.cell (i := 1) rfl
      have k2 := hk5.cell (i := 2) rfl
      have b0 := hb5.cell (i := 0) rfl
      have b1 := hb5.cell (i := 1) rfl
      have b2 := hb5.cell (i := 2) rfl
      have b3 := hb5.cell (i := 3) rfl
      have b4 := hb5.cell (i := 4) rfl
      have HO5 := Lib.hid ho5
      have HR5 := Lib.hid hRR9a
      have Hc := Lib.hid hc
      have hd1 : (str (tokAt es ms)).toList.isEmpty = false := by rw [str_toList]; cases h : tokAt es ms with | nil => exact absurd h hne | cons x l => rfl
      have hd2 : ¬ (str (tokAt es ms)).toList = [] := by rw [str_toList]; exact hne
      obtain ⟨tb, htb⟩ : ∃ tb, tb = str (tokAt es ms) := ⟨_, rfl⟩
      rw [← htb] at s81 hd1 hd2 h3g ⊢
      clear htb hne hc ho5 hRR9a hk5 hb5
      go_wp2_with fail
      refine h3g.mono ?_
      clear h3g k1 k2 b0 b1 b2 b3 b4 s80 s81 s100 s101 hd1 hd2
      rintro e wE ⟨qr, mr, cr, rfl, hlr, ownr, oE⟩
      obtain ⟨nxr, hnxr⟩ : ∃ nxr, (if ms + 100 < me then tokAt es (ms + 100) else []) = nxr := ⟨_, rfl⟩
      rw [hnxr]
      obtain ⟨w6, hw6⟩ : ∃ w6, w6 = wE.alloc (.cells #[.slice qr mr cr, .string (str nxr)] 43) := ⟨_, rfl⟩
      have o6 : Only [] wE w6 := by rw [hw6]; exact Only.alloc _ _
      have r6 : Row w6 wE.heap.size 43 [.slice qr mr cr, .string (str nxr)] := by rw [hw6]; exact Row.newOf _ _ _ _ rfl
      have o46 := (HR5.out.trans0 oE).trans0 o6
      have vr := (ownr.only0 o6).view
      obtain ⟨nn, hnn⟩ : ∃ nn, ml - ms = nn := ⟨_, rfl⟩
      have hlE := HlE.out
      have hAB := HAB.out
      rw [List.length_take, List.length_drop, Hle.out] at hlr
      have C80' := Lib.hid ((HS4.out.only0 o46).cell (i := 0) rfl)
      have C100' := Lib.hid ((HL4.out.only0 o46).cell (i := 0) rfl)
      have C120 := Lib.hid (r6.cell (i := 0) rfl)
      have hsb : (ml : Int) - (ms : Int) = (nn : Int) := by omega
      have Hnm : Hid (decide (nn ≤ mr) = true) := Lib.hid (decide_eq_true (by omega))
      have Hnc : Hid ((nn : Int) ≤ (cr : Int)) := Lib.hid (by have := vr.2.2.2.2.1; omega)
      have Hml2 : Hid ((ms : Int) ≤ (ml : Int)) := Lib.hid (by omega)
      have Hmcl2 : Hid ((ml : Int) ≤ (cl : Int)) := Lib.hid (by omega)
      obtain ⟨rl, hrl⟩ : ∃ rl, (if cl = ms then ql else ql.map fun x => x.add (ms * 5)) = rl := ⟨_, rfl⟩
      have Hcut := Lib.hid hrl
      have Hsub := Lib.hid hnn
      have hld : ((es.take B).drop ms).length = nn := by rw [List.length_drop, List.length_take, Hle.out]; omega
      have Hld := Lib.hid hld
      have hnb : nn ≤ 1000 := by omega
      have Hn1000 : Hid (nn ≤ 1000) := Lib.hid (by omega)
      have Hncr : Hid (nn ≤ cr) := Lib.hid (by have := vr.2.2.2.2.1; omega)
      have Hncl : Hid (nn ≤ cl - ms) := Lib.hid (by omega)
      have Hrr : Hid (Rd w6 qr (((es.take B).drop ms).flatMap enCells)) := Lib.hid (by
        have h := rd_take enCells_len vr.2.2.1 nn
        rw [List.take_take, Nat.min_eq_left (by omega)] at h
        have e : (es.drop ms).take nn = (es.take B).drop ms := by
          rw [List.drop_take]
          rcases Nat.le_total B me with hbm | hbm
          · rw [show B - ms = nn by omega]
          · rw [List.take_of_length_le (by rw [List.length_drop, Hle.out]; omega), List.take_of_length_le (by rw [List.length_drop, Hle.out]; omega)]
        rwa [e] at h)
      have Hrd2 : Hid (Rd w6 rl (((es.take B).drop ms).flatMap enCells)) := Lib.hid (by
        rw [← hrl]
        exact rd_cut enCells_len (Hrl0.out.only0 o46) ms cl (fun h => by rw [List.length_take, Hle.out]; omega))
      have HO6 := Lib.hid (HO2.out.trans0 (HO24.out.trans0 o46))
      have s80 := C80'.out
      have s100 := C100'.out
      have Hw6 := Lib.hid hw6
      unfold pgV
      clear oE o6 r6 o46 vr hnn hlE hAB hlr hrl hld ownr hnxr hw6 C80 C81 C100 C101
      have C80 := C80'
      have C100 := C100'
      clear C80' C100'
      go_upto_region 14 with (fail)
      rw [← Hw6.out]
      go_upto_region 15 with (fail)
      clear Hw6 hsb s80 s100
      -- <<R15a
      refine wp_region_rg2 (Only []) [[(13, none)], [(116, some 0)], [(117, some 0)], [(118, some 0), (8, none)], [(118, some 1), (119, some 0)], [(118, some 2), (120, some 0)], [(118, some 3), (1, none)], [(118, some 4), (121, some 1), (122, some 0)], [(118, some 5), (123, some 0)], [(124, some 0)], [(125, some 0), (12, none)], [(125, some 1), (126, some 0)], [(125, some 2), (127, some 0)], [(125, some 3), (14, none)], [(125, some 4), (128, some 1), (129, some 0)], [(125, some 5), (130, some 0)], [(131, some 0)], [(132, some 0), (12, none)], [(132, some 1), (133, some 0)], [(132, some 2), (14, none)], [(132, some 3), (134, some 1), (135, some 0)], [(132, some 4), (136, some 0)], [(132, some 5), (10, none)], [(132, some 6), (138, some 0)], [(132, some 7), (8, none)], [(132, some 8), (140, some 0)], [(132, some 9), (141, some 0)], [(132, some 10), (139, some 3), (142, some 0)], [(132, some 11), (143, some 0)], [(132, some 12), (137, some 7), (144, some 0)], [(132, some 13), (145, some 0)], [(146, some 0)]] [(6, 0)] [none, none, none, none, none, none, some 6, none, none, none, none, none, none, none, none, none, none, none, none, none, none, none, none, none, none, none, none, none, none, none, none, none, none, none, none, none, none, none, none, none, none, none, none, none, none, none, none, none, none, none, none, none, none, none, none, none, none, none, none, none, none, none, none, none, none, none, none, none, none, none, none, none, none, none, none, none, none, none, none, none, none, none, none, none, none, none, none, none, none, none, none, none, none, none, none, none, none, none, none, none, none, none, none, none, none, none, none, none, none, none, none, none, none, none, none, none, some 116, some 117, some 118, some 119, some 120, some 121, some 122, some 123, some 124, some 125, some 126, some 127, some 128, some 129, some 130, some 131, some 132, some 133, some 134, some 135, some 136, some 137, some 138, some 139, some 140, some 141, some 142, some 143, some 144, some 145, some 146] (by kernel_rfl) rfl (by kernel_rfl) (fun _ => Only.refl _ _) (fun _ _ _ h k => h.trans0 k) (Only.drew _) (by kernel_rfl) ?_
      -- 0: s116 := move t13
      apply rg_ev
      · intro a w hR hf
        obtain ⟨e13, -⟩ := hf
        replace e13 : a.tmps.getD 13 undef = _ := e13
        refine rg_plain rfl fun K hK => ?_
        go_simp
        exact hK _ _ rfl (Only.refl _ _)
      -- 1: s117 := binOp Bineql 45 t116 (const Value.nilIface) 45
      apply rg_ev
      · intro a w hR hf
        obtain ⟨e116, -⟩ := hf
        replace e116 : a.tmps.getD 116 undef = _ := e116
        refine rg_plain rfl fun K hK => ?_
        go_simp
        exact hK _ _ rfl (Only.refl _ _)
      -- 2: s118 := move t117
      apply rg_ev
      · intro a w hR hf
        obtain ⟨e117, -⟩ := hf
        replace e117 : a.tmps.getD 117 undef = _ := e117
        refine rg_plain rfl fun K hK => ?_
        go_simp
        exact hK _ _ rfl (Only.refl _ _)
      -- 3: s119 := fieldAddr 43 t8 0 [if 2=true]
      apply rg_ev
      · intro a w hR hf
        obtain ⟨e118, e8, -⟩ := hf
        replace e118 : a.tmps.getD 118 undef = _ := e118
        replace e8 : a.tmps.getD 8 undef = _ := e8
        refine rg_want rfl rfl e118 fun K hK => ?_
        clear e118
        go_simp
        exact hK _ _ rfl (Only.refl _ _)
      -- 4: s120 := load 41 t119 [if 2=true]
      apply rg_ev
      · intro a w hR hf
        obtain ⟨e118, e119, -⟩ := hf
        replace e118 : a.tmps.getD 118 undef = _ := e118
        replace e119 : a.tmps.getD 119 undef = _ := e119
        refine rg_want rfl rfl e118 fun K hK => ?_
        clear e118
        have g := hR.cell C80.out (by simp)
        go_simp
        exact hK _ _ rfl (Only.refl _ _)
      -- 5: s121 := call { builtin len, args := #[t120], #[41] } [if 2=true]
      apply rg_ev
      · intro a w hR hf
        obtain ⟨e118, e120, -⟩ := hf
        replace e118 : a.tmps.getD 118 undef = _ := e118
        replace e120 : a.tmps.getD 120 undef = _ := e120
        refine rg_want rfl rfl e118 fun K hK => ?_
        clear e118
        go_simp
        exact hK _ _ rfl (Only.refl _ _)
      -- 6: s122 := move t1 [if 2=true]
      apply rg_ev
      · intro a w hR hf
        obtain ⟨e118, e1, -⟩ := hf
        replace e118 : a.tmps.getD 118 undef = _ := e118
        replace e1 : a.tmps.getD 1 undef = _ := e1
        refine rg_want rfl rfl e118 fun K hK => ?_
        clear e118
        go_simp
        exact hK _ _ rfl (Only.refl _ _)
      -- 7: s123 := binOp Bineql 3 t121 t122 3 [if 2=true]
      apply rg_ev
      · intro a w hR hf
        obtain ⟨e118, e121, e122, -⟩ := hf
        replace e118 : a.tmps.getD 118 undef = _ := e118
        replace e121 : a.tmps.getD 121 undef = _ := e121
        replace e122 : a.tmps.getD 122 undef = _ := e122
        refine rg_want rfl rfl e118 fun K hK => ?_
        clear e118
        go_simp
        exact hK _ _ rfl (Only.refl _ _)
      -- 8: s124 := pick t118 t123 (const (Value.bool false))
      apply rg_ev
      · intro a w hR hf
        obtain ⟨e118, e123, -⟩ := hf
        replace e118 : a.tmps.getD 118 undef = _ := e118
        replace e123 : a.tmps.getD 123 undef = _ := e123
        refine rg_plain rfl fun K hK => ?_
        go_simp
        exact hK _ _ rfl (Only.refl _ _)
      -- 9: s125 := move t124
      apply rg_ev
      · intro a w hR hf
        obtain ⟨e124, -⟩ := hf
        replace e124 : a.tmps.getD 124 undef = _ := e124
        refine rg_plain rfl fun K hK => ?_
        go_simp
        exact hK _ _ rfl (Only.refl _ _)
      -- 10: s126 := fieldAddr 43 t12 0 [if 9=true]
      apply rg_ev
      · intro a w hR hf
        obtain ⟨e125, e12, -⟩ := hf
        replace e125 : a.tmps.getD 125 undef = _ := e125
        replace e12 : a.tmps.getD 12 undef = _ := e12
        refine rg_want rfl rfl e125 fun K hK => ?_
        clear e125
        go_simp
        exact hK _ _ rfl (Only.refl _ _)
      -- 11: s127 := load 41 t126 [if 9=true]
      apply rg_ev
      · intro a w hR hf
        obtain ⟨e125, e126, -⟩ := hf
        replace e125 : a.tmps.getD 125 undef = _ := e125
        replace e126 : a.tmps.getD 126 undef = _ := e126
        refine rg_want rfl rfl e125 fun K hK => ?_
        clear e125
        have g := hR.cell C120.out (by simp)
        go_simp
        exact hK _ _ rfl (Only.refl _ _)
      -- 12: s128 := call { builtin len, args := #[t127], #[41] } [if 9=true]
      apply rg_ev
      · intro a w hR hf
        obtain ⟨e125, e127, -⟩ := hf
        replace e125 : a.tmps.getD 125 undef = _ := e125
        replace e127 : a.tmps.getD 127 undef = _ := e127
        refine rg_want rfl rfl e125 fun K hK => ?_
        clear e125
        go_simp
        exact hK _ _ rfl (Only.refl _ _)
      -- 13: s129 := move t14 [if 9=true]
      apply rg_ev
      · intro a w hR hf
        obtain ⟨e125, e14, -⟩ := hf
        replace e125 : a.tmps.getD 125 undef = _ := e125
        replace e14 : a.tmps.getD 14 undef = _ := e14
        refine rg_want rfl rfl e125 fun K hK => ?_
        clear e125
        go_simp
        exact hK _ _ rfl (Only.refl _ _)
      -- 14: s130 := binOp Bingeq 3 t128 t129 3 [if 9=true]
      apply rg_ev
      · intro a w hR hf
        obtain ⟨e125, e128, e129, -⟩ := hf
        replace e125 : a.tmps.getD 125 undef = _ := e125
        replace e128 : a.tmps.getD 128 undef = _ := e128
        replace e129 : a.tmps.getD 129 undef = _ := e129
        refine rg_want rfl rfl e125 fun K hK => ?_
        clear e125
        have h := Hnm.out
        go_simp
        exact hK _ _ rfl (Only.refl _ _)
      -- 15: s131 := pick t125 t130 (const (Value.bool false))
      apply rg_ev
      · intro a w hR hf
        obtain ⟨e125, e130, -⟩ := hf
        replace e125 : a.tmps.getD 125 undef = _ := e125
        replace e130 : a.tmps.getD 130 undef = _ := e130
        refine rg_plain rfl fun K hK => ?_
        go_simp
        exact hK _ _ rfl (Only.refl _ _)
      -- 16: s132 := move t131
      apply rg_ev
      · intro a w hR hf
        obtain ⟨e131, -⟩ := hf
        replace e131 : a.tmps.getD 131 undef = _ := e131
        refine rg_plain rfl fun K hK => ?_
        go_simp
        exact hK _ _ rfl (Only.refl _ _)
      -- 17: s133 := fieldAddr 43 t12 0 [if 16=true]
      apply rg_ev
      · intro a w hR hf
        obtain ⟨e132, e12, -⟩ := hf
        replace e132 : a.tmps.getD 132 undef = _ := e132
        replace e12 : a.tmps.getD 12 undef = _ := e12
        refine rg_want rfl rfl e132 fun K hK => ?_
        clear e132
        go_simp
        exact hK _ _ rfl (Only.refl _ _)
      -- 18: s134 := load 41 t133 [if 16=true]
      apply rg_ev
      · intro a w hR hf
        obtain ⟨e132, e133, -⟩ := hf
        replace e132 : a.tmps.getD 132 undef = _ := e132
        replace e133 : a.tmps.getD 133 undef = _ := e133
        refine rg_want rfl rfl e132 fun K hK => ?_
        clear e132
        have g := hR.cell C120.out (by simp)
        go_simp
        exact hK _ _ rfl (Only.refl _ _)
      -- 19: s135 := move t14 [if 16=true]
      apply rg_ev
      · intro a w hR hf
        obtain ⟨e132, e14, -⟩ := hf
        replace e132 : a.tmps.getD 132 undef = _ := e132
        replace e14 : a.tmps.getD 14 undef = _ := e14
        refine rg_want rfl rfl e132 fun K hK => ?_
        clear e132
        go_simp
        exact hK _ _ rfl (Only.refl _ _)
      -- 20: s136 := slice 41 t134 none (some t135) none [if 16=true]
      apply rg_ev
      · intro a w hR hf
        obtain ⟨e132, e134, e135, -⟩ := hf
        replace e132 : a.tmps.getD 132 undef = _ := e132
        replace e134 : a.tmps.getD 134 undef = _ := e134
        replace e135 : a.tmps.getD 135 undef = _ := e135
        refine rg_want rfl rfl e132 fun K hK => ?_
        clear e132
        have h := Hnc.out
        go_simp
        exact hK _ _ rfl (Only.refl _ _)
      -- 21: s137 := build 43 #[(0, t136)] [if 16=true]
      apply rg_ev
      · intro a w hR hf
        obtain ⟨e132, e136, -⟩ := hf
        replace e132 : a.tmps.getD 132 undef = _ := e132
        replace e136 : a.tmps.getD 136 undef = _ := e136
        refine rg_want rfl rfl e132 fun K hK => ?_
        clear e132
        have e136' := e136
        rw [Array.getD_eq_getD_getElem?] at e136'
        go_simp
        exact hK _ _ rfl (Only.refl _ _)
      -- 22: s138 := fieldAddr 43 t10 0 [if 16=true]
      apply rg_ev
      · intro a w hR hf
        obtain ⟨e132, e10, -⟩ := hf
        replace e132 : a.tmps.getD 132 undef = _ := e132
        replace e10 : a.tmps.getD 10 undef = _ := e10
        refine rg_want rfl rfl e132 fun K hK => ?_
        clear e132
        go_simp
        exact hK _ _ rfl (Only.refl _ _)
      -- 23: s139 := load 41 t138 [if 16=true]
      apply rg_ev
      · intro a w hR hf
        obtain ⟨e132, e138, -⟩ := hf
        replace e132 : a.tmps.getD 132 undef = _ := e132
        replace e138 : a.tmps.getD 138 undef = _ := e138
        refine rg_want rfl rfl e132 fun K hK => ?_
        clear e132
        have g := hR.cell C100.out (by simp)
        go_simp
        exact hK _ _ rfl (Only.refl _ _)
      -- 24: s140 := fieldAddr 43 t8 0 [if 16=true]
      apply rg_ev
      · intro a w hR hf
        obtain ⟨e132, e8, -⟩ := hf
        replace e132 : a.tmps.getD 132 undef = _ := e132
        replace e8 : a.tmps.getD 8 undef = _ := e8
        refine rg_want rfl rfl e132 fun K hK => ?_
        clear e132
        go_simp
        exact hK _ _ rfl (Only.refl _ _)
      -- 25: s141 := load 41 t140 [if 16=true]
      apply rg_ev
      · intro a w hR hf
        obtain ⟨e132, e140, -⟩ := hf
        replace e132 : a.tmps.getD 132 undef = _ := e132
        replace e140 : a.tmps.getD 140 undef = _ := e140
        refine rg_want rfl rfl e132 fun K hK => ?_
        clear e132
        have g := hR.cell C80.out (by simp)
        go_simp
        exact hK _ _ rfl (Only.refl _ _)
      -- 26: s142 := call { builtin len, args := #[t141], #[41] } [if 16=true]
      apply rg_ev
      · intro a w hR hf
        obtain ⟨e132, e141, -⟩ := hf
        replace e132 : a.tmps.getD 132 undef = _ := e132
        replace e141 : a.tmps.getD 141 undef = _ := e141
        refine rg_want rfl rfl e132 fun K hK => ?_
        clear e132
        go_simp
        exact hK _ _ rfl (Only.refl _ _)
      -- 27: s143 := slice 41 t139 (some t142) none none [if 16=true]
      apply rg_ev
      · intro a w hR hf
        obtain ⟨e132, e139, e142, -⟩ := hf
        replace e132 : a.tmps.getD 132 undef = _ := e132
        replace e139 : a.tmps.getD 139 undef = _ := e139
        replace e142 : a.tmps.getD 142 undef = _ := e142
        refine rg_want rfl rfl e132 fun K hK => ?_
        clear e132
        have h := Hml2.out
        have h2 := Hmcl2.out
        have h3 := Hcut.out
        have h4 := Hsub.out
        go_simp
        exact hK _ _ rfl (Only.refl _ _)
      -- 28: s144 := build 43 #[(0, t143)] [if 16=true]
      apply rg_ev
      · intro a w hR hf
        obtain ⟨e132, e143, -⟩ := hf
        replace e132 : a.tmps.getD 132 undef = _ := e132
        replace e143 : a.tmps.getD 143 undef = _ := e143
        refine rg_want rfl rfl e132 fun K hK => ?_
        clear e132
        have e143' := e143
        rw [Array.getD_eq_getD_getElem?] at e143'
        go_simp
        exact hK _ _ rfl (Only.refl _ _)
      -- 29: s145 := call { value (Operand.func 25), args := #[t137, t144], #[43, 43] } [if 16=true]
      apply rg_ev
      · intro a w hR hf
        obtain ⟨e132, e137, e144, -⟩ := hf
        replace e132 : a.tmps.getD 132 undef = _ := e132
        replace e137 : a.tmps.getD 137 undef = _ := e137
        replace e144 : a.tmps.getD 144 undef = _ := e144
        refine rg_want rfl rfl e132 fun K hK => ?_
        clear e132
        have hs := same_yes qr rl nn cr (cl - ms) ⟨#[]⟩ ((es.take B).drop ms) w Hld.out Hn1000.out Hncr.out Hncl.out (Hrr.out.only0 hR) (Hrd2.out.only0 hR)
        unfold pgV at hs
        go_simp
        (with_reducible refine hs.mono ?_)
        rintro e w' ⟨rfl, ho⟩
        exact hK _ _ rfl ho
      -- 30: s146 := pick t132 t145 (const (Value.bool false))
      apply rg_ev
      · intro a w hR hf
        obtain ⟨e132, e145, -⟩ := hf
        replace e132 : a.tmps.getD 132 undef = _ := e132
        replace e145 : a.tmps.getD 145 undef = _ := e145
        refine rg_plain rfl fun K hK => ?_
        go_simp
        exact hK _ _ rfl (Only.refl _ _)
      -- 31: s6 := assign t146
      apply rg_ev
      · intro a w hR hf
        obtain ⟨e146, -⟩ := hf
        replace e146 : a.tmps.getD 146 undef = _ := e146
        refine rg_plain rfl fun K hK => ?_
        go_simp
        exact hK _ _ rfl (Only.refl _ _)
      intro fR15a wR15a hRR15a hf
      dsimp only [mergeT]
      obtain ⟨e6, -⟩ := hf
      replace e6 : fR15a 6 = _ := e6
      rw [e6]
      -- R15a>>
      go_wp2_with fail
      go_ret
      exact ⟨rfl, HO6.out.trans0 hRR15a⟩
    · have hnx : nxs = [] := by rw [← Hnxs.out, if_neg hc]
      have hnl : nxl = [] := by rw [← Hnxl.out, if_neg (by have := HAB.out; omega)]
      have hms : ms = me := by have := HlE.out; omega
      have hmm : ml = me := by have := HlE.out; have := HAB.out; omega
      subst hms
      subst hmm
      subst hnx
      subst hnl
      have hde : (str []).toList = [] := str_toList []
      have HOf := Lib.hid (HO2.out.trans0 ho5)
      clear hc ho5
      go_wp2_with fail
      go_ret
      exact ⟨rfl, HOf.out⟩
  · have hd : decide (mb < ma) = false := decide_eq_false (by omega)
    go_upto_region 6 with (fail)
    obtain ⟨A, hA⟩ : ∃ A, A = ma := ⟨_, rfl⟩
    obtain ⟨B, hB⟩ : ∃ B, B = mb := ⟨_, rfl⟩
    have hAB : 1 ≤ A ∧ A ≤ B ∧ B ≤ 100 := by omega
    rw [← hA, ← hB]
    clear hd hjv hjw hma hmb hA hB hsw hma' hmb' hja hjb
    go_wp2_with fail
    refine hbA.mono ?_
    clear hbA k0 k1 k2 k3 k4
    rintro e wB ⟨q, m, k, rfl, hlB, ownB, oB⟩
    obtain ⟨w2, hw2⟩ : ∃ w2, w2 = wB.alloc (.cells #[.string aaa, .int .i64 0, .int .i64 0, .slice q m k, .slice none 0 0] 39) := ⟨_, rfl⟩
    have o2 : Only [] wB w2 := by rw [hw2]; exact Only.alloc _ _
    have r2 : Row w2 wB.heap.size 39 [.string aaa, .int .i64 0, .int .i64 0, .slice q m k, .slice none 0 0] := by rw [hw2]; exact Row.newOf _ _ _ _ rfl
    have oB2 := oB.trans0 o2
    have hr2 := HRA.out.only0 oB2
    have ho2 := HOA.out.trans0 oB2
    have hownx := ownB.only0 o2
    obtain ⟨es, hes⟩ : ∃ es, entries pf dl (buck ks) = es := ⟨_, rfl⟩
    obtain ⟨me, hle⟩ : ∃ me, es.length = me := ⟨_, rfl⟩
    have hml : me ≤ 1000 := by
      have h1 := entries_len pf dl (buck ks)
      have h2 := HBl.out
      rw [hes] at h1
      omega
    have HP : Hid (∀ (a M : Nat) (w : World), Only [] w2 w → a ≤ me → 1 ≤ M → M ≤ 100 → Calls Tryd.prog 23 #[.agg #[.string aaa, .int .i64 0, .int .i64 0, .slice q m k, .slice none 0 0], .string (str pf), .string (str dl), .string (str (tokAt es a)), .int .i64 (M : Int)] w fun e w' => ∃ q m k, e = .returned (.tuple #[pgV q m k (str (if a + M < me then tokAt es (a + M) else [])), .nilIface]) ∧ ((es.drop a).take M).length = m ∧ OwnK w' w.heap.size 61 5 (.slice q m k) m (((es.drop a).take M).flatMap enCells) ∧ Only [] w w') := Lib.hid (fun a M w ho ha h1 h2 => by
      have h := page_chain aaa 0 0 (.slice none 0 0) rfl q (buck ks) m k pf dl a M mx w hlB (by have := HBl.out; omega) hownx.view.2.2.2.1 (hownx.view.2.2.1.only0 ho) HBs.out HBk.out hpl hdl (ho.cell (ho2.cell Hmx.out (by simp)) (by simp)) (by rw [hes, hle]; exact ha) h1 h2
      rw [hes, hle] at h
      exact h)
    have Hnm : Hid (∀ e ∈ es, e.name ≠ []) := Lib.hid (fun e he => by rw [← hes] at he; obtain ⟨o, ho, h⟩ := (entries_mem HBs.out _).1 he; exact (ent_name h).2 (HBk.out o ho).1)
    have h1g := HP.out 0 A w2 (Only.refl _ _) (Nat.zero_le _) hAB.1 (by omega)
    rw [Nat.zero_add, List.drop_zero] at h1g
    have k1 := hr2.cell (i := 1) rfl
    have k2 := hr2.cell (i := 2) rfl
    have b0 := r2.cell (i := 0) rfl
    have b1 := r2.cell (i := 1) rfl
    have b2 := r2.cell (i := 2) rfl
    have b3 := r2.cell (i := 3) rfl
    have b4 := r2.cell (i := 4) rfl
    have HO2 := Lib.hid ho2
    have HR2 := Lib.hid hr2
    have HB2 := Lib.hid r2
    have Hle := Lib.hid hle
    have Hw2 := Lib.hid hw2
    have HAB := Lib.hid hAB
    unfold bkV
    clear hlB ownB oB o2 r2 oB2 hr2 ho2 hw2 hes hle hownx hAB HOA HRA HR1
    go_upto_region 7 with (fail)
    rw [← Hw2.out]
    go_wp2_with fail
    refine h1g.mono ?_
    clear h1g k1 k2 b0 b1 b2 b3 b4 Hw2
    rintro e wC ⟨qs, ms, cs, rfl, hls, owns, oC⟩
    obtain ⟨nxs, hnxs⟩ : ∃ nxs, (if A < me then tokAt es A else []) = nxs := ⟨_, rfl⟩
    rw [hnxs]
    obtain ⟨w3, hw3⟩ : ∃ w3, w3 = wC.alloc (.cells #[.slice qs ms cs, .string (str nxs)] 43) := ⟨_, rfl⟩
    have o3 : Only [] wC w3 := by rw [hw3]; exact Only.alloc _ _
    have r3 : Row w3 wC.heap.size 43 [.slice qs ms cs, .string (str nxs)] := by rw [hw3]; exact Row.newOf _ _ _ _ rfl
    have o23 := oC.trans0 o3
    have hk3 := HR2.out.only0 o23
    have hb3 := HB2.out.only0 o23
    have h2g := HP.out 0 B w3 o23 (Nat.zero_le _) (by have := HAB.out; omega) HAB.out.2.2
    rw [Nat.zero_add, List.drop_zero] at h2g
    have k1 := hk3.cell (i := 1) rfl
    have k2 := hk3.cell (i := 2) rfl
    have b0 := hb3.cell (i := 0) rfl
    have b1 := hb3.cell (i := 1) rfl
    have b2 := hb3.cell (i := 2) rfl
    have b3 := hb3.cell (i := 3) rfl
    have b4 := hb3.cell (i := 4) rfl
    have HO23 := Lib.hid o23
    have HR3 := Lib.hid r3
    have HK3 := Lib.hid hk3
    have HB3 := Lib.hid hb3
    have Hos := Lib.hid (owns.only0 o3)
    have Hls := Lib.hid hls
    have Hnxs := Lib.hid hnxs
    have Hw3 := Lib.hid hw3
    unfold pgV
    clear hls owns oC o3 r3 o23 hk3 hb3 hnxs hw3 HR2 HB2
    go_upto_region 8 with (fail)
    rw [← Hw3.out]
    go_wp2_with fail
    refine h2g.mono ?_
    clear h2g k1 k2 b0 b1 b2 b3 b4 Hw3
    rintro e wD ⟨ql, ml, cl, rfl, hll, ownl, oD⟩
    obtain ⟨nxl, hnxl⟩ : ∃ nxl, (if B < me then tokAt es B else []) = nxl := ⟨_, rfl⟩
    rw [hnxl]
    obtain ⟨w4, hw4⟩ : ∃ w4, w4 = wD.alloc (.cells #[.slice ql ml cl, .string (str nxl)] 43) := ⟨_, rfl⟩
    have o4 : Only [] wD w4 := by rw [hw4]; exact Only.alloc _ _
    have r4 : Row w4 wD.heap.size 43 [.slice ql ml cl, .string (str nxl)] := by rw [hw4]; exact Row.newOf _ _ _ _ rfl
    have o34 := oD.trans0 o4
    have HO24 := Lib.hid (HO23.out.trans0 o34)
    have HS4 := Lib.hid (HR3.out.only0 o34)
    have HL4 := Lib.hid r4
    have HK4 := Lib.hid (HK3.out.only0 o34)
    have HB4 := Lib.hid (HB3.out.only0 o34)
    have vs := (Hos.out.only0 o34).view
    have vl := (ownl.only0 o4).view
    have Hrs : Hid (Rd w4 qs ((es.take A).flatMap enCells)) := Lib.hid vs.2.2.1
    have Hrl0 : Hid (Rd w4 ql ((es.take B).flatMap enCells)) := Lib.hid vl.2.2.1
    have Hls' := Hls.out
    rw [List.length_take, Hle.out] at Hls'
    rw [List.length_take, Hle.out] at hll
    have hAB := HAB.out
    have Hrl : Hid (Rd w4 ql ((es.take A).flatMap enCells)) := Lib.hid (by
      have h := rd_take enCells_len vl.2.2.1 A
      rwa [List.take_take, Nat.min_eq_left hAB.2.1] at h)
    have C80 := Lib.hid (HS4.out.cell (i := 0) rfl)
    have C81 := Lib.hid (HS4.out.cell (i := 1) rfl)
    have C100 := Lib.hid (HL4.out.cell (i := 0) rfl)
    have C101 := Lib.hid (HL4.out.cell (i := 1) rfl)
    have Hml : Hid (decide (ml < ms) = false) := Lib.hid (decide_eq_false (by omega))
    have Hmk : Hid ((ms : Int) ≤ (cl : Int)) := Lib.hid (by have := vl.2.2.2.2.1; omega)
    have Hmcl : Hid (ms ≤ cl) := Lib.hid (by have := vl.2.2.2.2.1; omega)
    have Hcs : Hid (ms ≤ cs) := Lib.hid vs.2.2.2.2.1
    have Hm1000 : Hid (ms ≤ 1000) := Lib.hid (by omega)
    have HlE : Hid (ms = min A me ∧ ml = min B me ∧ ml ≤ cl) := Lib.hid ⟨Hls'.symm, hll.symm, vl.2.2.2.2.1⟩
    have Hnxl := Lib.hid hnxl
    have Hw4 := Lib.hid hw4
    unfold pgV
    clear hll ownl oD o4 r4 o34 hnxl hw4 vs vl Hls' hAB HO23 HR3 HK3 HB3 Hos
    go_upto_region 9 with (fail)
    rw [← Hw4.out]
    clear Hw4
    -- <<R9b
    refine wp_region_rg2 (Only []) [[(9, none)], [(54, some 0)], [(55, some 0)], [(56, some 0), (11, none)], [(56, some 1), (57, some 0)], [(56, some 2), (58, some 0)], [(59, some 0)], [(60, some 0), (8, none)], [(60, some 1), (61, some 0)], [(60, some 2), (62, some 0)], [(60, some 3), (10, none)], [(60, some 4), (64, some 0)], [(60, some 5), (65, some 0)], [(60, some 6), (63, some 3), (66, some 0)], [(60, some 7), (67, some 0)], [(68, some 0)], [(69, some 0), (8, none)], [(69, some 1), (70, some 0)], [(69, some 2), (71, some 0)], [(69, some 3), (10, none)], [(69, some 4), (73, some 0)], [(69, some 5), (8, none)], [(69, some 6), (75, some 0)], [(69, some 7), (76, some 0)], [(69, some 8), (74, some 3), (77, some 0)], [(69, some 9), (78, some 0)], [(69, some 10), (72, some 7), (79, some 0)], [(69, some 11), (80, some 0)], [(69, some 12), (81, some 0)]] [(82, 0)] [none, none, none, none, none, none, none, none, none, none, none, none, none, none, none, none, none, none, none, none, none, none, none, none, none, none, none, none, none, none, none, none, none, none, none, none, none, none, none, none, none, none, none, none, none, none, none, none, none, none, none, none, none, none, some 54, some 55, some 56, some 57, some 58, some 59, some 60, some 61, some 62, some 63, some 64, some 65, some 66, some 67, some 68, some 69, some 70, some 71, some 72, some 73, some 74, some 75, some 76, some 77, some 78, some 79, some 80, some 81, some 82, none, none, none, none, none, none, none, none, none, none, none, none, none, none, none, none, none, none, none, none, none, none, none, none, none, none, none, none, none, none, none, none, none, none, none, none, none, none, none, none, none, none, none, none, none, none, none, none, none, none, none, none, none, none, none, none, none, none, none, none, none, none, none, none] (by kernel_rfl) rfl (by kernel_rfl) (fun _ => Only.refl _ _) (fun _ _ _ h k => h.trans0 k) (Only.drew _) (by kernel_rfl) ?_
    -- 0: s54 := move t9
    apply rg_ev
    · intro a w hR hf
      obtain ⟨e9, -⟩ := hf
      replace e9 : a.tmps.getD 9 undef = _ := e9
      refine rg_plain rfl fun K hK => ?_
      go_simp
      exact hK _ _ rfl (Only.refl _ _)
    -- 1: s55 := binOp Binneq 45 t54 (const Value.nilIface) 45
    apply rg_ev
    · intro a w hR hf
      obtain ⟨e54, -⟩ := hf
      replace e54 : a.tmps.getD 54 undef = _ := e54
      refine rg_plain rfl fun K hK => ?_
      go_simp
      exact hK _ _ rfl (Only.refl _ _)
    -- 2: s56 := move t55
    apply rg_ev
    · intro a w hR hf
      obtain ⟨e55, -⟩ := hf
      replace e55 : a.tmps.getD 55 undef = _ := e55
      refine rg_plain rfl fun K hK => ?_
      go_simp
      exact hK _ _ rfl (Only.refl _ _)
    -- 3: s57 := move t11 [if 2=false]
    apply rg_ev
    · intro a w hR hf
      obtain ⟨e56, e11, -⟩ := hf
      replace e56 : a.tmps.getD 56 undef = _ := e56
      replace e11 : a.tmps.getD 11 undef = _ := e11
      refine rg_want rfl rfl e56 fun K hK => ?_
      clear e56
      go_simp
      exact hK _ _ rfl (Only.refl _ _)
    -- 4: s58 := binOp Binneq 45 t57 (const Value.nilIface) 45 [if 2=false]
    apply rg_ev
    · intro a w hR hf
      obtain ⟨e56, e57, -⟩ := hf
      replace e56 : a.tmps.getD 56 undef = _ := e56
      replace e57 : a.tmps.getD 57 undef = _ := e57
      refine rg_want rfl rfl e56 fun K hK => ?_
      clear e56
      go_simp
      exact hK _ _ rfl (Only.refl _ _)
    -- 5: s59 := pick t56 (const (Value.bool true)) t58
    apply rg_ev
    · intro a w hR hf
      obtain ⟨e56, e58, -⟩ := hf
      replace e56 : a.tmps.getD 56 undef = _ := e56
      replace e58 : a.tmps.getD 58 undef = _ := e58
      refine rg_plain rfl fun K hK => ?_
      go_simp
      exact hK _ _ rfl (Only.refl _ _)
    -- 6: s60 := move t59
    apply rg_ev
    · intro a w hR hf
      obtain ⟨e59, -⟩ := hf
      replace e59 : a.tmps.getD 59 undef = _ := e59
      refine rg_plain rfl fun K hK => ?_
      go_simp
      exact hK _ _ rfl (Only.refl _ _)
    -- 7: s61 := fieldAddr 43 t8 0 [if 6=false]
    apply rg_ev
    · intro a w hR hf
      obtain ⟨e60, e8, -⟩ := hf
      replace e60 : a.tmps.getD 60 undef = _ := e60
      replace e8 : a.tmps.getD 8 undef = _ := e8
      refine rg_want rfl rfl e60 fun K hK => ?_
      clear e60
      go_simp
      exact hK _ _ rfl (Only.refl _ _)
    -- 8: s62 := load 41 t61 [if 6=false]
    apply rg_ev
    · intro a w hR hf
      obtain ⟨e60, e61, -⟩ := hf
      replace e60 : a.tmps.getD 60 undef = _ := e60
      replace e61 : a.tmps.getD 61 undef = _ := e61
      refine rg_want rfl rfl e60 fun K hK => ?_
      clear e60
      have g := hR.cell C80.out (by simp)
      go_simp
      exact hK _ _ rfl (Only.refl _ _)
    -- 9: s63 := call { builtin len, args := #[t62], #[41] } [if 6=false]
    apply rg_ev
    · intro a w hR hf
      obtain ⟨e60, e62, -⟩ := hf
      replace e60 : a.tmps.getD 60 undef = _ := e60
      replace e62 : a.tmps.getD 62 undef = _ := e62
      refine rg_want rfl rfl e60 fun K hK => ?_
      clear e60
      go_simp
      exact hK _ _ rfl (Only.refl _ _)
    -- 10: s64 := fieldAddr 43 t10 0 [if 6=false]
    apply rg_ev
    · intro a w hR hf
      obtain ⟨e60, e10, -⟩ := hf
      replace e60 : a.tmps.getD 60 undef = _ := e60
      replace e10 : a.tmps.getD 10 undef = _ := e10
      refine rg_want rfl rfl e60 fun K hK => ?_
      clear e60
      go_simp
      exact hK _ _ rfl (Only.refl _ _)
    -- 11: s65 := load 41 t64 [if 6=false]
    apply rg_ev
    · intro a w hR hf
      obtain ⟨e60, e64, -⟩ := hf
      replace e60 : a.tmps.getD 60 undef = _ := e60
      replace e64 : a.tmps.getD 64 undef = _ := e64
      refine rg_want rfl rfl e60 fun K hK => ?_
      clear e60
      have g := hR.cell C100.out (by simp)
      go_simp
      exact hK _ _ rfl (Only.refl _ _)
    -- 12: s66 := call { builtin len, args := #[t65], #[41] } [if 6=false]
    apply rg_ev
    · intro a w hR hf
      obtain ⟨e60, e65, -⟩ := hf
      replace e60 : a.tmps.getD 60 undef = _ := e60
      replace e65 : a.tmps.getD 65 undef = _ := e65
      refine rg_want rfl rfl e60 fun K hK => ?_
      clear e60
      go_simp
      exact hK _ _ rfl (Only.refl _ _)
    -- 13: s67 := binOp Bingtr 3 t63 t66 3 [if 6=false]
    apply rg_ev
    · intro a w hR hf
      obtain ⟨e60, e63, e66, -⟩ := hf
      replace e60 : a.tmps.getD 60 undef = _ := e60
      replace e63 : a.tmps.getD 63 undef = _ := e63
      replace e66 : a.tmps.getD 66 undef = _ := e66
      refine rg_want rfl rfl e60 fun K hK => ?_
      clear e60
      have h := Hml.out
      go_simp
      exact hK _ _ rfl (Only.refl _ _)
    -- 14: s68 := pick t60 (const (Value.bool true)) t67
    apply rg_ev
    · intro a w hR hf
      obtain ⟨e60, e67, -⟩ := hf
      replace e60 : a.tmps.getD 60 undef = _ := e60
      replace e67 : a.tmps.getD 67 undef = _ := e67
      refine rg_plain rfl fun K hK => ?_
      go_simp
      exact hK _ _ rfl (Only.refl _ _)
    -- 15: s69 := move t68
    apply rg_ev
    · intro a w hR hf
      obtain ⟨e68, -⟩ := hf
      replace e68 : a.tmps.getD 68 undef = _ := e68
      refine rg_plain rfl fun K hK => ?_
      go_simp
      exact hK _ _ rfl (Only.refl _ _)
    -- 16: s70 := fieldAddr 43 t8 0 [if 15=false]
    apply rg_ev
    · intro a w hR hf
      obtain ⟨e69, e8, -⟩ := hf
      replace e69 : a.tmps.getD 69 undef = _ := e69
      replace e8 : a.tmps.getD 8 undef = _ := e8
      refine rg_want rfl rfl e69 fun K hK => ?_
      clear e69
      go_simp
      exact hK _ _ rfl (Only.refl _ _)
    -- 17: s71 := load 41 t70 [if 15=false]
    apply rg_ev
    · intro a w hR hf
      obtain ⟨e69, e70, -⟩ := hf
      replace e69 : a.tmps.getD 69 undef = _ := e69
      replace e70 : a.tmps.getD 70 undef = _ := e70
      refine rg_want rfl rfl e69 fun K hK => ?_
      clear e69
      have g := hR.cell C80.out (by simp)
      go_simp
      exact hK _ _ rfl (Only.refl _ _)
    -- 18: s72 := build 43 #[(0, t71)] [if 15=false]
    apply rg_ev
    · intro a w hR hf
      obtain ⟨e69, e71, -⟩ := hf
      replace e69 : a.tmps.getD 69 undef = _ := e69
      replace e71 : a.tmps.getD 71 undef = _ := e71
      refine rg_want rfl rfl e69 fun K hK => ?_
      clear e69
      have e71' := e71
      rw [Array.getD_eq_getD_getElem?] at e71'
      go_simp
      exact hK _ _ rfl (Only.refl _ _)
    -- 19: s73 := fieldAddr 43 t10 0 [if 15=false]
    apply rg_ev
    · intro a w hR hf
      obtain ⟨e69, e10, -⟩ := hf
      replace e69 : a.tmps.getD 69 undef = _ := e69
      replace e10 : a.tmps.getD 10 undef = _ := e10
      refine rg_want rfl rfl e69 fun K hK => ?_
      clear e69
      go_simp
      exact hK _ _ rfl (Only.refl _ _)
    -- 20: s74 := load 41 t73 [if 15=false]
    apply rg_ev
    · intro a w hR hf
      obtain ⟨e69, e73, -⟩ := hf
      replace e69 : a.tmps.getD 69 undef = _ := e69
      replace e73 : a.tmps.getD 73 undef = _ := e73
      refine rg_want rfl rfl e69 fun K hK => ?_
      clear e69
      have g := hR.cell C100.out (by simp)
      go_simp
      exact hK _ _ rfl (Only.refl _ _)
    -- 21: s75 := fieldAddr 43 t8 0 [if 15=false]
    apply rg_ev
    · intro a w hR hf
      obtain ⟨e69, e8, -⟩ := hf
      replace e69 : a.tmps.getD 69 undef = _ := e69
      replace e8 : a.tmps.getD 8 undef = _ := e8
      refine rg_want rfl rfl e69 fun K hK => ?_
      clear e69
      go_simp
      exact hK _ _ rfl (Only.refl _ _)
    -- 22: s76 := load 41 t75 [if 15=false]
    apply rg_ev
    · intro a w hR hf
      obtain ⟨e69, e75, -⟩ := hf
      replace e69 : a.tmps.getD 69 undef = _ := e69
      replace e75 : a.tmps.getD 75 undef = _ := e75
      refine rg_want rfl rfl e69 fun K hK => ?_
      clear e69
      have g := hR.cell C80.out (by simp)
      go_simp
      exact hK _ _ rfl (Only.refl _ _)
    -- 23: s77 := call { builtin len, args := #[t76], #[41] } [if 15=false]
    apply rg_ev
    · intro a w hR hf
      obtain ⟨e69, e76, -⟩ := hf
      replace e69 : a.tmps.getD 69 undef = _ := e69
      replace e76 : a.tmps.getD 76 undef = _ := e76
      refine rg_want rfl rfl e69 fun K hK => ?_
      clear e69
      go_simp
      exact hK _ _ rfl (Only.refl _ _)
    -- 24: s78 := slice 41 t74 none (some t77) none [if 15=false]
    apply rg_ev
    · intro a w hR hf
      obtain ⟨e69, e74, e77, -⟩ := hf
      replace e69 : a.tmps.getD 69 undef = _ := e69
      replace e74 : a.tmps.getD 74 undef = _ := e74
      replace e77 : a.tmps.getD 77 undef = _ := e77
      refine rg_want rfl rfl e69 fun K hK => ?_
      clear e69
      have h := Hmk.out
      go_simp
      exact hK _ _ rfl (Only.refl _ _)
    -- 25: s79 := build 43 #[(0, t78)] [if 15=false]
    apply rg_ev
    · intro a w hR hf
      obtain ⟨e69, e78, -⟩ := hf
      replace e69 : a.tmps.getD 69 undef = _ := e69
      replace e78 : a.tmps.getD 78 undef = _ := e78
      refine rg_want rfl rfl e69 fun K hK => ?_
      clear e69
      have e78' := e78
      rw [Array.getD_eq_getD_getElem?] at e78'
      go_simp
      exact hK _ _ rfl (Only.refl _ _)
    -- 26: s80 := call { value (Operand.func 25), args := #[t72, t79], #[43, 43] } [if 15=false]
    apply rg_ev
    · intro a w hR hf
      obtain ⟨e69, e72, e79, -⟩ := hf
      replace e69 : a.tmps.getD 69 undef = _ := e69
      replace e72 : a.tmps.getD 72 undef = _ := e72
      replace e79 : a.tmps.getD 79 undef = _ := e79
      refine rg_want rfl rfl e69 fun K hK => ?_
      clear e69
      have hs := same_yes qs ql ms cs cl ⟨#[]⟩ (es.take A) w Hls.out Hm1000.out Hcs.out Hmcl.out (Hrs.out.only0 hR) (Hrl.out.only0 hR)
      unfold pgV at hs
      go_simp
      (with_reducible refine hs.mono ?_)
      rintro e w' ⟨rfl, ho⟩
      exact hK _ _ rfl ho
    -- 27: s81 := unOp Unnot 4 t80 [if 15=false]
    apply rg_ev
    · intro a w hR hf
      obtain ⟨e69, e80, -⟩ := hf
      replace e69 : a.tmps.getD 69 undef = _ := e69
      replace e80 : a.tmps.getD 80 undef = _ := e80
      refine rg_want rfl rfl e69 fun K hK => ?_
      clear e69
      go_simp
      exact hK _ _ rfl (Only.refl _ _)
    -- 28: s82 := pick t69 (const (Value.bool true)) t81
    apply rg_ev
    · intro a w hR hf
      obtain ⟨e69, e81, -⟩ := hf
      replace e69 : a.tmps.getD 69 undef = _ := e69
      replace e81 : a.tmps.getD 81 undef = _ := e81
      refine rg_plain rfl fun K hK => ?_
      go_simp
      exact hK _ _ rfl (Only.refl _ _)
    intro fR9b wR9b hRR9b hf
    dsimp only [mergeT]
    obtain ⟨e82, -⟩ := hf
    replace e82 : fR9b 82 = _ := e82
    rw [e82]
    -- R9b>>
    have ho5 : Only [] w2 wR9b := HO24.out.trans0 hRR9b
    have s80 := hRR9b.cell C80.out (by simp)
    have s81 := hRR9b.cell C81.out (by simp)
    have s100 := hRR9b.cell C100.out (by simp)
    have s101 := hRR9b.cell C101.out (by simp)
    by_cases hc : A < me
    · have hnx : nxs = tokAt es A := by rw [← Hnxs.out, if_pos hc]
      have hmsA : ms = A := by have := HlE.out; omega
      subst hmsA
      subst hnx
      have hne := tokAt_ne (es := es) Hnm.out (a := ms) (by have := HAB.out; omega) (by rw [Hle.out]; omega)
      have h3g := HP.out ms 100 wR9b ho5 (by omega) (by omega) (by omega)
      have hk5 := HK4.out.only0 hRR9b
      have hb5 := HB4.out.only0 hRR9b
      have k1 := hk5.cell (i := 1) rfl
      have k2 := hk5.cell (i := 2) rfl
      have b0 := hb5.cell (i := 0) rfl
      have b1 := hb5.cell (i := 1) rfl
      have b2 := hb5.cell (i := 2) rfl
      have b3 := hb5.cell (i := 3) rfl
      have b4 := hb5.cell (i := 4) rfl
      have HO5 := Lib.hid ho5
      have HR5 := Lib.hid hRR9b
      have Hc := Lib.hid hc
      have hd1 : (str (tokAt es ms)).toList.isEmpty = false := by rw [str_toList]; cases h : tokAt es ms with | nil => exact absurd h hne | cons x l => rfl
      have hd2 : ¬ (str (tokAt es ms)).toList = [] := by rw [str_toList]; exact hne
      obtain ⟨tb, htb⟩ : ∃ tb, tb = str (tokAt es ms) := ⟨_, rfl⟩
      rw [← htb] at s81 hd1 hd2 h3g ⊢
      clear htb hne hc ho5 hRR9b hk5 hb5
      go_wp2_with fail
      refine h3g.mono ?_
      clear h3g k1 k2 b0 b1 b2 b3 b4 s80 s81 s100 s101 hd1 hd2
      rintro e wE ⟨qr, mr, cr, rfl, hlr, ownr, oE⟩
      obtain ⟨nxr, hnxr⟩ : ∃ nxr, (if ms + 100 < me then tokAt es (ms + 100) else []) = nxr := ⟨_, rfl⟩
      rw [hnxr]
      obtain ⟨w6, hw6⟩ : ∃ w6, w6 = wE.alloc (.cells #[.slice qr mr cr, .string (str nxr)] 43) := ⟨_, rfl⟩
      have o6 : Only [] wE w6 := by rw [hw6]; exact Only.alloc _ _
      have r6 : Row w6 wE.heap.size 43 [.slice qr mr cr, .string (str nxr)] := by rw [hw6]; exact Row.newOf _ _ _ _ rfl
      have o46 := (HR5.out.trans0 oE).trans0 o6
      have vr := (ownr.only0 o6).view
      obtain ⟨nn, hnn⟩ : ∃ nn, ml - ms = nn := ⟨_, rfl⟩
      have hlE := HlE.out
      have hAB := HAB.out
      rw [List.length_take, List.length_drop, Hle.out] at hlr
      have C80' := Lib.hid ((HS4.out.only0 o46).cell (i := 0) rfl)
      have C100' := Lib.hid ((HL4.out.only0 o46).cell (i := 0) rfl)
      have C120 := Lib.hid (r6.cell (i := 0) rfl)
      have hsb : (ml : Int) - (ms : Int) = (nn : Int) := by omega
      have Hnm : Hid (decide (nn ≤ mr) = true) := Lib.hid (decide_eq_true (by omega))
      have Hnc : Hid ((nn : Int) ≤ (cr : Int)) := Lib.hid (by have := vr.2.2.2.2.1; omega)
      have Hml2 : Hid ((ms : Int) ≤ (ml : Int)) := Lib.hid (by omega)
      have Hmcl2 : Hid ((ml : Int) ≤ (cl : Int)) := Lib.hid (by omega)
      obtain ⟨rl, hrl⟩ : ∃ rl, (if cl = ms then ql else ql.map fun x => x.add (ms * 5)) = rl := ⟨_, rfl⟩
      have Hcut := Lib.hid hrl
      have Hsub := Lib.hid hnn
      have hld : ((es.take B).drop ms).length = nn := by rw [List.length_drop, List.length_take, Hle.out]; omega
      have Hld := Lib.hid hld
      have hnb : nn ≤ 1000 := by omega
      have Hn1000 : Hid (nn ≤ 1000) := Lib.hid (by omega)
      have Hncr : Hid (nn ≤ cr) := Lib.hid (by have := vr.2.2.2.2.1; omega)
      have Hncl : Hid (nn ≤ cl - ms) := Lib.hid (by omega)
      have Hrr : Hid (Rd w6 qr (((es.take B).drop ms).flatMap enCells)) := Lib.hid (by
        have h := rd_take enCells_len vr.2.2.1 nn
        rw [List.take_take, Nat.min_eq_left (by omega)] at h
        have e : (es.drop ms).take nn = (es.take B).drop ms := by
          rw [List.drop_take]
          rcases Nat.le_total B me with hbm | hbm
          · rw [show B - ms = nn by omega]
          · rw [List.take_of_length_le (by rw [List.length_drop, Hle.out]; omega), List.take_of_length_le (by rw [List.length_drop, Hle.out]; omega)]
        rwa [e] at h)
      have Hrd2 : Hid (Rd w6 rl (((es.take B).drop ms).flatMap enCells)) := Lib.hid (by
        rw [← hrl]
        exact rd_cut enCells_len (Hrl0.out.only0 o46) ms cl (fun h => by rw [List.length_take, Hle.out]; omega))
      have HO6 := Lib.hid (HO2.out.trans0 (HO24.out.trans0 o46))
      have s80 := C80'.out
      have s100 := C100'.out
      have Hw6 := Lib.hid hw6
      unfold pgV
      clear oE o6 r6 o46 vr hnn hlE hAB hlr hrl hld ownr hnxr hw6 C80 C81 C100 C101
      have C80 := C80'
      have C100 := C100'
      clear C80' C100'
      go_upto_region 14 with (fail)
      rw [← Hw6.out]
      go_upto_region 15 with (fail)
      clear Hw6 hsb s80 s100
      -- <<R15b
      refine wp_region_rg2 (Only []) [[(13, none)], [(116, some 0)], [(117, some 0)], [(118, some 0), (8, none)], [(118, some 1), (119, some 0)], [(118, some 2), (120, some 0)], [(118, some 3), (1, none)], [(118, some 4), (121, some 1), (122, some 0)], [(118, some 5), (123, some 0)], [(124, some 0)], [(125, some 0), (12, none)], [(125, some 1), (126, some 0)], [(125, some 2), (127, some 0)], [(125, some 3), (14, none)], [(125, some 4), (128, some 1), (129, some 0)], [(125, some 5), (130, some 0)], [(131, some 0)], [(132, some 0), (12, none)], [(132, some 1), (133, some 0)], [(132, some 2), (14, none)], [(132, some 3), (134, some 1), (135, some 0)], [(132, some 4), (136, some 0)], [(132, some 5), (10, none)], [(132, some 6), (138, some 0)], [(132, some 7), (8, none)], [(132, some 8), (140, some 0)], [(132, some 9), (141, some 0)], [(132, some 10), (139, some 3), (142, some 0)], [(132, some 11), (143, some 0)], [(132, some 12), (137, some 7), (144, some 0)], [(132, some 13), (145, some 0)], [(146, some 0)]] [(6, 0)] [none, none, none, none, none, none, some 6, none, none, none, none, none, none, none, none, none, none, none, none, none, none, none, none, none, none, none, none, none, none, none, none, none, none, none, none, none, none, none, none, none, none, none, none, none, none, none, none, none, none, none, none, none, none, none, none, none, none, none, none, none, none, none, none, none, none, none, none, none, none, none, none, none, none, none, none, none, none, none, none, none, none, none, none, none, none, none, none, none, none, none, none, none, none, none, none, none, none, none, none, none, none, none, none, none, none, none, none, none, none, none, none, none, none, none, none, none, some 116, some 117, some 118, some 119, some 120, some 121, some 122, some 123, some 124, some 125, some 126, some 127, some 128, some 129, some 130, some 131, some 132, some 133, some 134, some 135, some 136, some 137, some 138, some 139, some 140, some 141, some 142, some 143, some 144, some 145, some 146] (by kernel_rfl) rfl (by kernel_rfl) (fun _ => Only.refl _ _) (fun _ _ _ h k => h.trans0 k) (Only.drew _) (by kernel_rfl) ?_
      -- 0: s116 := move t13
      apply rg_ev
      · intro a w hR hf
        obtain ⟨e13, -⟩ := hf
        replace e13 : a.tmps.getD 13 undef = _ := e13
        refine rg_plain rfl fun K hK => ?_
        go_simp
        exact hK _ _ rfl (Only.refl _ _)
      -- 1: s117 := binOp Bineql 45 t116 (const Value.nilIface) 45
      apply rg_ev
      · intro a w hR hf
        obtain ⟨e116, -⟩ := hf
        replace e116 : a.tmps.getD 116 undef = _ := e116
        refine rg_plain rfl fun K hK => ?_
        go_simp
        exact hK _ _ rfl (Only.refl _ _)
      -- 2: s118 := move t117
      apply rg_ev
      · intro a w hR hf
        obtain ⟨e117, -⟩ := hf
        replace e117 : a.tmps.getD 117 undef = _ := e117
        refine rg_plain rfl fun K hK => ?_
        go_simp
        exact hK _ _ rfl (Only.refl _ _)
      -- 3: s119 := fieldAddr 43 t8 0 [if 2=true]
      apply rg_ev
      · intro a w hR hf
        obtain ⟨e118, e8, -⟩ := hf
        replace e118 : a.tmps.getD 118 undef = _ := e118
        replace e8 : a.tmps.getD 8 undef = _ := e8
        refine rg_want rfl rfl e118 fun K hK => ?_
        clear e118
        go_simp
        exact hK _ _ rfl (Only.refl _ _)
      -- 4: s120 := load 41 t119 [if 2=true]
      apply rg_ev
      · intro a w hR hf
        obtain ⟨e118, e119, -⟩ := hf
        replace e118 : a.tmps.getD 118 undef = _ := e118
        replace e119 : a.tmps.getD 119 undef = _ := e119
        refine rg_want rfl rfl e118 fun K hK => ?_
        clear e118
        have g := hR.cell C80.out (by simp)
        go_simp
        exact hK _ _ rfl (Only.refl _ _)
      -- 5: s121 := call { builtin len, args := #[t120], #[41] } [if 2=true]
      apply rg_ev
      · intro a w hR hf
        obtain ⟨e118, e120, -⟩ := hf
        replace e118 : a.tmps.getD 118 undef = _ := e118
        replace e120 : a.tmps.getD 120 undef = _ := e120
        refine rg_want rfl rfl e118 fun K hK => ?_
        clear e118
        go_simp
        exact hK _ _ rfl (Only.refl _ _)
      -- 6: s122 := move t1 [if 2=true]
      apply rg_ev
      · intro a w hR hf
        obtain ⟨e118, e1, -⟩ := hf
        replace e118 : a.tmps.getD 118 undef = _ := e118
        replace e1 : a.tmps.getD 1 undef = _ := e1
        refine rg_want rfl rfl e118 fun K hK => ?_
        clear e118
        go_simp
        exact hK _ _ rfl (Only.refl _ _)
      -- 7: s123 := binOp Bineql 3 t121 t122 3 [if 2=true]
      apply rg_ev
      · intro a w hR hf
        obtain ⟨e118, e121, e122, -⟩ := hf
        replace e118 : a.tmps.getD 118 undef = _ := e118
        replace e121 : a.tmps.getD 121 undef = _ := e121
        replace e122 : a.tmps.getD 122 undef = _ := e122
        refine rg_want rfl rfl e118 fun K hK => ?_
        clear e118
        go_simp
        exact hK _ _ rfl (Only.refl _ _)
      -- 8: s124 := pick t118 t123 (const (Value.bool false))
      apply rg_ev
      · intro a w hR hf
        obtain ⟨e118, e123, -⟩ := hf
        replace e118 : a.tmps.getD 118 undef = _ := e118
        replace e123 : a.tmps.getD 123 undef = _ := e123
        refine rg_plain rfl fun K hK => ?_
        go_simp
        exact hK _ _ rfl (Only.refl _ _)
      -- 9: s125 := move t124
      apply rg_ev
      · intro a w hR hf
        obtain ⟨e124, -⟩ := hf
        replace e124 : a.tmps.getD 124 undef = _ := e124
        refine rg_plain rfl fun K hK => ?_
        go_simp
        exact hK _ _ rfl (Only.refl _ _)
      -- 10: s126 := fieldAddr 43 t12 0 [if 9=true]
      apply rg_ev
      · intro a w hR hf
        obtain ⟨e125, e12, -⟩ := hf
        replace e125 : a.tmps.getD 125 undef = _ := e125
        replace e12 : a.tmps.getD 12 undef = _ := e12
        refine rg_want rfl rfl e125 fun K hK => ?_
        clear e125
        go_simp
        exact hK _ _ rfl (Only.refl _ _)
      -- 11: s127 := load 41 t126 [if 9=true]
      apply rg_ev
      · intro a w hR hf
        obtain ⟨e125, e126, -⟩ := hf
        replace e125 : a.tmps.getD 125 undef = _ := e125
        replace e126 : a.tmps.getD 126 undef = _ := e126
        refine rg_want rfl rfl e125 fun K hK => ?_
        clear e125
        have g := hR.cell C120.out (by simp)
        go_simp
        exact hK _ _ rfl (Only.refl _ _)
      -- 12: s128 := call { builtin len, args := #[t127], #[41] } [if 9=true]
      apply rg_ev
      · intro a w hR hf
        obtain ⟨e125, e127, -⟩ := hf
        replace e125 : a.tmps.getD 125 undef = _ := e125
        replace e127 : a.tmps.getD 127 undef = _ := e127
        refine rg_want rfl rfl e125 fun K hK => ?_
        clear e125
        go_simp
        exact hK _ _ rfl (Only.refl _ _)
      -- 13: s129 := move t14 [if 9=true]
      apply rg_ev
      · intro a w hR hf
        obtain ⟨e125, e14, -⟩ := hf
        replace e125 : a.tmps.getD 125 undef = _ := e125
        replace e14 : a.tmps.getD 14 undef = _ := e14
        refine rg_want rfl rfl e125 fun K hK => ?_
        clear e125
        go_simp
        exact hK _ _ rfl (Only.refl _ _)
      -- 14: s130 := binOp Bingeq 3 t128 t129 3 [if 9=true]
      apply rg_ev
      · intro a w hR hf
        obtain ⟨e125, e128, e129, -⟩ := hf
        replace e125 : a.tmps.getD 125 undef = _ := e125
        replace e128 : a.tmps.getD 128 undef = _ := e128
        replace e129 : a.tmps.getD 129 undef = _ := e129
        refine rg_want rfl rfl e125 fun K hK => ?_
        clear e125
        have h := Hnm.out
        go_simp
        exact hK _ _ rfl (Only.refl _ _)
      -- 15: s131 := pick t125 t130 (const (Value.bool false))
      apply rg_ev
      · intro a w hR hf
        obtain ⟨e125, e130, -⟩ := hf
        replace e125 : a.tmps.getD 125 undef = _ := e125
        replace e130 : a.tmps.getD 130 undef = _ := e130
        refine rg_plain rfl fun K hK => ?_
        go_simp
        exact hK _ _ rfl (Only.refl _ _)
      -- 16: s132 := move t131
      apply rg_ev
      · intro a w hR hf
        obtain ⟨e131, -⟩ := hf
        replace e131 : a.tmps.getD 131 undef = _ := e131
        refine rg_plain rfl fun K hK => ?_
        go_simp
        exact hK _ _ rfl (Only.refl _ _)
      -- 17: s133 := fieldAddr 43 t12 0 [if 16=true]
      apply rg_ev
      · intro a w hR hf
        obtain ⟨e132, e12, -⟩ := hf
        replace e132 : a.tmps.getD 132 undef = _ := e132
        replace e12 : a.tmps.getD 12 undef = _ := e12
        refine rg_want rfl rfl e132 fun K hK => ?_
        clear e132
        go_simp
        exact hK _ _ rfl (Only.refl _ _)
      -- 18: s134 := load 41 t133 [if 16=true]
      apply rg_ev
      · intro a w hR hf
        obtain ⟨e132, e133, -⟩ := hf
        replace e132 : a.tmps.getD 132 undef = _ := e132
        replace e133 : a.tmps.getD 133 undef = _ := e133
        refine rg_want rfl rfl e132 fun K hK => ?_
        clear e132
        have g := hR.cell C120.out (by simp)
        go_simp
        exact hK _ _ rfl (Only.refl _ _)
      -- 19: s135 := move t14 [if 16=true]
      apply rg_ev
      · intro a w hR hf
        obtain ⟨e132, e14, -⟩ := hf
        replace e132 : a.tmps.getD 132 undef = _ := e132
        replace e14 : a.tmps.getD 14 undef = _ := e14
        refine rg_want rfl rfl e132 fun K hK => ?_
        clear e132
        go_simp
        exact hK _ _ rfl (Only.refl _ _)
      -- 20: s136 := slice 41 t134 none (some t135) none [if 16=true]
      apply rg_ev
      · intro a w hR hf
        obtain ⟨e132, e134, e135, -⟩ := hf
        replace e132 : a.tmps.getD 132 undef = _ := e132
        replace e134 : a.tmps.getD 134 undef = _ := e134
        replace e135 : a.tmps.getD 135 undef = _ := e135
        refine rg_want rfl rfl e132 fun K hK => ?_
        clear e132
        have h := Hnc.out
        go_simp
        exact hK _ _ rfl (Only.refl _ _)
      -- 21: s137 := build 43 #[(0, t136)] [if 16=true]
      apply rg_ev
      · intro a w hR hf
        obtain ⟨e132, e136, -⟩ := hf
        replace e132 : a.tmps.getD 132 undef = _ := e132
        replace e136 : a.tmps.getD 136 undef = _ := e136
        refine rg_want rfl rfl e132 fun K hK => ?_
        clear e132
        have e136' := e136
        rw [Array.getD_eq_getD_getElem?] at e136'
        go_simp
        exact hK _ _ rfl (Only.refl _ _)
      -- 22: s138 := fieldAddr 43 t10 0 [if 16=true]
      apply rg_ev
      · intro a w hR hf
        obtain ⟨e132, e10, -⟩ := hf
        replace e132 : a.tmps.getD 132 undef = _ := e132
        replace e10 : a.tmps.getD 10 undef = _ := e10
        refine rg_want rfl rfl e132 fun K hK => ?_
        clear e132
        go_simp
        exact hK _ _ rfl (Only.refl _ _)
      -- 23: s139 := load 41 t138 [if 16=true]
      apply rg_ev
      · intro a w hR hf
        obtain ⟨e132, e138, -⟩ := hf
        replace e132 : a.tmps.getD 132 undef = _ := e132
        replace e138 : a.tmps.getD 138 undef = _ := e138
        refine rg_want rfl rfl e132 fun K hK => ?_
        clear e132
        have g := hR.cell C100.out (by simp)
        go_simp
        exact hK _ _ rfl (Only.refl _ _)
      -- 24: s140 := fieldAddr 43 t8 0 [if 16=true]
      apply rg_ev
      · intro a w hR hf
        obtain ⟨e132, e8, -⟩ := hf
        replace e132 : a.tmps.getD 132 undef = _ := e132
        replace e8 : a.tmps.getD 8 undef = _ := e8
        refine rg_want rfl rfl e132 fun K hK => ?_
        clear e132
        go_simp
        exact hK _ _ rfl (Only.refl _ _)
      -- 25: s141 := load 41 t140 [if 16=true]
      apply rg_ev
      · intro a w hR hf
        obtain ⟨e132, e140, -⟩ := hf
        replace e132 : a.tmps.getD 132 undef = _ := e132
        replace e140 : a.tmps.getD 140 undef = _ := e140
        refine rg_want rfl rfl e132 fun K hK => ?_
        clear e132
        have g := hR.cell C80.out (by simp)
        go_simp
        exact hK _ _ rfl (Only.refl _ _)
      -- 26: s142 := call { builtin len, args := #[t141], #[41] } [if 16=true]
      apply rg_ev
      · intro a w hR hf
        obtain ⟨e132, e141, -⟩ := hf
        replace e132 : a.tmps.getD 132 undef = _ := e132
        replace e141 : a.tmps.getD 141 undef = _ := e141
        refine rg_want rfl rfl e132 fun K hK => ?_
        clear e132
        go_simp
        exact hK _ _ rfl (Only.refl _ _)
      -- 27: s143 := slice 41 t139 (some t142) none none [if 16=true]
      apply rg_ev
      · intro a w hR hf
        obtain ⟨e132, e139, e142, -⟩ := hf
        replace e132 : a.tmps.getD 132 undef = _ := e132
        replace e139 : a.tmps.getD 139 undef = _ := e139
        replace e142 : a.tmps.getD 142 undef = _ := e142
        refine rg_want rfl rfl e132 fun K hK => ?_
        clear e132
        have h := Hml2.out
        have h2 := Hmcl2.out
        have h3 := Hcut.out
        have h4 := Hsub.out
        go_simp
        exact hK _ _ rfl (Only.refl _ _)
      -- 28: s144 := build 43 #[(0, t143)] [if 16=true]
      apply rg_ev
      · intro a w hR hf
        obtain ⟨e132, e143, -⟩ := hf
        replace e132 : a.tmps.getD 132 undef = _ := e132
        replace e143 : a.tmps.getD 143 undef = _ := e143
        refine rg_want rfl rfl e132 fun K hK => ?_
        clear e132
        have e143' := e143
        rw [Array.getD_eq_getD_getElem?] at e143'
        go_simp
        exact hK _ _ rfl (Only.refl _ _)
      -- 29: s145 := call { value (Operand.func 25), args := #[t137, t144], #[43, 43] } [if 16=true]
      apply rg_ev
      · intro a w hR hf
        obtain ⟨e132, e137, e144, -⟩ := hf
        replace e132 : a.tmps.getD 132 undef = _ := e132
        replace e137 : a.tmps.getD 137 undef = _ := e137
        replace e144 : a.tmps.getD 144 undef = _ := e144
        refine rg_want rfl rfl e132 fun K hK => ?_
        clear e132
        have hs := same_yes qr rl nn cr (cl - ms) ⟨#[]⟩ ((es.take B).drop ms) w Hld.out Hn1000.out Hncr.out Hncl.out (Hrr.out.only0 hR) (Hrd2.out.only0 hR)
        unfold pgV at hs
        go_simp
        (with_reducible refine hs.mono ?_)
        rintro e w' ⟨rfl, ho⟩
        exact hK _ _ rfl ho
      -- 30: s146 := pick t132 t145 (const (Value.bool false))
      apply rg_ev
      · intro a w hR hf
        obtain ⟨e132, e145, -⟩ := hf
        replace e132 : a.tmps.getD 132 undef = _ := e132
        replace e145 : a.tmps.getD 145 undef = _ := e145
        refine rg_plain rfl fun K hK => ?_
        go_simp
        exact hK _ _ rfl (Only.refl _ _)
      -- 31: s6 := assign t146
      apply rg_ev
      · intro a w hR hf
        obtain ⟨e146, -⟩ := hf
        replace e146 : a.tmps.getD 146 undef = _ := e146
        refine rg_plain rfl fun K hK => ?_
        go_simp
        exact hK _ _ rfl (Only.refl _ _)
      intro fR15b wR15b hRR15b hf
      dsimp only [mergeT]
      obtain ⟨e6, -⟩ := hf
      replace e6 : fR15b 6 = _ := e6
      rw [e6]
      -- R15b>>
      go_wp2_with fail
      go_ret
      exact ⟨rfl, HO6.out.trans0 hRR15b⟩
    · have hnx : nxs = [] := by rw [← Hnxs.out, if_neg hc]
      have hnl : nxl = [] := by rw [← Hnxl.out, if_neg (by have := HAB.out; omega)]
      have hms : ms = me := by have := HlE.out; omega
      have hmm : ml = me := by have := HlE.out; have := HAB.out; omega
      subst hms
      subst hmm
      subst hnx
      subst hnl
      have hde : (str []).toList = [] := str_toList []
      have HOf := Lib.hid (HO2.out.trans0 ho5)
      clear hc ho5
      go_wp2_with fail
      go_ret
      exact ⟨rfl, HOf.out⟩
end Go.Proofs.YtfoplbolbjcggaaDoor
