/- The walk of bollardlaw06.FramePuts. -/
import Derived.Test.YtfoplbolbjcggaaDoorRefInFormW
import Derived.Test.YtfoplbolbjcggaaDoorRefPutW
import Derived.Test.YtfoplbolbjcggaaDoorPutErrW
import Derived.Test.YtfoplbolbjcggaaDoorFrameBackW
import Derived.Test.YtfoplbolbjcggaaDoorApartW
import Derived.Test.YtfoplbolbjcggaaDoorBytesW
import Derived.Laws.StructEq
import Derived.Deep.DeepCutAuto
import Derived.Deep.Cut
import Derived.BigQuiet
set_option linter.unusedVariables false
set_option maxRecDepth 100000
namespace Go.Proofs.YtfoplbolbjcggaaDoor
open Go.RowKit Go.Shelf

def RefF (fb : List UInt8) (mf : Nat) : Value → World → Prop := fun v w => ∃ q k, v = .slice q mf k ∧ Own w 0 5 (.slice q mf k) (u8s fb)
theorem RefF.stable (fb : List UInt8) (mf : Nat) : Stable (Only []) (RefF fb mf) := fun _ _ _ ⟨q, k, h1, h2⟩ ho => ⟨q, k, h1, h2.only0 ho⟩

set_option maxHeartbeats 16000000 in
theorem framePuts_any (s : Stp) (p : Option Addr) (xs : List UInt8) (n c : Nat) (w0 : World) (hn : xs.length = n) (hnc : n ≤ c) (hb : n ≤ 140737488351232) (hp : p = none → n = 0 ∧ c = 0) (hx : Rd w0 p (u8s xs)) (aN aB aD aL : Addr) (eN : ErrAt w0 1 aN) (eB : ErrAt w0 3 aB) (eD : ErrAt w0 0 aD) (eL : ErrAt w0 2 aL) :
    Calls Tryd.prog 11 #[stV s, .slice p n c] w0 fun e w' => e = .returned (.bool true) ∧ Only [] w0 w' := by
  obtain ⟨w1, hw1⟩ : ∃ w1, w1 = w0.alloc (.cells #[.int .i64 s.node, .int .i64 s.boot, .int .i64 s.seq, .int .i64 s.shard, .int .i64 s.size] 67) := ⟨_, rfl⟩
  have o1 : Only [] w0 w1 := by rw [hw1]; exact Only.alloc _ _
  have r1 : Row w1 w0.heap.size 67 [.int .i64 s.node, .int .i64 s.boot, .int .i64 s.seq, .int .i64 s.shard, .int .i64 s.size] := by rw [hw1]; exact Row.newOf _ _ _ _ rfl
  have hal := alive06_any w1
  have HO1 := Lib.hid o1
  have HR1 := Lib.hid r1
  have Hw1 := Lib.hid hw1
  have Hx := Lib.hid hx
  have Hn := Lib.hid hn
  have Hp := Lib.hid hp
  have EN := Lib.hid eN
  have EB := Lib.hid eB
  have ED := Lib.hid eD
  have EL := Lib.hid eL
  obtain ⟨sv, hsv⟩ : ∃ sv, stV s = sv := ⟨_, rfl⟩
  have Hsv := Lib.hid hsv
  unfold stV at hsv ⊢
  clear o1 r1 hw1 hx hn hp eN eB eD eL hsv
  go_enter Tryd.func11, Tryd.ntmps11
  go_wp2_with fail
  rw [← Hw1.out]
  refine hal.mono ?_
  clear hal Hw1
  rintro e w2 ⟨rfl, o2⟩
  have hby := bytes_any p xs n c w2 Hn.out hb Hp.out (Hx.out.only0 (HO1.out.trans0 o2))
  have HO2 := Lib.hid (HO1.out.trans0 o2)
  have HR2 := Lib.hid (HR1.out.only0 o2)
  clear o2
  go_wp2_with fail
  refine hby.mono ?_
  clear hby
  rintro e w3 ⟨gI, rfl, hgI, rI, o3⟩
  have HO3 := Lib.hid (HO2.out.trans0 o3)
  have HR3 := Lib.hid (HR2.out.only0 o3)
  have HI3 := Lib.hid rI
  have c0 := HR3.out.cell (i := 0) rfl
  have c1 := HR3.out.cell (i := 1) rfl
  have c2 := HR3.out.cell (i := 2) rfl
  have c3 := HR3.out.cell (i := 3) rfl
  have c4 := HR3.out.cell (i := 4) rfl
  have hrdI : Rd w3 (some ⟨gI, 0, none⟩) (u8s xs) := by
    have := rI.rd0.take n
    rw [u8s_take, List.take_left' Hn.out] at this
    exact this
  have HrdI := Lib.hid hrdI
  clear o3 rI hgI hrdI
  by_cases hs : stOk s
  · by_cases hl : n ≤ 1024
    · have hput := put_ok s hs (some ⟨gI, 0, none⟩) xs n (n + 6) w3 Hn.out hl (by simp) HrdI.out
      obtain ⟨fb, hfb⟩ : ∃ fb, frameB s xs = fb := ⟨_, rfl⟩
      obtain ⟨mf, hmf⟩ : ∃ mf, fb.length = mf := ⟨_, rfl⟩
      rw [hfb, hmf] at hput
      have hms : mf ≤ 2200 := by rw [← hmf, ← hfb]; exact frameB_small hs (by rw [Hn.out]; exact hl)
      have Hfb := Lib.hid hfb
      have Hfl := Lib.hid hmf
      unfold stV at hput
      clear hfb hmf
      go_wp2_with fail
      refine hput.mono ?_
      clear hput c0 c1 c2 c3 c4
      rintro e w4 ⟨q, mf, kf, rfl, rfl, own4, o4⟩
      have hkp := kept_any gI p xs n c n w4 Hn.out hb Hp.out (by omega) (HI3.out.only0 o4) (Hx.out.only0 (HO3.out.trans0 o4))
      have HO4 := Lib.hid (HO3.out.trans0 o4)
      have HR4 := Lib.hid (HR3.out.only0 o4)
      have Hown4 := Lib.hid own4
      have HB4 : Hid (w0.heap.size ≤ w3.heap.size) := Lib.hid HO3.out.size
      clear o4 own4
      go_wp2_with fail
      refine hkp.mono ?_
      clear hkp
      rintro e w5 ⟨rfl, d5⟩
      have HR5 := HR4.out.only0 d5.only
      have c0 := HR5.cell (i := 0) rfl
      have c1 := HR5.cell (i := 1) rfl
      have c2 := HR5.cell (i := 2) rfl
      have c3 := HR5.cell (i := 3) rfl
      have c4 := HR5.cell (i := 4) rfl
      have hif : Calls Tryd.prog 29 #[stV s] w5 fun e w' => e = .returned (.bool true) ∧ Only [] w5 w' := (refInForm_any s w5).mono (fun e w' h => ⟨by rw [h.1, decide_eq_true hs], h.2⟩)
      unfold stV at hif
      have HO5 := Lib.hid (HO4.out.trans0 d5.only)
      have Hown5 := Lib.hid (Hown4.out.only0 d5.only)
      have HR5 := Lib.hid HR5
      clear d5
      go_wp2_with fail
      refine hif.mono ?_
      clear hif c0 c1 c2 c3 c4
      rintro e w6 ⟨rfl, o6⟩
      have HR6 := Lib.hid (HR5.out.only0 o6)
      have HO6 := Lib.hid (HO5.out.trans0 o6)
      have Hown6 := Lib.hid (Hown5.out.only0 o6)
      have hv6 := Hown6.out.view
      have Hfr := Lib.hid hv6.1
      have Hfn := Lib.hid hv6.2.2.1
      have hfk := hv6.2.2.2.1
      have hfk63 := hv6.2.2.2.2.1
      have c0 := HR6.out.cell (i := 0) rfl
      have c1 := HR6.out.cell (i := 1) rfl
      have c2 := HR6.out.cell (i := 2) rfl
      have c3 := HR6.out.cell (i := 3) rfl
      have c4 := HR6.out.cell (i := 4) rfl
      have HRp : Hid (∀ w, Only [] w6 w → Calls Tryd.prog 34 #[.agg #[.int .i64 s.node, .int .i64 s.boot, .int .i64 s.seq, .int .i64 s.shard, .int .i64 s.size], .slice p n c] w fun e w' => ∃ q k, e = .returned (.slice q mf k) ∧ Own w' 0 5 (.slice q mf k) (u8s fb) ∧ Only [] w w') := Lib.hid (fun w hw => by
        refine (refPut_any s hs p xs n c w Hn.out hnc hl Hp.out (Hx.out.only0 (HO6.out.trans0 hw))).mono ?_
        rintro e w' ⟨q2, m2, k2, rfl, rfl, hown, ho⟩
        have h1 : (frameB s xs).length = mf := by rw [Hfb.out]; exact Hfl.out
        rw [h1, Hfb.out] at hown
        exact ⟨q2, k2, by rw [h1], hown.weaken (Nat.zero_le _), ho⟩)
      obtain ⟨sb, hsb⟩ : ∃ sb : ByteArray, sb = ⟨fb.toArray⟩ := ⟨_, rfl⟩
      have Hsb := Lib.hid hsb
      clear o6 hv6 hsb
      go_wp2_with fail
      -- <<R11
      refine wp_region_rg2 (Only []) [[(7, none)], [(49, some 0)], [(50, some 0)], [(51, some 0), (6, none)], [(51, some 1), (52, some 0)], [(51, some 2), (2, none)], [(51, some 3), (1, none)], [(51, some 4), (54, some 1), (55, some 0)], [(51, some 5), (56, some 0)], [(51, some 6), (53, some 4), (57, some 0)], [(51, some 7), (58, some 0)]] [(59, 0)] [none, none, none, none, none, none, none, none, none, none, none, none, none, none, none, none, none, none, none, none, none, none, none, none, none, none, none, none, none, none, none, none, none, none, none, none, none, none, none, none, none, none, none, none, none, none, none, none, none, some 49, some 50, some 51, some 52, some 53, some 54, some 55, some 56, some 57, some 58, some 59, none, none, none, none, none, none, none, none, none, none, none, none, none, none, none, none, none, none, none, none, none, none, none, none, none, none, none, none, none, none, none, none, none, none, none, none, none, none, none, none, none, none, none, none, none, none] (by kernel_rfl) rfl (by kernel_rfl) (fun _ => Only.refl _ _) (fun _ _ _ h k => h.trans0 k) (Only.drew _) (by kernel_rfl) ?_
      -- 0: s49 := move t7
      apply rg_ev
      · intro a w hR hf
        obtain ⟨e7, -⟩ := hf
        replace e7 : a.tmps.getD 7 undef = _ := e7
        refine rg_plain rfl fun K hK => ?_
        go_simp
        exact hK _ _ rfl (Only.refl _ _)
      -- 1: s50 := binOp Binneq 45 t49 (const Value.nilIface) 45
      apply rg_ev
      · intro a w hR hf
        obtain ⟨e49, -⟩ := hf
        replace e49 : a.tmps.getD 49 undef = _ := e49
        refine rg_plain rfl fun K hK => ?_
        go_simp
        exact hK _ _ rfl (Only.refl _ _)
      -- 2: s51 := move t50
      apply rg_ev
      · intro a w hR hf
        obtain ⟨e50, -⟩ := hf
        replace e50 : a.tmps.getD 50 undef = _ := e50
        refine rg_plain rfl fun K hK => ?_
        go_simp
        exact hK _ _ rfl (Only.refl _ _)
      -- 3: s52 := move t6 [if 2=false]
      apply rg_ev
      · intro a w hR hf
        obtain ⟨e51, e6, -⟩ := hf
        replace e51 : a.tmps.getD 51 undef = _ := e51
        replace e6 : a.tmps.getD 6 undef = _ := e6
        refine rg_want rfl rfl e51 fun K hK => ?_
        clear e51
        go_simp
        exact hK _ _ rfl (Only.refl _ _)
      -- 4: s53 := convert 22 9 t52 [if 2=false]
      apply rg_ev
      · intro a w hR hf
        obtain ⟨e51, e52, -⟩ := hf
        replace e51 : a.tmps.getD 51 undef = _ := e51
        replace e52 : a.tmps.getD 52 undef = _ := e52
        refine rg_want rfl rfl e51 fun K hK => ?_
        clear e51
        have hcv := conv_bytes (P := Tryd.prog) (src := 22) (dst := 9) w Tryd.underlying22 Tryd.underlying5 Tryd.underlying9 (c := kf) (n := mf) (Hfr.out.only0 hR) Hfl.out Hfn.out
        rw [← Hsb.out] at hcv
        go_simp
        exact hK _ _ rfl (Only.refl _ _)
      -- 5: s54 := load 67 t2 [if 2=false]
      apply rg_ev
      · intro a w hR hf
        obtain ⟨e51, e2, -⟩ := hf
        replace e51 : a.tmps.getD 51 undef = _ := e51
        replace e2 : a.tmps.getD 2 undef = _ := e2
        refine rg_want rfl rfl e51 fun K hK => ?_
        clear e51
        have h0 := hR.cell c0 (by simp)
        have h1 := hR.cell c1 (by simp)
        have h2 := hR.cell c2 (by simp)
        have h3 := hR.cell c3 (by simp)
        have h4 := hR.cell c4 (by simp)
        go_simp
        exact hK _ _ rfl (Only.refl _ _)
      -- 6: s55 := move t1 [if 2=false]
      apply rg_ev
      · intro a w hR hf
        obtain ⟨e51, e1, -⟩ := hf
        replace e51 : a.tmps.getD 51 undef = _ := e51
        replace e1 : a.tmps.getD 1 undef = _ := e1
        refine rg_want rfl rfl e51 fun K hK => ?_
        clear e51
        go_simp
        exact hK _ _ rfl (Only.refl _ _)
      -- 7: s56 := call { value (Operand.func 34), args := #[t54, t55], #[67, 22] } [if 2=false]
      refine ⟨RefF fb mf, RefF.stable fb mf, fun a w hR hf => ?_, ?_⟩
      · obtain ⟨e51, e54, e55, -⟩ := hf
        replace e51 : a.tmps.getD 51 undef = _ := e51
        replace e54 : a.tmps.getD 54 undef = _ := e54
        replace e55 : a.tmps.getD 55 undef = _ := e55
        refine rg_want rfl rfl e51 fun K hK => ?_
        clear e51
        go_simp
        (with_reducible refine (HRp.out w hR).mono ?_)
        rintro e w' ⟨q2, k2, rfl, hown2, ho2⟩
        exact hK _ _ ⟨q2, k2, rfl, hown2⟩ ho2
      -- 8: s57 := convert 22 9 t56 [if 2=false]
      apply rg_ev
      · intro a w hR hf
        obtain ⟨e51, e56, -⟩ := hf
        replace e51 : a.tmps.getD 51 undef = _ := e51
        replace e56 : RefF fb mf (a.tmps.getD 56 undef) w := e56
        refine rg_want rfl rfl e51 fun K hK => ?_
        clear e51
        obtain ⟨q2, k2, e56, hown2⟩ := e56
        have hcv := conv_bytes (P := Tryd.prog) (src := 22) (dst := 9) w Tryd.underlying22 Tryd.underlying5 Tryd.underlying9 (c := k2) (n := mf) hown2.view.1 Hfl.out hown2.view.2.2.1
        rw [← Hsb.out] at hcv
        go_simp
        exact hK _ _ rfl (Only.refl _ _)
      -- 9: s58 := binOp Binneq 9 t53 t57 9 [if 2=false]
      apply rg_ev
      · intro a w hR hf
        obtain ⟨e51, e53, e57, -⟩ := hf
        replace e51 : a.tmps.getD 51 undef = _ := e51
        replace e53 : a.tmps.getD 53 undef = _ := e53
        replace e57 : a.tmps.getD 57 undef = _ := e57
        refine rg_want rfl rfl e51 fun K hK => ?_
        clear e51
        go_simp
        exact hK _ _ rfl (Only.refl _ _)
      -- 10: s59 := pick t51 (const (Value.bool true)) t58
      apply rg_ev
      · intro a w hR hf
        obtain ⟨e51, e58, -⟩ := hf
        replace e51 : a.tmps.getD 51 undef = _ := e51
        replace e58 : a.tmps.getD 58 undef = _ := e58
        refine rg_plain rfl fun K hK => ?_
        go_simp
        exact hK _ _ rfl (Only.refl _ _)
      intro f w hR hf
      dsimp only [mergeT]
      obtain ⟨e59, -⟩ := hf
      replace e59 : f 59 = _ := e59
      rw [e59]
      -- R11>>
      have HO7 := Lib.hid (HO6.out.trans0 hR)
      have Hown7 := Lib.hid (Hown6.out.only0 hR)
      have HR7 := Lib.hid (HR6.out.only0 hR)
      have hget := get_frame s hs xs fb n Hn.out hl Hfb.out q mf kf w Hfl.out hfk Hfn.out (Hfr.out.only0 hR) aB aD (EB.out.only0 HO7.out) (ED.out.only0 HO7.out)
      unfold stV at hget
      clear hR c0 c1 c2 c3 c4 HRp
      go_wp2_with fail
      refine hget.mono ?_
      clear hget
      rintro e w8 ⟨q2, k2, rfl, own8, o8⟩
      obtain ⟨w9, hw9⟩ : ∃ w9, w9 = w8.alloc (.cells #[.int .i64 s.node, .int .i64 s.boot, .int .i64 s.seq, .int .i64 s.shard, .int .i64 s.size] 67) := ⟨_, rfl⟩
      have o9 : Only [] w8 w9 := by rw [hw9]; exact Only.alloc _ _
      have r9 : Row w9 w8.heap.size 67 [.int .i64 s.node, .int .i64 s.boot, .int .i64 s.seq, .int .i64 s.shard, .int .i64 s.size] := by rw [hw9]; exact Row.newOf _ _ _ _ rfl
      have HO9 := Lib.hid ((HO7.out.trans0 o8).trans0 o9)
      have Hown9 := Lib.hid ((Hown7.out.only0 o8).only0 o9)
      have HR9 := Lib.hid ((HR7.out.only0 o8).only0 o9)
      have HB9 := Lib.hid (own8.only0 o9)
      have HT9 := Lib.hid r9
      have hhd := head_frame s hs xs fb n Hn.out hl Hfb.out q mf kf w9 Hfl.out hfk Hfn.out Hown9.out.view.1 aB (EB.out.only0 HO9.out)
      have HqX : Hid (∀ a, q = some a → a.block ∉ blk q2) := Lib.hid (fun a ha hm => by
        have h1 := blkGe own8 _ hm
        have h2 := (Hown7.out.view.2.2.2.2.2 a ha).2
        omega)
      have hw3B : w3.heap.size ≤ w.heap.size := by
        have h1 := HB4.out
        have h2 := (HO7.out.size)
        have h3 := Hown7.out
        obtain ⟨g, hg, hg1, hg2⟩ := h3.at (by
          have h4 := frameB_length s xs
          rw [Hfb.out, Hfl.out] at h4
          have h5 : 4 ≤ (topB s xs.length).length := by unfold topB; rw [List.length_append, sealB_length]; omega
          omega)
        omega
      have HwB : Hid (w3.heap.size ≤ w.heap.size) := Lib.hid hw3B
      have HsB : Hid (w.heap.size ≤ w9.heap.size) := Lib.hid (by have := o8.size; have := o9.size; omega)
      have Hw9 := Lib.hid hw9
      unfold stV at hhd
      clear own8 o8 hw9 o9 r9 hw3B
      go_wp2_with fail
      rw [← Hw9.out]
      refine hhd.mono ?_
      clear hhd Hw9
      rintro e wa ⟨rfl, oa⟩
      obtain ⟨wb, hwb⟩ : ∃ wb, wb = wa.alloc (.cells #[.int .i64 s.node, .int .i64 s.boot, .int .i64 s.seq, .int .i64 s.shard, .int .i64 s.size] 67) := ⟨_, rfl⟩
      have ob : Only [] w9 wb := by rw [hwb]; exact oa.trans0 (Only.alloc _ _)
      have rb : Row wb wa.heap.size 67 [.int .i64 s.node, .int .i64 s.boot, .int .i64 s.seq, .int .i64 s.shard, .int .i64 s.size] := by rw [hwb]; exact Row.newOf _ _ _ _ rfl
      have a0 := (HR9.out.only0 ob).cell (i := 0) rfl
      have a1 := (HR9.out.only0 ob).cell (i := 1) rfl
      have a2 := (HR9.out.only0 ob).cell (i := 2) rfl
      have a3 := (HR9.out.only0 ob).cell (i := 3) rfl
      have a4 := (HR9.out.only0 ob).cell (i := 4) rfl
      have b0 := (HT9.out.only0 ob).cell (i := 0) rfl
      have b1 := (HT9.out.only0 ob).cell (i := 1) rfl
      have b2 := (HT9.out.only0 ob).cell (i := 2) rfl
      have b3 := (HT9.out.only0 ob).cell (i := 3) rfl
      have b4 := (HT9.out.only0 ob).cell (i := 4) rfl
      have d0 := rb.cell (i := 0) rfl
      have d1 := rb.cell (i := 1) rfl
      have d2 := rb.cell (i := 2) rfl
      have d3 := rb.cell (i := 3) rfl
      have d4 := rb.cell (i := 4) rfl
      have ownb := HB9.out.only0 ob
      have hvb := ownb.view
      have v1 := conv_bytes (P := Tryd.prog) (src := 22) (dst := 9) wb Tryd.underlying22 Tryd.underlying5 Tryd.underlying9 (c := k2) (n := n) hvb.1 Hn.out hvb.2.2.1
      have v2 := conv_bytes (P := Tryd.prog) (src := 22) (dst := 9) wb Tryd.underlying22 Tryd.underlying5 Tryd.underlying9 (c := c) (n := n) (Hx.out.only0 (HO9.out.trans0 ob)) Hn.out Hp.out
      have hap := apart_own q q2 fb xs mf kf n k2 w.heap.size wb Hfl.out Hfn.out (Hown9.out.only0 ob).view.1 HqX.out ownb Hn.out (by omega) (by have := HO9.out.size; have := (HB9.out); have := ob.size; have := HsB.out; omega)
      obtain ⟨sx, hsx⟩ : ∃ sx : ByteArray, sx = ⟨xs.toArray⟩ := ⟨_, rfl⟩
      rw [← hsx] at v1 v2
      have HOb := Lib.hid (HO9.out.trans0 ob)
      have Hwb := Lib.hid hwb
      clear oa hwb ob rb ownb hvb hsx
      go_upto_region 15 with (fail)
      rw [← Hwb.out]
      clear Hwb
      go_wp2_with fail
      refine hap.mono ?_
      clear hap v1 v2 a0 a1 a2 a3 a4 b0 b1 b2 b3 b4 d0 d1 d2 d3 d4
      rintro e wc ⟨rfl, oc, -⟩
      have hge : ∀ t ∈ blk q2, w0.heap.size ≤ t := fun t ht => by
        have h1 := blkGe HB9.out t ht
        have h2 := HB4.out
        have h3 := HwB.out
        omega
      have hO : Only [] w0 wc := HOb.out.transN oc hge
      clear oc
      go_wp2_with fail
      go_ret
      exact ⟨rfl, hO⟩
    · have hput := put_large s hs (some ⟨gI, 0, none⟩) n (n + 6) (by omega) w3 aL (EL.out.only0 HO3.out)
      unfold stV ev at hput
      go_wp2_with fail
      refine hput.mono ?_
      clear hput c0 c1 c2 c3 c4
      rintro e w4 ⟨rfl, o4⟩
      have hkp := kept_any gI p xs n c n w4 Hn.out hb Hp.out (by omega) (HI3.out.only0 o4) (Hx.out.only0 (HO3.out.trans0 o4))
      have HO4 := Lib.hid (HO3.out.trans0 o4)
      have HR4 := Lib.hid (HR3.out.only0 o4)
      clear o4
      go_wp2_with fail
      refine hkp.mono ?_
      clear hkp
      rintro e w5 ⟨rfl, d5⟩
      have HR5 := HR4.out.only0 d5.only
      have c0 := HR5.cell (i := 0) rfl
      have c1 := HR5.cell (i := 1) rfl
      have c2 := HR5.cell (i := 2) rfl
      have c3 := HR5.cell (i := 3) rfl
      have c4 := HR5.cell (i := 4) rfl
      have hif : Calls Tryd.prog 29 #[stV s] w5 fun e w' => e = .returned (.bool true) ∧ Only [] w5 w' := (refInForm_any s w5).mono (fun e w' h => ⟨by rw [h.1, decide_eq_true hs], h.2⟩)
      unfold stV at hif
      have HO5 := Lib.hid (HO4.out.trans0 d5.only)
      clear d5 HR5
      go_wp2_with fail
      refine hif.mono ?_
      clear hif c0 c1 c2 c3 c4
      rintro e w6 ⟨rfl, o6⟩
      have hc := (EL.out.only0 (HO5.out.trans0 o6)).cell
      have heq := err_eql_same w6 aL
      have HO6 := Lib.hid (HO5.out.trans0 o6)
      clear o6
      go_wp2_with fail
      go_ret
      exact ⟨rfl, HO6.out⟩
  · have hput := put_number s hs (some ⟨gI, 0, none⟩) n (n + 6) w3 aN (EN.out.only0 HO3.out)
    unfold stV ev at hput
    go_wp2_with fail
    refine hput.mono ?_
    clear hput c0 c1 c2 c3 c4
    rintro e w4 ⟨rfl, o4⟩
    have hkp := kept_any gI p xs n c n w4 Hn.out hb Hp.out (by omega) (HI3.out.only0 o4) (Hx.out.only0 (HO3.out.trans0 o4))
    have HO4 := Lib.hid (HO3.out.trans0 o4)
    have HR4 := Lib.hid (HR3.out.only0 o4)
    clear o4
    go_wp2_with fail
    refine hkp.mono ?_
    clear hkp
    rintro e w5 ⟨rfl, d5⟩
    have HR5 := HR4.out.only0 d5.only
    have c0 := HR5.cell (i := 0) rfl
    have c1 := HR5.cell (i := 1) rfl
    have c2 := HR5.cell (i := 2) rfl
    have c3 := HR5.cell (i := 3) rfl
    have c4 := HR5.cell (i := 4) rfl
    have hif : Calls Tryd.prog 29 #[stV s] w5 fun e w' => e = .returned (.bool false) ∧ Only [] w5 w' := (refInForm_any s w5).mono (fun e w' h => ⟨by rw [h.1, decide_eq_false hs], h.2⟩)
    unfold stV at hif
    have HO5 := Lib.hid (HO4.out.trans0 d5.only)
    clear d5 HR5
    go_wp2_with fail
    refine hif.mono ?_
    clear hif c0 c1 c2 c3 c4
    rintro e w6 ⟨rfl, o6⟩
    have hc := (EN.out.only0 (HO5.out.trans0 o6)).cell
    have heq := err_eql_same w6 aN
    have HO6 := Lib.hid (HO5.out.trans0 o6)
    clear o6
    go_wp2_with fail
    go_ret
    exact ⟨rfl, HO6.out⟩
end Go.Proofs.YtfoplbolbjcggaaDoor
