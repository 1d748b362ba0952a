/- The walk of bollardref06.Put. -/
import Derived.Test.YtfoplbolbjcggaaDoorRefBlocksW
import Derived.Test.YtfoplbolbjcggaaDoorPutW
import Derived.Test.YtfoplbolbjcggaaDoorWires
import Derived.Test.YtfoplbolbjcggaaDoorReaders
import Derived.Test.YtfoplbolbjcggaaDoorRefSums
import Derived.Test.YtfoplbolbjcggaaDoorRegions
import Derived.Deep.DeepCutAuto
import Derived.Deep.Cut
set_option linter.unusedVariables false
set_option maxRecDepth 100000
namespace Go.Proofs.YtfoplbolbjcggaaDoor
open Go.RowKit Go.Shelf

set_option maxHeartbeats 16000000 in
theorem refPut_any (s : Stp) (hs : stOk s) (p : Option Addr) (xs : List UInt8) (n c : Nat) (w0 : World) (hn : xs.length = n) (hnc : n ≤ c) (hb : n ≤ 1024) (hp : p = none → n = 0 ∧ c = 0) (hx : Rd w0 p (u8s xs)) :
    Calls Tryd.prog 34 #[stV s, .slice p n c] w0 fun e w' => ∃ q m k, e = .returned (.slice q m k) ∧ m = (frameB s xs).length ∧ Own w' w0.heap.size 5 (.slice q m k) (u8s (frameB s xs)) ∧ Only [] w0 w' := by
  obtain ⟨na, hna⟩ := Int.eq_ofNat_of_zero_le hs.n0
  obtain ⟨nbt, hnb⟩ := Int.eq_ofNat_of_zero_le hs.b0
  obtain ⟨nq, hnq⟩ := Int.eq_ofNat_of_zero_le hs.q0
  obtain ⟨nh, hnh⟩ := Int.eq_ofNat_of_zero_le hs.h0
  obtain ⟨nz, hnz⟩ := Int.eq_ofNat_of_zero_le hs.z0
  have hsv : stV s = .agg #[.int .i64 (na : Int), .int .i64 (nbt : Int), .int .i64 (nq : Int), .int .i64 (nh : Int), .int .i64 (nz : Int)] := by unfold stV; rw [hna, hnb, hnq, hnh, hnz]
  have HNs : Hid (headNs s n = [1, na, nbt, nq, nh, nz, n]) := Lib.hid (by unfold headNs; rw [hna, hnb, hnq, hnh, hnz]; rfl)
  have hhl := headB_length hs (n := n) (by omega)
  have hns := headNs_lt hs (n := n) (by omega)
  obtain ⟨w1, hw1⟩ : ∃ w1, w1 = (w0.alloc (.cells #[.int .i64 (na : Int), .int .i64 (nbt : Int), .int .i64 (nq : Int), .int .i64 (nh : Int), .int .i64 (nz : Int)] 67)).alloc (.cells #[.int .u8 1] 5) := ⟨_, rfl⟩
  obtain ⟨w2, hw2⟩ : ∃ w2, w2 = w1.alloc (.cells #[.int .i64 (na : Int), .int .i64 (nbt : Int), .int .i64 (nq : Int), .int .i64 (nh : Int), .int .i64 (nz : Int), .int .i64 (n : Int)] 3) := ⟨_, rfl⟩
  have o2 : Only [] w1 w2 := by rw [hw2]; exact Only.alloc _ _
  have r2 : Row w2 w1.heap.size 3 [.int .i64 (na : Int), .int .i64 (nbt : Int), .int .i64 (nq : Int), .int .i64 (nh : Int), .int .i64 (nz : Int), .int .i64 (n : Int)] := by rw [hw2]; exact Row.newOf _ _ _ _ rfl
  obtain ⟨wq, hwq⟩ : ∃ wq, wq = w0.alloc (.cells #[.int .i64 (na : Int), .int .i64 (nbt : Int), .int .i64 (nq : Int), .int .i64 (nh : Int), .int .i64 (nz : Int)] 67) := ⟨_, rfl⟩
  have zq : wq.heap.size = w0.heap.size + 1 := by rw [hwq]; exact Array.size_push ..
  have oq : Only [] w0 wq := by rw [hwq]; exact Only.alloc _ _
  have o1' : Only [] wq w1 := by rw [hw1, ← hwq]; exact Only.alloc _ _
  have r1 : Row w1 w0.heap.size 67 [.int .i64 (na : Int), .int .i64 (nbt : Int), .int .i64 (nq : Int), .int .i64 (nh : Int), .int .i64 (nz : Int)] := (show Row wq w0.heap.size 67 _ by rw [hwq]; exact Row.newOf _ _ _ _ rfl).only0 o1'
  have hu : Row w1 wq.heap.size 5 (u8s [1]) := by rw [hw1, ← hwq]; exact Row.newOf _ _ _ _ rfl
  have z1 : w1.heap.size = w0.heap.size + 1 + 1 := by rw [hw1, ← hwq, ← zq]; exact Array.size_push ..
  have own1 : Own w2 w0.heap.size 5 (.slice (some ⟨w0.heap.size + 1, 0, none⟩) 1 1) (u8s [1]) := by
    have h1 : Own w1 w0.heap.size 5 (.slice (some ⟨wq.heap.size, 0, none⟩) 1 1) (u8s [1]) := Own.ofRow (vs := u8s [1]) (rest := []) (by omega) (by rw [List.append_nil]; exact hu) rfl (by omega)
    rw [← zq]
    exact h1.only0 o2
  rw [z1] at r2
  have HR2 := Lib.hid r2
  have HOwn1 := Lib.hid own1
  have HO2 := Lib.hid ((oq.trans0 o1').trans0 o2)
  have hw12 := hw2
  rw [hw1] at hw12
  have Hw2 := Lib.hid hw12
  clear hw12 r2 own1 o2 z1 hw2
  rw [hsv]
  have HO1 := Lib.hid (oq.trans0 o1')
  have HR1 := Lib.hid r1
  have HU1 := Lib.hid hu
  have Hx := Lib.hid hx
  have Hn := Lib.hid hn
  have Hp := Lib.hid hp
  have Hns := Lib.hid hns
  have Hhl := Lib.hid hhl
  clear hna hnb hnq hnh hnz hsv hw1 hwq oq o1' r1 hu hx hn hp hns hhl hs
  go_enter Tryd.func34, Tryd.ntmps34
  go_wp2_with fail
  rw [← Hw2.out]
  generalize hGe : w0.heap.size + 1 + 1 = G at *
  have HGe := Lib.hid hGe
  clear hGe Hw2
  go_loopw [30, 5] (fun a o wr => ∃ (j : Nat) (q : Option Addr) (m k : Nat), a = .int .i64 (j : Int) ∧ o = .slice q m k ∧ j ≤ 6 ∧ Hid (m = (((headNs s n).take (j + 1)).flatMap nb).length) ∧ Hid (Own wr w0.heap.size 5 (.slice q m k) (u8s (((headNs s n).take (j + 1)).flatMap nb))) ∧ Hid (Row wr G 3 [.int .i64 (na : Int), .int .i64 (nbt : Int), .int .i64 (nq : Int), .int .i64 (nh : Int), .int .i64 (nz : Int), .int .i64 (n : Int)]) ∧ Hid (G ∉ blk q) ∧ Hid (Only [] w0 wr)) (fun a _ _ => 6 - (intOf a).toNat)
  case atStart => exact ⟨0, _, _, _, rfl, rfl, by omega, Lib.hid (by rw [HNs.out]; simp [nb_lo]), Lib.hid (by rw [HNs.out]; simpa [nb_lo] using HOwn1.out), HR2, Lib.hid (by simp [blk]; have := HGe.out; omega), HO2⟩
  case round =>
    clear HOwn1 HR2 HO2
    obtain ⟨j, q, m, k, rfl, rfl, hj, Hm, Hown, HG, HGq, HO⟩ := hrel
    by_cases hlt : j < 6
    · have hji : (j : Int) < 6 := by omega
      obtain ⟨x, hx⟩ : ∃ x, [na, nbt, nq, nh, nz, n][j]? = some x := ⟨_, List.getElem?_eq_getElem (by simpa using hlt)⟩
      have hxs : (headNs s n)[j + 1]? = some x := by rw [HNs.out]; simpa using hx
      have hx40 := Hns.out x (List.mem_of_getElem? hxs)
      have cj := HG.out.cell (i := j) (v := .int .i64 (x : Int)) (by
        have : [na, nbt, nq, nh, nz, n].map (fun y => Value.int .i64 ((y : Nat) : Int)) = [.int .i64 (na : Int), .int .i64 (nbt : Int), .int .i64 (nq : Int), .int .i64 (nh : Int), .int .i64 (nz : Int), .int .i64 (n : Int)] := rfl
        rw [← this, List.getElem?_map, hx]; rfl)
      have hnum := refNum_any wr x (by omega)
      have Hxs := Lib.hid hxs
      have h9 := nb_len9 x (by omega)
      have hm63 : m ≤ 63 := by
        rw [Hm.out]
        have := flat_nb_length ((headNs s n).take (j + 1)) (fun y hy => by have := Hns.out y (List.mem_of_mem_take hy); omega)
        have h2 : ((headNs s n).take (j + 1)).length ≤ 7 := by rw [List.length_take]; exact Nat.min_le_right _ _
        omega
      clear hx hxs
      go_wp2_with fail
      refine hnum.mono ?_
      clear hnum
      rintro e w3 ⟨p3, c3, rfl, own3, o3⟩
      have hv3 := own3.view
      obtain ⟨q', k', w4, hra, own4, o4, hq4⟩ := append_owned (P := Tryd.prog) (bytes := 1) (c := c3) (q := p3) (m := (nb x).length) (news := u8s (nb x)) (t := 22) (ty := 22) w3 Tryd.underlying22 infoU8o rfl (Hown.out.only0 o3) hv3.1 (u8s_length _) hv3.2.2.1 (fun v hv => u8s_one hv) (by omega) (by omega) (Nat.le_trans HO.out.size o3.size)
      rw [← u8s_append] at own4
      have htk : ((headNs s n).take (j + 1 + 1)).flatMap nb = ((headNs s n).take (j + 1)).flatMap nb ++ nb x := by
        rw [List.take_add_one, Hxs.out, List.flatMap_append]; simp
      have hGl := HG.out.lt
      have HG4 := Lib.hid ((HG.out.only0 o3).only o4 HGq.out)
      have HGq4 : Hid (G ∉ blk q') := Lib.hid (fun hm => by
        rcases hq4 with rfl | ⟨g', rfl, hg'⟩
        · exact HGq.out hm
        · simp [blk] at hm; have := o3.size; omega)
      have HO4 : Hid (Only [] w0 w4) := Lib.hid ((HO.out.trans0 o3).transN o4 (fun t ht => blkGe Hown.out t ht))
      have Hm4 : Hid (m + (nb x).length = (((headNs s n).take (j + 1 + 1)).flatMap nb).length) := Lib.hid (by rw [htk, List.length_append, ← Hm.out])
      rw [← htk] at own4
      have Hown4 := Lib.hid own4
      have Hr := Lib.hid hra
      generalize (nb x).length = lx at *
      clear hra own4 o4 hq4 htk hGl hv3 own3 o3 HG HGq HO Hm Hown
      go_wp2_with (first | (at_builtin; refine wpl_append (s := .tmp 34) (x := .tmp 36) rfl rfl rfl rfl Hr.out ?_))
      refine ⟨⟨j + 1, q', m + lx, k', by go_num, rfl, by omega, Hm4, Hown4, HG4, HGq4, HO4⟩, ?_⟩
      show 6 - ((j : Int) + 1).toNat < 6 - ((j : Int)).toNat
      omega
    · obtain rfl : j = 6 := by omega
      have hown := Hown.out
      have hm := Hm.out
      rw [List.take_of_length_le (by simp [headNs])] at hown hm
      replace hown : Own wr w0.heap.size 5 (.slice q m k) (u8s (headB s n)) := hown
      replace hm : m = (headB s n).length := hm
      have hm63 : m ≤ 63 := by rw [hm]; exact Hhl.out
      have hse := refSeal_any q (headB s n) m k wr hm.symm (by omega) hown.view.2.2.1 hown.view.1
      have Hm6 := Lib.hid hm
      clear hown hm HG HGq Hown Hm
      go_wp2_with fail
      refine hse.mono ?_
      clear hse
      rintro e w3 ⟨p3, c3, rfl, own3, o3⟩
      have hby := refBytes_any p3 (sealB (headB s n)) (m + 4) c3 w3 (by rw [sealB_length, Hm6.out]) (by omega) own3.view.2.2.1 own3.view.1
      have htop : nb (m + 4) ++ sealB (headB s n) = topB s n := by rw [Hm6.out]; rfl
      rw [htop] at hby
      have HO3 := Lib.hid (HO.out.trans0 o3)
      clear own3 o3 htop HO
      go_wp2_with fail
      refine hby.mono ?_
      clear hby
      rintro e w4 ⟨q4, m4, k4, rfl, Hm4, own4, o4⟩
      have hrb := refBlocks_any p xs n c w4 Hn.out hnc (by omega) Hp.out (Hx.out.only0 (HO3.out.trans0 o4))
      have HO4 := Lib.hid (HO3.out.trans0 o4)
      have Hown4 := Lib.hid (own4.weaken (base' := w0.heap.size) HO3.out.size)
      have Hq4l : Hid (∀ x ∈ blk q4, x < w4.heap.size) := Lib.hid (blkLt own4)
      have htl : m4 ≤ 68 := by
        rw [← Hm4.out]
        unfold topB
        rw [List.length_append, sealB_length, ← Hm6.out, nb_lo (by omega)]
        simp; omega
      clear own4 o4 HO3
      go_wp2_with fail
      refine hrb.mono ?_
      clear hrb
      rintro e w5 ⟨F, qW, kW, rfl, hL, o5⟩
      have hnb : nblk xs ≤ 33 := by unfold nblk; rw [Hn.out]; omega
      have HL5 := Lib.hid hL
      have HFq : Hid (∀ x ∈ F, x ∉ blk q4) := Lib.hid (fun x hx hm => by have := (hL.lo x hx).1; have := Hq4l.out x hm; omega)
      have HO5 := Lib.hid (HO4.out.trans0 o5)
      have Hown5 := Lib.hid (Hown4.out.only0 o5)
      obtain ⟨M, hM⟩ : ∃ M, nblk xs = M := ⟨_, rfl⟩
      rw [hM] at HL5 hnb ⊢
      have HM := Lib.hid hM
      generalize w4.heap.size = base5 at *
      clear hL o5 hM HO4 Hown4 Hq4l
      go_wp2_with fail
      go_loopw [45, 8] (fun a o wr => ∃ (i : Nat) (q : Option Addr) (m k : Nat), a = .int .i64 (i : Int) ∧ o = .slice q m k ∧ i ≤ M ∧ Hid (m = (topB s n ++ ((blks xs).take i).flatMap body1).length) ∧ Hid (Own wr w0.heap.size 5 (.slice q m k) (u8s (topB s n ++ ((blks xs).take i).flatMap body1))) ∧ Hid (LstAt wr base5 F qW M kW (chunks xs)) ∧ Hid (∀ x ∈ F, x ∉ blk q) ∧ Hid (Only [] w0 wr)) (fun a _ _ => M - (intOf a).toNat)
      case atStart => exact ⟨0, q4, m4, k4, rfl, rfl, Nat.zero_le _, Lib.hid (by simpa using Hm4.out.symm), Lib.hid (by simpa using Hown5.out), HL5, HFq, HO5⟩
      case round =>
        clear HL5 HFq HO5 Hown5
        obtain ⟨i, q, m, k, rfl, rfl, hi, Hm, Hown, HLs, HFq, HO⟩ := hrel
        by_cases hlt : i < M
        · have hii : (i : Int) < (M : Int) := by omega
          obtain ⟨b, gi, kb2, rfl, hcell, howni⟩ := HLs.out.cell (chunks_get xs (i := i) (by rw [HM.out]; exact hlt))
          obtain ⟨cs, hcs⟩ : ∃ cs, cs = chunk xs i := ⟨_, rfl⟩
          have hcl : cs.length ≤ 32 := by rw [hcs, chunk_length]; omega
          rw [← hcs] at hcell howni
          obtain ⟨mb, hmb⟩ : ∃ mb, cs.length = mb := ⟨_, rfl⟩
          rw [hmb] at hcell howni hcl
          have hsm := refSum_any (some ⟨gi, 0, none⟩) cs mb kb2 wr hmb (by omega) (by simp) howni.view.1
          have hml : m ≤ 68 + 64 * 33 := by
            rw [Hm.out, List.length_append]
            have h2 := flat_body_le ((blks xs).take i) (fun b hb => blks_small xs b (List.mem_of_mem_take hb))
            have h3 : ((blks xs).take i).length ≤ i := by rw [List.length_take]; exact Nat.min_le_left _ _
            have h4 : (topB s n).length ≤ 68 := by
              unfold topB
              rw [List.length_append, sealB_length, nb_lo (by have := Hhl.out; omega)]
              have := Hhl.out
              simp; omega
            omega
          have hgF : gi ∉ blk q := by
            obtain ⟨hl0, ⟨vs, h1, h2, h3⟩, h4, h5⟩ := HLs.out
            obtain ⟨g2, c2, e1, e2, e3, e4⟩ := h3 i (chunk xs i) (chunks_get xs (by rw [HM.out]; exact hlt))
            have hc2 := h1.cellAt e1
            rw [← hcs, hmb] at hc2
            rw [hcell] at hc2
            obtain ⟨rfl, -⟩ : gi = g2 ∧ kb2 = c2 := by simpa using (Option.some.inj hc2)
            exact HFq.out gi e3
          have Hcs := Lib.hid hcs
          have HL := Lib.hid hmb
          have Hni := Lib.hid howni
          have HgF := Lib.hid hgF
          clear hcs hmb howni hgF
          go_wp2_with fail
          refine hsm.mono ?_
          clear hsm hcell
          rintro e w6 ⟨rfl, o6⟩
          obtain ⟨A5, Hst, hY5, o7, hs7⟩ := row32 w6 (shaB cs) (shaB_len cs)
          generalize hYe : w6.heap.size = Y at *
          have o67 := o6.trans0 o7
          have HY5 := Lib.hid hY5
          have HOwn5 := Lib.hid (Hown.out.only0 o67)
          have HrdG := Lib.hid (Hni.out.only0 o67).view.1
          have Hbase : Hid (w0.heap.size ≤ A5.heap.size) := Lib.hid (Nat.le_trans HO.out.size o67.size)
          have HYn : Hid (Y ∉ blk q) := Lib.hid (fun hm => by have := blkLt Hown.out Y hm; have := o6.size; omega)
          have HLs5 := Lib.hid (HLs.out.only o67 (by simp))
          have HO5 := Lib.hid (HO.out.trans0 o67)
          have hs5 := o67.size
          clear o6 hY5 o7 hs7 o67 HO HLs Hni
          go_upto_region 12 with (first | ((with_reducible show wpList _ _ _ _ _ _); refine wpl_store (ty := 122) (x := .tmp 11) (y := .tmp 50) rfl rfl rfl rfl Hst.out ?_))
          obtain ⟨vs, hvs⟩ : ∃ vs, vs = topB s n ++ ((blks xs).take i).flatMap body1 := ⟨_, rfl⟩
          rw [← hvs] at HOwn5
          have Hvs := Lib.hid hvs
          clear hvs
          have hRr : ∀ a, Trn (blk q) A5.heap.size a a := Trn.refl _ _
          have hRt : ∀ a b e, Trn (blk q) A5.heap.size a b → Trn (blk q) A5.heap.size b e → Trn (blk q) A5.heap.size a e := fun _ _ _ h h2 => h.trans h2
          have hRd : Trn (blk q) A5.heap.size A5 A5.drew := Trn.of0 (Only.drew _)
          have hRs : ∀ j w, DirtR [(2, Only (blk q)), (4, Trn (blk q) A5.heap.size)] j w w := DirtR.refl (by
            intro x hx w
            simp only [List.mem_cons, List.not_mem_nil, or_false] at hx
            rcases hx with rfl | rfl
            · exact Only.refl _ _
            · exact Trn.refl _ _ _)
          have hC0 : ∀ d ∈ [2], (fun (_ : Nat) (a : World) => Only [] A5 a) d A5.drew := fun _ _ => Only.drew _
          -- <<R12
          refine wp_region_rg7 (Trn (blk q) A5.heap.size) (DirtR [(2, Only (blk q)), (4, Trn (blk q) A5.heap.size)]) (fun (_ : Nat) (a : World) => Only [] A5 a) [2] [[(8, none)], [(10, none)], [(51, some 1), (52, some 0)], [(11, none)], [(53, some 1), (54, some 0)], [(55, some 0)]] [(8, 0)] [] [none, none, none, none, none, none, none, none, some 8, none, none, none, none, none, none, none, none, none, none, none, none, none, none, none, none, none, none, none, none, none, none, none, none, none, none, none, none, none, none, none, none, none, none, none, none, none, none, none, none, none, none, some 51, some 52, some 53, some 54, some 55, none, none] (by kernel_rfl) rfl (by kernel_rfl) hRr hRt hRs hRd hC0 (by kernel_rfl) (by kernel_rfl) ?_
          -- 0: s51 := move t8
          apply rg7_ev
          · intro a w hR hC hf
            obtain ⟨e8, -⟩ := hf
            replace e8 : a.tmps.getD 8 undef = _ := e8
            refine rg_plain rfl fun K hK => ?_
            go_simp
            exact hK _ _ rfl ⟨hRr _, hRs _ _, fun _ _ _ _ h => h⟩
          -- 1: s52 := move t10
          apply rg7_ev
          · intro a w hR hC hf
            obtain ⟨e10, -⟩ := hf
            replace e10 : a.tmps.getD 10 undef = _ := e10
            refine rg_plain rfl fun K hK => ?_
            go_simp
            exact hK _ _ rfl ⟨hRr _, hRs _ _, fun _ _ _ _ h => h⟩
          -- 2: s53 := call { builtin append, args := #[t51, t52], #[22, 22] }
          refine ⟨AppB w0.heap.size (m + mb) (vs ++ cs) (blk q) A5.heap.size, stands5_of AppB.stable0 (by intro x hx hk; simp only [List.mem_cons, List.not_mem_nil, or_false] at hx; rcases hx with rfl | rfl <;> exact Bool.noConfusion (hk.symm.trans (by kernel_rfl : _ = true))), fun a w hR hC hf => ?_, ?_⟩
          · obtain ⟨e51, e52, -⟩ := hf
            replace e51 : a.tmps.getD 51 undef = _ := e51
            replace e52 : a.tmps.getD 52 undef = _ := e52
            refine rg_plain rfl fun K hK => ?_
            have hC2 := (hC 2 (by simp) (by kernel_rfl))
            obtain ⟨p'', c'', w'', hra, oA, hA, hpA⟩ := append_owned (P := Tryd.prog) (bytes := 1) (c := kb2) (q := some ⟨gi, 0, none⟩) (m := mb) (news := u8s cs) (t := 22) (ty := 22) w Tryd.underlying22 infoU8o rfl (HOwn5.out.only0 hC2) (HrdG.out.only0 hC2) (by rw [u8s_length, HL.out]) (by simp) (fun v hv => u8s_one hv) (by omega) (by omega) (Nat.le_trans Hbase.out hC2.size)
            rw [← u8s_append] at oA
            refine rg_append (s := .tmp 51) (x := .tmp 52) rfl e51 e52 hra ?_
            refine hK _ _ ⟨p'', c'', rfl, oA, fun x hx => ?_⟩ ⟨⟨blk q, hA, fun x hx => .inl hx⟩, hA, fun i hi hne ha hc => absurd (List.mem_singleton.1 hi) hne⟩
            rcases hpA with rfl | ⟨g', rfl, hg'⟩
            · exact .inl hx
            · simp [blk] at hx; subst hx; exact .inr (Nat.le_trans hC2.size hg')
          -- 3: s54 := slice 122 t11 none none none
          apply rg7_ev
          · intro a w hR hC hf
            obtain ⟨e11, -⟩ := hf
            replace e11 : a.tmps.getD 11 undef = _ := e11
            refine rg_plain rfl fun K hK => ?_
            go_simp
            exact hK _ _ rfl ⟨hRr _, hRs _ _, fun _ _ _ _ h => h⟩
          -- 4: s55 := call { builtin append, args := #[t53, t54], #[22, 22] }
          refine ⟨AppB w0.heap.size (m + mb + 32) (vs ++ cs ++ shaB cs) (blk q) A5.heap.size, stands5_of AppB.stable0 (by intro x hx hk; simp only [List.mem_cons, List.not_mem_nil, or_false] at hx; rcases hx with rfl | rfl <;> exact Bool.noConfusion (hk.symm.trans (by kernel_rfl : _ = true))), fun a w hR hC hf => ?_, ?_⟩
          · obtain ⟨e53, e54, -⟩ := hf
            replace e53 : AppB w0.heap.size (m + mb) (vs ++ cs) (blk q) A5.heap.size (a.tmps.getD 53 undef) w := e53
            replace e54 : a.tmps.getD 54 undef = _ := e54
            refine rg_plain rfl fun K hK => ?_
            obtain ⟨q1, k1, e53, own1, hq1⟩ := e53
            have hY := HY5.out.trn hR HYn.out
            have hws := hR.size
            obtain ⟨p'', c'', w'', hra, oA, hA, hpA⟩ := append_owned (P := Tryd.prog) (bytes := 1) (c := 32) (q := some ⟨Y, 0, none⟩) (m := 32) (news := u8s (shaB cs)) (t := 22) (ty := 22) w Tryd.underlying22 infoU8o rfl own1 hY.rd0 (by rw [u8s_length, shaB_len]) (by simp) (fun v hv => u8s_one hv) (by omega) (by omega) (Nat.le_trans Hbase.out hws)
            rw [← u8s_append] at oA
            refine rg_append (s := .tmp 53) (x := .tmp 54) rfl e53 e54 hra ?_
            refine hK _ _ ⟨p'', c'', rfl, oA, fun x hx => ?_⟩ ⟨⟨blk q1, hA, hq1⟩, ⟨blk q1, hA, hq1⟩, fun i hi hne ha hc => by
              obtain rfl := List.mem_singleton.1 hi
              exact Bool.noConfusion (ha.symm.trans (by kernel_rfl : _ = true))⟩
            rcases hpA with rfl | ⟨g', rfl, hg'⟩
            · exact hq1 x hx
            · simp [blk] at hx; subst hx; exact .inr (Nat.le_trans hws hg')
          -- 5: s8 := assign t55
          refine ⟨AppB w0.heap.size (m + mb + 32) (vs ++ cs ++ shaB cs) (blk q) A5.heap.size, stands5_of AppB.stable0 (by intro x hx hk; simp only [List.mem_cons, List.not_mem_nil, or_false] at hx; rcases hx with rfl | rfl <;> exact Bool.noConfusion (hk.symm.trans (by kernel_rfl : _ = true))), fun a w hR hC hf => ?_, ?_⟩
          · obtain ⟨e55, -⟩ := hf
            replace e55 : AppB w0.heap.size (m + mb + 32) (vs ++ cs ++ shaB cs) (blk q) A5.heap.size (a.tmps.getD 55 undef) w := e55
            refine rg_plain rfl fun K hK => ?_
            generalize hv55 : a.tmps.getD 55 undef = v55 at e55
            go_simp
            exact hK _ _ e55 ⟨hRr _, hRs _ _, fun _ _ _ _ h => h⟩
          intro f12 w12 hR12 hf hl12
          dsimp only [mergeT]
          obtain ⟨e8, -⟩ := hf
          replace e8 : AppB w0.heap.size (m + mb + 32) (vs ++ cs ++ shaB cs) (blk q) A5.heap.size (f12 8) w12 := e8
          -- R12>>
          obtain ⟨q8, k8, hv8, own8, hq8⟩ := e8
          rw [hv8]
          obtain ⟨S, hS, hS2⟩ := hR12
          have htk : topB s n ++ ((blks xs).take (i + 1)).flatMap body1 = vs ++ cs ++ shaB cs := by
            rw [blks_take xs (by rw [HM.out]; exact hlt), List.flatMap_append, Hvs.out, Hcs.out]
            simp [body1]
          have HOwn8 : Hid (Own w12 w0.heap.size 5 (.slice q8 (m + mb + 32) k8) (u8s (topB s n ++ ((blks xs).take (i + 1)).flatMap body1))) := Lib.hid (by rw [htk]; exact own8)
          have Hm8 : Hid (m + mb + 32 = (topB s n ++ ((blks xs).take (i + 1)).flatMap body1).length) := Lib.hid (by
            rw [htk, List.length_append, List.length_append, shaB_len, HL.out, Hvs.out, ← Hm.out])
          have HLs8 := Lib.hid (HLs5.out.only hS (fun x hx hm => by
            rcases hS2 x hm with h | h
            · exact HFq.out x hx h
            · have := (HLs5.out.lo x hx).2; omega))
          have HFq8 : Hid (∀ x ∈ F, x ∉ blk q8) := Lib.hid (fun x hx hm => by
            rcases hq8 x hm with h | h
            · exact HFq.out x hx h
            · have := (HLs5.out.lo x hx).2; omega)
          have HO8 : Hid (Only [] w0 w12) := Lib.hid (HO5.out.transN hS (fun x hx => by
            rcases hS2 x hx with h | h
            · exact blkGe Hown.out x h
            · have := Hbase.out; omega))
          clear own8 hq8 hS hS2 htk
          go_wp2_with fail
          refine ⟨⟨i + 1, q8, m + mb + 32, k8, by go_num, rfl, by omega, Hm8, HOwn8, HLs8, HFq8, HO8⟩, ?_⟩
          show M - ((i : Int) + 1).toNat < M - ((i : Int)).toNat
          omega
        · obtain rfl : i = M := by omega
          have hii : ¬ (i : Int) < (i : Int) := by omega
          have hown := Hown.out
          have hm := Hm.out
          rw [List.take_of_length_le (by rw [blks_length, HM.out]; exact Nat.le_refl _)] at hown hm
          have hfr : topB s n ++ (blks xs).flatMap body1 = frameB s xs := by rw [← Hn.out]; rfl
          rw [hfr] at hown hm
          have Hown9 := Lib.hid hown
          have Hm9 := Lib.hid hm
          clear hown hm hfr
          go_wp2_with fail
          go_ret
          exact ⟨q, m, k, rfl, Hm9.out, Hown9.out, HO.out⟩
end Go.Proofs.YtfoplbolbjcggaaDoor
