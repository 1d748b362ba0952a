/- The walk of bollardlaw06.FrameSlips. -/
import Derived.Test.YtfoplbolbjcggaaDoorRefHeadW
import Derived.Test.YtfoplbolbjcggaaDoorMetW
import Derived.Test.YtfoplbolbjcggaaDoorPutErrW
import Derived.Test.YtfoplbolbjcggaaDoorFrameBackW
import Derived.Laws.StructEq
import Derived.Deep.DeepCutAuto
import Derived.Deep.Cut
set_option linter.unusedVariables false
set_option maxRecDepth 100000
namespace Go.Proofs.YtfoplbolbjcggaaDoor
open Go.RowKit Go.Shelf

/-- a place behind the head -/
theorem slip_place (a : Int) (m h : Nat) (hh : h < m) (hm : m ≤ 9000) : ∃ i : Nat, i < m - h ∧ (a.tmod ((m : Int) - (h : Int)) + (m : Int) - (h : Int)).tmod ((m : Int) - (h : Int)) = (i : Int) ∧ -9000 ≤ a.tmod ((m : Int) - (h : Int)) ∧ a.tmod ((m : Int) - (h : Int)) ≤ 9000 := by
  have hD : (0 : Int) < (m : Int) - (h : Int) := by omega
  have h1 := Int.lt_tmod_of_pos a hD
  have h2 := Int.tmod_lt_of_pos a hD
  have h3 : 0 ≤ a.tmod ((m : Int) - (h : Int)) + (m : Int) - (h : Int) := by omega
  have h4 := Int.tmod_nonneg ((m : Int) - (h : Int)) h3
  have h5 := Int.tmod_lt_of_pos (a.tmod ((m : Int) - (h : Int)) + (m : Int) - (h : Int)) hD
  exact ⟨((a.tmod ((m : Int) - (h : Int)) + (m : Int) - (h : Int)).tmod ((m : Int) - (h : Int))).toNat, by omega, by omega, by omega, by omega⟩
theorem set_frame (top body : List UInt8) (i h : Nat) (hh : top.length = h) (to_ : UInt8) : (top ++ body).set (h + i) to_ = top ++ body.set i to_ := by
  rw [List.set_append_right _ _ (by omega), hh, Nat.add_sub_cancel_left]

set_option maxHeartbeats 16000000 in
theorem frameSlips_any (s : Stp) (p : Option Addr) (xs : List UInt8) (n c : Nat) (at_ : Int) (to_ : UInt8) (w0 : World) (hn : xs.length = n) (hnc : n ≤ c) (hb : n ≤ 140737488351232) (hp : p = none → n = 0 ∧ c = 0) (hx : Rd w0 p (u8s xs)) (hat : -9223372036854775808 ≤ at_ ∧ at_ ≤ 9223372036854775807) (aB aD : Addr) (eB : ErrAt w0 3 aB) (eD : ErrAt w0 0 aD) :
    Calls Tryd.prog 10 #[.agg #[.int .i64 s.node, .int .i64 s.boot, .int .i64 s.seq, .int .i64 s.shard, .int .i64 s.size, .slice p n c, .int .i64 at_, .int .u8 (to_.toNat : Int)]] w0 fun e w' => e = .returned (.bool true) ∧ Only [] w0 w' := by
  obtain ⟨w1, hw1⟩ : ∃ w1, w1 = w0.alloc (.cells #[.int .i64 s.node, .int .i64 s.boot, .int .i64 s.seq, .int .i64 s.shard, .int .i64 s.size, .slice p n c, .int .i64 at_, .int .u8 (to_.toNat : Int)] 69) := ⟨_, rfl⟩
  have o1 : Only [] w0 w1 := by rw [hw1]; exact Only.alloc _ _
  have r1 : Row w1 w0.heap.size 69 [.int .i64 s.node, .int .i64 s.boot, .int .i64 s.seq, .int .i64 s.shard, .int .i64 s.size, .slice p n c, .int .i64 at_, .int .u8 (to_.toNat : Int)] := by rw [hw1]; exact Row.newOf _ _ _ _ rfl
  have hG1 : w1.heap.size = w0.heap.size + 1 := by rw [hw1]; simp
  obtain ⟨w2, hw2⟩ : ∃ w2, w2 = (w1.alloc (.cells #[.int .i64 s.node, .int .i64 s.boot, .int .i64 s.seq, .int .i64 s.shard, .int .i64 s.size] 67)).drew := ⟨_, rfl⟩
  have o2 : Only [] w1 w2 := by rw [hw2]; exact (Only.alloc _ _).trans0 (Only.drew _)
  have r2 : Row w2 (w0.heap.size + 1) 67 (stCells s) := by rw [hw2, ← hG1]; exact (Row.newOf _ _ _ _ rfl).only0 (Only.drew _)
  have hlt1 : w0.heap.size < w1.heap.size := by omega
  have hal := alive06_any w2
  have c0 := r1.cell (i := 0) rfl
  have c1 := r1.cell (i := 1) rfl
  have c2 := r1.cell (i := 2) rfl
  have c3 := r1.cell (i := 3) rfl
  have c4 := r1.cell (i := 4) rfl
  have c5 := r1.cell (i := 5) rfl
  have c6 := r1.cell (i := 6) rfl
  have c7 := r1.cell (i := 7) rfl
  have HO2 := Lib.hid (o1.trans0 o2)
  have HR2 := Lib.hid r2
  have HG1 := Lib.hid hG1
  have Hw1 := Lib.hid hw1
  have Hw2 := Lib.hid hw2
  have Hx := Lib.hid hx
  have Hn := Lib.hid hn
  have Hp := Lib.hid hp
  have EB := Lib.hid eB
  have ED := Lib.hid eD
  clear o1 r1 hw1 hx hn hp eB eD o2 r2 hw2 hG1
  go_enter Tryd.func10, Tryd.ntmps10
  go_upto_region 1 with (fail)
  rw [← Hw1.out]
  go_region
  rw [HG1.out, ← Hw2.out]
  clear c0 c1 c2 c3 c4 c5 c6 c7 Hw1 Hw2 HG1 hlt1
  go_wp2_with fail
  refine hal.mono ?_
  clear hal
  rintro e w3 ⟨rfl, o3⟩
  have HO3 := Lib.hid (HO2.out.trans0 o3)
  have HR3 := Lib.hid (HR2.out.only0 o3)
  have c0 := HR3.out.cell (i := 0) rfl
  have c1 := HR3.out.cell (i := 1) rfl
  have c2 := HR3.out.cell (i := 2) rfl
  have c3 := HR3.out.cell (i := 3) rfl
  have c4 := HR3.out.cell (i := 4) rfl
  have hif := refInForm_any s w3
  unfold stV at hif
  clear o3
  go_wp2_with fail
  refine hif.mono ?_
  clear hif c0 c1 c2 c3 c4
  rintro e w4 ⟨rfl, o4⟩
  have HO4 := Lib.hid (HO3.out.trans0 o4)
  have HR4 := Lib.hid (HR3.out.only0 o4)
  clear o4
  rcases Decidable.em (¬ stOk s) with hs | hs
  · rw [decide_eq_false hs]
    go_wp2_with fail
    go_ret
    exact ⟨rfl, HO4.out⟩
  replace hs := Decidable.not_not.1 hs
  rw [decide_eq_true hs]
  rcases Decidable.em (¬ n ≤ 1024) with hl | hl
  · have hl1 : (1024 : Int) < (n : Int) := by omega
    go_wp2_with fail
    go_ret
    exact ⟨rfl, HO4.out⟩
  replace hl := Decidable.not_not.1 hl
  have hl1 : ¬ (1024 : Int) < (n : Int) := by omega
  by_cases hn0 : n = 0
  · have hl0 : ((n : Int) == 0) = true := by simp [hn0]
    clear hn0
    go_wp2_with fail
    go_ret
    exact ⟨rfl, HO4.out⟩
  have hl0 : ((n : Int) == 0) = false := by simp [hn0]
  have c0 := HR4.out.cell (i := 0) rfl
  have c1 := HR4.out.cell (i := 1) rfl
  have c2 := HR4.out.cell (i := 2) rfl
  have c3 := HR4.out.cell (i := 3) rfl
  have c4 := HR4.out.cell (i := 4) rfl
  have hput := put_ok s hs p xs n c w4 Hn.out hl Hp.out (Hx.out.only0 HO4.out)
  obtain ⟨fb, hfb⟩ : ∃ fb, frameB s xs = fb := ⟨_, rfl⟩
  obtain ⟨m, hm⟩ : ∃ m, fb.length = m := ⟨_, rfl⟩
  obtain ⟨h, hh⟩ : ∃ h, (topB s n).length = h := ⟨_, rfl⟩
  have hbl := body_length xs
  have hml : m = h + (n + 32 * nbB n) := by
    rw [← hm, ← hfb, frameB_length, Hn.out, hh]
  have hnb1 : 1 ≤ nbB n := by unfold nbB; omega
  have hnb2 : nbB n ≤ 33 := by unfold nbB; omega
  have hh2 : h ≤ 68 := by rw [← hh]; exact topB_length hs (by omega)
  have hms : m ≤ 2200 := by omega
  have hm33 : ¬ (m : Int) < 33 := by omega
  have hhm : h < m := by omega
  rw [hfb, hm] at hput
  have Hfb := Lib.hid hfb
  have Hm := Lib.hid hm
  have Hh := Lib.hid hh
  have Hml := Lib.hid hml
  have Hbl := Lib.hid hbl
  unfold stV at hput
  clear hfb hm hh hml hnb1 hnb2 hbl hn0
  go_wp2_with fail
  refine hput.mono ?_
  clear hput c0 c1 c2 c3 c4
  rintro e w5 ⟨q, m, k, rfl, rfl, own5, o5⟩
  have hv5 := own5.view
  have hfs : topB s n ++ bodyB xs = fb := by rw [← Hfb.out]; unfold frameB; rw [Hn.out]
  have hhd := refHead_any s hs n hl (bodyB xs) fb q m k w5 hfs Hm.out hv5.2.2.2.1 (by omega) hv5.2.2.2.2.1 hv5.2.2.1 hv5.1 (fun a ha => (hv5.2.2.2.2.2 a ha).2)
  rw [Hh.out] at hhd
  have HO5 := Lib.hid (HO4.out.trans0 o5)
  have HO45 := Lib.hid o5
  have Hown5 := Lib.hid own5
  have HB5 : Hid (w0.heap.size ≤ w4.heap.size) := Lib.hid HO4.out.size
  unfold stV at hhd
  clear own5 o5 hv5 hfs
  go_wp2_with fail
  refine hhd.mono ?_
  clear hhd
  rintro e w6 ⟨rfl, o6⟩
  obtain ⟨w7, hw7⟩ : ∃ w7, w7 = w6.alloc (.cells #[.int .i64 s.node, .int .i64 s.boot, .int .i64 s.seq, .int .i64 s.shard, .int .i64 s.size] 67) := ⟨_, rfl⟩
  have o7 : Only [] w5 w7 := by rw [hw7]; exact o6.trans0 (Only.alloc _ _)
  obtain ⟨i, hi, hie, hi1, hi2⟩ := slip_place at_ m h hhm (by omega)
  have HO7 := Lib.hid (HO5.out.trans0 o7)
  have HO87 : Hid (Only [] w4 w7) := Lib.hid (HO45.out.trans0 o7)
  have Hown7 := Lib.hid (Hown5.out.only0 o7)
  have Hw7 := Lib.hid hw7
  obtain ⟨g, rfl, hg1, hg2⟩ := Hown7.out.at (by omega)
  have hkm := Hown7.out.view.2.2.2.1
  clear o7 hw7 o6
  have hbll : (bodyB xs).length = m - h := by have h1 := Hbl.out; have h2 := Hml.out; rw [Hn.out] at h1; omega
  obtain ⟨y, hy⟩ : ∃ y, (bodyB xs)[i]? = some y := ⟨_, List.getElem?_eq_getElem (by omega)⟩
  have hfy : fb[h + i]? = some y := by
    rw [← Hfb.out]
    unfold frameB
    rw [Hn.out, List.getElem?_append_right (by rw [Hh.out]; omega), Hh.out, Nat.add_sub_cancel_left]
    exact hy
  have hcell := Hown7.out.cellAt (i := h + i) (v := .int .u8 (y.toNat : Int)) (by unfold u8s; rw [List.getElem?_map, hfy]; rfl)
  have Hfs : Hid (topB s n ++ (bodyB xs).set i to_ = fb.set (h + i) to_) := Lib.hid (by
    rw [← set_frame (topB s n) (bodyB xs) i h Hh.out to_, ← Hfb.out]
    unfold frameB
    rw [Hn.out])
  have Hhi : Hid (h + i < m) := Lib.hid (by omega)
  have Hidx : Hid ((h : Int) + (i : Int) = ((h + i : Nat) : Int)) := Lib.hid (by omega)
  have Hy := Lib.hid hy
  have Hbll := Lib.hid hbll
  clear hy hfy hbll
  go_upto_region 10 with (fail)
  rw [← Hw7.out]
  clear Hw7
  have hi34 : Hid ((0 : Int) ≤ ((h + i : Nat) : Int) ∧ ((h + i : Nat) : Int) < (m : Int)) := Lib.hid (by have := Hhi.out; omega)
  go_upto_region 13 with (fail)
  rw [Hidx.out]
  clear Hidx
  obtain ⟨hi3, hi4⟩ := hi34.out
  clear hi34
  generalize h + i = ix at *
  rcases Decidable.em (y = to_) with hyt | hyt
  · have hq : ((y.toNat : Int) == (to_.toNat : Int)) = true := by simp [hyt]
    clear hyt
    go_wp2_with fail
    go_ret
    exact ⟨rfl, HO7.out⟩
  have hq : ((y.toNat : Int) == (to_.toNat : Int)) = false := by
    simp only [beq_eq_false_iff_ne, ne_eq]
    intro e
    exact hyt (UInt8.toNat_inj.1 (by omega))
  obtain ⟨hfz, own8⟩ := Hown7.out.set (i := ix) (by omega) (.int .u8 (to_.toNat : Int))
  obtain ⟨w8, hw8⟩ : ∃ w8, w8 = w7.setCell ⟨g, ix, none⟩ (.int .u8 (to_.toNat : Int)) := ⟨_, rfl⟩
  rw [← hw8, show (Value.int .u8 (to_.toNat : Int)) = u8 to_ from rfl, u8s_set] at own8
  have o8 : Only [] w4 w8 := by
    rw [hw8]
    exact (HO87.out).transN (Only.setCell _ ⟨g, ix, none⟩ _) (by simp; omega)
  have hv8 := own8.view
  have hsp := split_head s hs n hl ((bodyB xs).set i to_) (fb.set ix to_) (some ⟨g, 0, none⟩) m k w8 Hfs.out (by rw [List.length_set]; exact Hm.out) hkm (by omega) hv8.2.2.1 hv8.1 aB (EB.out.only0 (HO4.out.trans0 o8))
  have hget := get_good s n hl ((bodyB xs).set i to_) (some ⟨g, 0, none⟩) m k w8 aB aD (EB.out.only0 (HO4.out.trans0 o8)) (ED.out.only0 (HO4.out.trans0 o8)) (by rw [List.length_set, Hbll.out]; omega) hsp
  have HO8 := Lib.hid (HO4.out.trans0 o8)
  have Hw8 := Lib.hid hw8
  have Hyt := Lib.hid hyt
  have Hbl2 : Hid (((bodyB xs).set i to_).length = n + 32 * nbB n) := Lib.hid (by rw [List.length_set, Hbl.out, Hn.out])
  unfold stV ev at hget
  clear own8 hw8 o8 hv8 hsp hyt
  go_upto_region 16 with (fail)
  rw [← Hw8.out]
  clear Hw8 hcell hfz
  go_wp2_with fail
  refine hget.mono ?_
  clear hget
  rintro e w9 ⟨o9, hh | hh | hh⟩
  · exact absurd Hbl2.out hh.1
  · obtain ⟨_, _, rfl⟩ := hh
    unfold st0z
    obtain ⟨wa, hwa⟩ : ∃ wa, wa = w9.alloc (.cells #[.int .i64 0, .int .i64 0, .int .i64 0, .int .i64 0, .int .i64 0] 67) := ⟨_, rfl⟩
    have oa : Only [] w8 wa := by rw [hwa]; exact o9.trans0 (Only.alloc _ _)
    have HOa := Lib.hid (HO8.out.trans0 oa)
    have hc := (ED.out.only0 HOa.out).cell
    have heq := err_eql_same wa aD
    have Hwa := Lib.hid hwa
    clear oa hwa o9
    go_upto_region 17 with (fail)
    rw [← Hwa.out]
    clear Hwa
    go_wp2_with fail
    go_ret
    exact ⟨rfl, HOa.out⟩
  · obtain ⟨_, hok, q2, k2, rfl, own9⟩ := hh
    obtain ⟨wa, hwa⟩ : ∃ wa, wa = w9.alloc (.cells #[.int .i64 s.node, .int .i64 s.boot, .int .i64 s.seq, .int .i64 s.shard, .int .i64 s.size] 67) := ⟨_, rfl⟩
    have oa : Only [] w8 wa := by rw [hwa]; exact o9.trans0 (Only.alloc _ _)
    have HOa := Lib.hid (HO8.out.trans0 oa)
    have owna := own9.only0 (show Only [] w9 wa by rw [hwa]; exact Only.alloc _ _)
    obtain ⟨hne, hmet⟩ := slip_found xs i y to_ Hy.out Hyt.out (by rw [Hn.out]; exact hok)
    rw [Hn.out] at hne hmet
    obtain ⟨ob, hob⟩ : ∃ ob, outB' n ((bodyB xs).set i to_) (nbB n) = ob := ⟨_, rfl⟩
    rw [hob] at owna hne hmet
    have hva := owna.view
    have hobl : ob.length = n := by have := hva.2.1; rw [u8s_length] at this; exact this
    have v1 := conv_bytes (P := Tryd.prog) (src := 22) (dst := 9) wa Tryd.underlying22 Tryd.underlying5 Tryd.underlying9 (c := k2) (n := n) hva.1 hobl hva.2.2.1
    have v2 := conv_bytes (P := Tryd.prog) (src := 22) (dst := 9) wa Tryd.underlying22 Tryd.underlying5 Tryd.underlying9 (c := c) (n := n) (Hx.out.only0 HOa.out) Hn.out Hp.out
    have hmt := met_yes q2 p ob xs n n k2 c wa hobl Hn.out hva.2.2.2.1 hnc (by omega) hb hva.2.2.1 Hp.out hva.1 (Hx.out.only0 HOa.out) hmet
    have hst : ((⟨ob.toArray⟩ : ByteArray).toList == (⟨xs.toArray⟩ : ByteArray).toList) = false := by
      cases e : (⟨ob.toArray⟩ : ByteArray).toList == (⟨xs.toArray⟩ : ByteArray).toList with
      | false => rfl
      | true =>
        have h1 := eq_of_beq e
        rw [ByteArray.toList_eq, ByteArray.toList_eq] at h1
        exact absurd (by simpa using h1) hne
    obtain ⟨s1, hs1⟩ : ∃ s1 : ByteArray, s1 = ⟨ob.toArray⟩ := ⟨_, rfl⟩
    obtain ⟨s2, hs2⟩ : ∃ s2 : ByteArray, s2 = ⟨xs.toArray⟩ := ⟨_, rfl⟩
    rw [← hs1] at v1 hst
    rw [← hs2] at v2 hst
    have Hwa := Lib.hid hwa
    clear oa hwa o9 own9 owna hok hne hmet hva hob hs1 hs2
    go_upto_region 17 with (fail)
    rw [← Hwa.out]
    clear Hwa
    go_wp2_with fail
    refine hmt.mono ?_
    clear hmt v1 v2
    rintro e wb ⟨rfl, ob2⟩
    go_wp2_with fail
    go_ret
    exact ⟨rfl, HOa.out.trans0 ob2⟩
end Go.Proofs.YtfoplbolbjcggaaDoor
