/- The walk of bollardref04.Sum. -/
import Derived.Test.YtmddehbfimpjdaaRefSumW
import Derived.Test.YtmddehbfimpjdaaMacMath
import Derived.Test.YtmddehbfimpjdaaFresh
import Derived.Test.YtmddehbfimpjdaaMakeAll
import Derived.Deep.DeepCutAuto
import Derived.Deep.Cut
import Derived.Deep.RegionWith
set_option linter.unusedVariables false
namespace Go.Proofs.Ytmddehbfimpjdaa
open Go.RowKit

/-- the row while it is made -/
def macR (P : List UInt8) (x : UInt8) (j : Nat) : List UInt8 := (P.map (· ^^^ x)).take j ++ List.replicate (P.length - j) 0
theorem macR_step {P : List UInt8} {x : UInt8} {j : Nat} {y : UInt8} (h : P[j]? = some y) : (macR P x j)[j]? = some 0 ∧ (macR P x j).set j (y ^^^ x) = macR P x (j + 1) := by
  have hj := (List.getElem?_eq_some_iff.1 h).1
  have hl : ((P.map (· ^^^ x)).take j).length = j := by rw [List.length_take, List.length_map]; omega
  have hz : (P.map (· ^^^ x))[j]? = some (y ^^^ x) := by rw [List.getElem?_map, h]; rfl
  have hd : List.replicate (P.length - j) (0 : UInt8) = 0 :: List.replicate (P.length - (j + 1)) 0 := by
    rw [← List.replicate_succ]; congr 1; omega
  unfold macR
  constructor
  · rw [List.getElem?_append_right (by omega), hl, Nat.sub_self, hd]; rfl
  · rw [List.set_append_right _ _ (by omega), hl, Nat.sub_self, hd, List.set_cons_zero, List.take_add_one, hz]; simp
theorem macR_full (P : List UInt8) (x : UInt8) : macR P x P.length = P.map (· ^^^ x) := by
  unfold macR; rw [List.take_of_length_le (by rw [List.length_map]; exact Nat.le_refl _), Nat.sub_self, List.replicate_zero, List.append_nil]
theorem macR_zero (P : List UInt8) (x : UInt8) : macR P x 0 = List.replicate P.length 0 := by unfold macR; simp

set_option maxRecDepth 100000 in
set_option maxHeartbeats 4000000 in
theorem refMac_any (p q : Option Addr) (ks ms : List UInt8) (n c m d : Nat) (ww : World) (hn : ks.length = n) (hb : n + 80 ≤ 140737488355328) (hp : p = none → n = 0 ∧ c = 0) (hx : Rd ww p (u8s ks)) (hm : ms.length = m) (hbm : m + 160 ≤ 140737488355328) (hq : q = none → m = 0 ∧ d = 0) (hy : Rd ww q (u8s ms)) :
    Calls Try.prog 16 #[.slice p n c, .slice q m d] ww fun e w' => e = .returned (.agg (u8s (macB ks ms)).toArray) ∧ Only [] ww w' := by
  obtain ⟨w0, hw0⟩ : ∃ w0, w0 = ww.alloc (.cells #[.int .u8 0, .int .u8 0, .int .u8 0, .int .u8 0, .int .u8 0, .int .u8 0, .int .u8 0, .int .u8 0, .int .u8 0, .int .u8 0, .int .u8 0, .int .u8 0, .int .u8 0, .int .u8 0, .int .u8 0, .int .u8 0, .int .u8 0, .int .u8 0, .int .u8 0, .int .u8 0, .int .u8 0, .int .u8 0, .int .u8 0, .int .u8 0, .int .u8 0, .int .u8 0, .int .u8 0, .int .u8 0, .int .u8 0, .int .u8 0, .int .u8 0, .int .u8 0] 25) := ⟨_, rfl⟩
  have ho0 : Only [] ww w0 := by rw [hw0]; exact Only.alloc _ _
  have rz : Row w0 ww.heap.size 25 (u8s (List.replicate 32 0)) := by rw [hw0]; exact Row.newOf _ _ _ _ (by rfl)
  have hx0 := hx.only0 ho0
  have hs := refSum_any p ks n c w0 hn hb hp hx0
  rw [hw0] at hs
  obtain ⟨K, hK⟩ : ∃ K, K = keyB ks := ⟨_, rfl⟩
  have hKl : K.length ≤ 64 := by rw [hK]; exact keyB_len ks
  have HKs : Hid (n ≤ 64 → K = ks) := Lib.hid fun h => by rw [hK]; unfold keyB; rw [if_neg (by omega)]
  have HKl : Hid (64 < n → K = shaB ks) := Lib.hid fun h => by rw [hK]; unfold keyB; rw [if_pos (by omega)]
  have hlA : (shaB ks).length = 32 := rfl
  generalize shaB ks = A at hs HKl hlA
  have Hn := Lib.hid hn
  have Hp := Lib.hid hp
  have Hm := Lib.hid hm
  have Hq := Lib.hid hq
  have Hx0 := Lib.hid hx0
  have Hy0 := Lib.hid (hy.only0 ho0)
  have HK := Lib.hid hK
  have Hw0 := Lib.hid hw0
  have Rz := Lib.hid rz
  have Ho0 := Lib.hid ho0
  clear hn hp hm hq hx hy hK hx0 rz ho0
  go_enter Try.func16, Try.ntmps16
  go_upto_if 13 with (fail)
  go_cut [0, 5] (fun s0 s5 wx => ∃ k0 c0 k, s0 = .slice k0 k c0 ∧ Hid (K.length = k) ∧ Hid (k0 = none → k = 0 ∧ c0 = 0) ∧ Hid (Rd wx k0 (u8s K)) ∧ Hid (Only [] w0 wx))
  case first =>
    by_cases hlong : 64 < n
    · have hlong' : (64 : Int) < (n : Int) := by omega
      go_wp2_with fail
      refine hs.mono ?_
      rintro e w1 ⟨rfl, h1⟩
      rw [← Hw0.out] at h1
      obtain ⟨W1, hW1⟩ : ∃ W1, W1 = w1.alloc (.cells #[.int .u8 0, .int .u8 0, .int .u8 0, .int .u8 0, .int .u8 0, .int .u8 0, .int .u8 0, .int .u8 0, .int .u8 0, .int .u8 0, .int .u8 0, .int .u8 0, .int .u8 0, .int .u8 0, .int .u8 0, .int .u8 0, .int .u8 0, .int .u8 0, .int .u8 0, .int .u8 0, .int .u8 0, .int .u8 0, .int .u8 0, .int .u8 0, .int .u8 0, .int .u8 0, .int .u8 0, .int .u8 0, .int .u8 0, .int .u8 0, .int .u8 0, .int .u8 0] 25) := ⟨_, rfl⟩
      have oW1 : Only [] w1 W1 := by rw [hW1]; exact Only.alloc _ _
      have r6 : Row W1 w1.heap.size 25 (u8s (List.replicate 32 0)) := by rw [hW1]; exact Row.newOf _ _ _ _ (by rfl)
      have hsz : (Try.prog.info? 25).map (·.size) = some (u8s A).length := by rw [u8s_length, hlA]; kernel_rfl
      have hst := r6.storeAt (P := Try.prog) hsz (by rw [u8s_length, u8s_length, hlA]; rfl) (fun u hu => u8s_one hu)
      have hrow := r6.setRow (u8s A)
      have hos : Only [w1.heap.size] W1 (W1.setRow w1.heap.size (u8s A).toArray) := Only.setRow _ _ _
      have o5 : Only [] w1 (W1.setRow w1.heap.size (u8s A).toArray) := oW1.transN hos (by simp)
      obtain ⟨w2, hw2⟩ : ∃ w2, w2 = W1.setRow w1.heap.size (u8s A).toArray := ⟨_, rfl⟩
      rw [← hw2] at hst hrow o5
      have o2 := h1.trans0 o5
      obtain ⟨w3, hw3⟩ : ∃ w3, w3 = w2.alloc (.cells #[] 5) := ⟨_, rfl⟩
      have o3 : Only [] w2 w3 := by rw [hw3]; exact Only.alloc _ _
      have ow3 : Own w3 w2.heap.size 5 (.slice (some ⟨w2.heap.size, 0, none⟩) 0 0) [] := by rw [hw3]; exact Own.ofRow (vs := []) (rest := []) (Nat.le_refl _) (Row.new w2 _ []) rfl (by omega)
      obtain ⟨p', c', w4, hr, o4, h4⟩ := append_fresh (P := Try.prog) (bytes := 1) (c := 32) (q := some ⟨w1.heap.size, 0, none⟩) (m := 32) (news := u8s A) (t := 22) (ty := 22) w3 Try.underlying22 infoU8s rfl ow3 ((hrow.only0 o3).rd0) (by rw [u8s_length, hlA]) (by simp) (fun v hv => u8s_one hv) (by omega) (by omega) o3.size
      have Hr := Lib.hid hr
      have Hst := Lib.hid hst
      have HO4 := Lib.hid o4
      have hfin := Lib.hid ((o2.trans0 o3).trans0 h4)
      clear hr hst o4 hsz hrow hos o5 o2 o3 ow3 h4 r6 oW1 h1 hs
      have hsz2 : w2.heap.size = w1.heap.size + 1 := by rw [hw2, hW1]; simp [World.setRow]
      rw [hw3, hsz2, hw2] at Hr
      subst hw3
      subst hw2
      subst hW1
      go_wp2_with (first | ((with_reducible show wpList _ _ _ _ _ _); refine wpl_store (ty := 25) (x := .tmp 5) (y := .tmp 15) rfl rfl rfl rfl Hst.out ?_) | (at_builtin; refine wpl_append (s := .tmp 16) (x := .tmp 17) rfl rfl rfl rfl Hr.out ?_))
      go_meet
      have hv := HO4.out.view
      refine ⟨p', c', 32, rfl, Lib.hid ?_, Lib.hid hv.2.2.1, Lib.hid ?_, hfin⟩
      · rw [HKl.out hlong]; exact hlA
      · rw [HKl.out hlong]; exact hv.1
    · have hlong' : ¬ (64 : Int) < (n : Int) := by omega
      go_wp2_with fail
      rw [← Hw0.out]
      go_meet
      refine ⟨p, c, n, rfl, Lib.hid ?_, Hp, Lib.hid ?_, Lib.hid (Only.refl _ _)⟩
      · rw [HKs.out (by omega)]; exact Hn.out
      · rw [HKs.out (by omega)]; exact Hx0.out
  case rest =>
  obtain ⟨k0, c0, k, rfl, HKn, HKp, HKr, Ho1⟩ := hcut
  obtain ⟨wk, hwk⟩ : ∃ w, w = wc := ⟨_, rfl⟩
  subst hwk
  go_upto_region 4 with (fail)
  go_cut [6, 7] (fun s6 s7 wx => ∃ g1 g2, s6 = .slice (some ⟨g1, 0, none⟩) 64 64 ∧ s7 = .slice (some ⟨g2, 0, none⟩) 64 64 ∧ Hid (wk.heap.size ≤ g1 ∧ wk.heap.size ≤ g2 ∧ g1 ≠ g2) ∧ Hid (Row wx g1 5 (u8s (List.replicate 64 0))) ∧ Hid (Row wx g2 5 (u8s (List.replicate 64 0))) ∧ Hid (Only [] wk wx))
  case first =>
    obtain ⟨Z, hZ, hmk⟩ := make_all (P := Try.prog) (bytes := 1) Try.underlying22 infoU8s rfl .i64 .i64 64 64 (by omega) (by omega) (by omega)
    replace hmk : ∀ w, (Instr.makeSlice 22 (.int .i64 64) (.int .i64 64)).run Try.prog w = .ok (.slice (some ⟨w.heap.size, 0, none⟩) 64 64) (w.alloc (.cells Z 5)) := hmk
    have hZ2 : Z = (u8s (List.replicate 64 0)).toArray := by rw [u8s_replicate]; exact Array.ext' hZ
    have o1 : Only [] wk (wk.alloc (.cells Z 5)) := Only.alloc _ _
    have o2 : Only [] (wk.alloc (.cells Z 5)) ((wk.alloc (.cells Z 5)).alloc (.cells Z 5)) := Only.alloc _ _
    have o3 : Only [] ((wk.alloc (.cells Z 5)).alloc (.cells Z 5)) ((wk.alloc (.cells Z 5)).alloc (.cells Z 5)).drew := Only.drew _
    have O := Lib.hid ((o1.trans0 o2).trans0 o3)
    have A1 : Hid (Row ((wk.alloc (.cells Z 5)).alloc (.cells Z 5)).drew wk.heap.size 5 (u8s (List.replicate 64 0))) := Lib.hid (by
      have h : Row (wk.alloc (.cells Z 5)) wk.heap.size 5 (u8s (List.replicate 64 0)) := by rw [hZ2]; exact Row.new _ _ _
      exact (h.only0 o2).only0 o3)
    have A2 : Hid (Row ((wk.alloc (.cells Z 5)).alloc (.cells Z 5)).drew (wk.heap.size + 1) 5 (u8s (List.replicate 64 0))) := Lib.hid (by
      have h : Row ((wk.alloc (.cells Z 5)).alloc (.cells Z 5)) (wk.heap.size + 1) 5 (u8s (List.replicate 64 0)) := by rw [hZ2]; exact Row.newAt _ _ _ (by simp)
      exact h.only0 o3)
    clear o1 o2 o3 hZ2 hZ
    go_region_with (fail)
    all_goals (go_wp2_with fail; go_meet)
    · exact ⟨_, _, rfl, rfl, Lib.hid ⟨Nat.le_refl _, by omega, by omega⟩, A1, A2, O⟩
    · exact ⟨_, _, rfl, rfl, Lib.hid ⟨by omega, Nat.le_refl _, by omega⟩, A2, A1, O⟩
  case rest =>
  obtain ⟨g1, g2, rfl, rfl, Hg, R1, R2, Ho2⟩ := hcut
  obtain ⟨P, hP⟩ : ∃ P, P = padB ks := ⟨_, rfl⟩
  have hPl : P.length = 64 := by rw [hP]; exact padB_len ks
  have hPK : P = K ++ List.replicate (64 - k) 0 := by rw [hP]; unfold padB; rw [← HK.out, HKn.out]
  have HPlt : Hid (∀ j, j < k → P[j]? = K[j]?) := Lib.hid fun j hj => by rw [hPK, List.getElem?_append_left (by rw [HKn.out]; exact hj)]
  have HPge : Hid (∀ j, k ≤ j → j < 64 → P[j]? = some 0) := Lib.hid fun j hj h64 => by
    rw [hPK, List.getElem?_append_right (by rw [HKn.out]; exact hj), HKn.out, List.getElem?_replicate, if_pos (by omega)]
  have hz : List.replicate 64 (0 : UInt8) = macR P 54 0 := by rw [macR_zero, hPl]
  have hz2 : List.replicate 64 (0 : UInt8) = macR P 92 0 := by rw [macR_zero, hPl]
  rw [hz] at R1
  rw [hz2] at R2
  have HP := Lib.hid hP
  have HPl := Lib.hid hPl
  clear hP hPl hPK hz hz2 HKs HKl hlA hs
  go_wp2_with fail
  go_loopw [23] (fun i wr => ∃ j : Nat, i = .int .i64 (j : Int) ∧ j ≤ 64 ∧ Hid (Row wr g1 5 (u8s (macR P 54 j))) ∧ Hid (Row wr g2 5 (u8s (macR P 92 j))) ∧ Hid (Only [] wk wr)) (fun i _ => 64 - (intOf i).toNat)
  case atStart => exact ⟨0, rfl, by omega, R1, R2, Ho2⟩
  case round =>
    clear R1 R2 Ho2
    obtain ⟨j, rfl, hj, R1, R2, Ho⟩ := hrel
    by_cases hlt : j < 64
    · have hg := Hg.out
      have h2 := R1.out.cell (by unfold u8s; rw [List.getElem?_map, (macR_step (x := 54) (List.getElem?_eq_getElem (by rw [HPl.out]; exact hlt) : P[j]? = some _)).1]; rfl : (u8s (macR P 54 j))[j]? = some (.int .u8 0))
      have h3 := R1.out.free j
      have h4 := R2.out.cell (by unfold u8s; rw [List.getElem?_map, (macR_step (x := 92) (List.getElem?_eq_getElem (by rw [HPl.out]; exact hlt) : P[j]? = some _)).1]; rfl : (u8s (macR P 92 j))[j]? = some (.int .u8 0))
      have h5 := R2.out.free j
      obtain ⟨y, hy⟩ : ∃ y, P[j]? = some y := ⟨_, List.getElem?_eq_getElem (by rw [HPl.out]; exact hlt)⟩
      have hg12 : g1 ≠ g2 := hg.2.2
      have o1 : Only [g1] wr (wr.setCell ⟨g1, j, none⟩ (Go.Proofs.Ytmddehbfimpjdaa.u8 (y ^^^ 54))) := Only.setCell _ ⟨g1, j, none⟩ _
      have o2 : Only [g2] (wr.setCell ⟨g1, j, none⟩ (Go.Proofs.Ytmddehbfimpjdaa.u8 (y ^^^ 54))) ((wr.setCell ⟨g1, j, none⟩ (Go.Proofs.Ytmddehbfimpjdaa.u8 (y ^^^ 54))).setCell ⟨g2, j, none⟩ (Go.Proofs.Ytmddehbfimpjdaa.u8 (y ^^^ 92))) := Only.setCell _ ⟨g2, j, none⟩ _
      have r1 := R1.out.setCell j (Go.Proofs.Ytmddehbfimpjdaa.u8 (y ^^^ 54))
      rw [u8s_set, (macR_step (x := 54) hy).2] at r1
      replace r1 := r1.only o2 (by simp; exact hg12)
      have r2 := (R2.out.only o1 (by simp; exact fun h => hg12 h.symm)).setCell j (Go.Proofs.Ytmddehbfimpjdaa.u8 (y ^^^ 92))
      rw [u8s_set, (macR_step (x := 92) hy).2] at r2
      have Q1 := Lib.hid r1
      have Q2 := Lib.hid r2
      have QO := Lib.hid ((Ho.out.transN o1 (by simp; exact hg.1)).transN o2 (by simp; exact hg.2.1))
      have hji : (j : Int) < 64 := by omega
      have h6 : (wr.setCell ⟨g1, j, none⟩ (Go.Proofs.Ytmddehbfimpjdaa.u8 (y ^^^ 54))).cell? ⟨g2, j, none⟩ = some (.int .u8 0) := (Only.cell o1 h4 (by simp; exact fun h => hg12 h.symm))
      have h7 : (wr.setCell ⟨g1, j, none⟩ (Go.Proofs.Ytmddehbfimpjdaa.u8 (y ^^^ 54))).frozen? ⟨g2, j, none⟩ = false := (R2.out.only o1 (by simp; exact fun h => hg12 h.symm)).free j
      by_cases hjk : j < k
      · have hjk' : (j : Int) < (k : Int) := by omega
        obtain ⟨b, off, rfl, hyc⟩ := (HKr.out.only0 Ho.out).bytes (by rw [HKn.out]; omega)
        have hc := hyc j (by rw [HKn.out]; exact hjk)
        have hKy := HPlt.out j hjk
        rw [hy, List.getElem?_eq_getElem (by rw [HKn.out]; exact hjk)] at hKy
        rw [← Option.some.inj hKy] at hc
        obtain ⟨z1, hz1⟩ : ∃ z, z = y ^^^ 54 := ⟨_, rfl⟩
        obtain ⟨z2, hz2⟩ : ∃ z, z = y ^^^ 92 := ⟨_, rfl⟩
        have hx1 : bits .xor .u8 (y.toNat : Int) 54 = (z1.toNat : Int) := by rw [hz1]; exact u8_xor_u8 y 54
        have hx2 : bits .xor .u8 (y.toNat : Int) 92 = (z2.toNat : Int) := by rw [hz2]; exact u8_xor_u8 y 92
        rw [← hz1] at Q1 Q2 QO h6 h7
        rw [← hz2] at Q1 Q2 QO
        clear hy hyc hKy hz1 hz2 r1 r2 o1 o2 hg R1 R2 Ho
        go_wp2_with fail
        exact ⟨⟨j + 1, by go_num, by omega, Q1, Q2, QO⟩, by simp [intOf]; omega⟩
      · have hjk' : ¬ (j : Int) < (k : Int) := by omega
        have hy0 := HPge.out j (by omega) hlt
        rw [hy] at hy0
        obtain rfl := Option.some.inj hy0
        have e1 : Go.Proofs.Ytmddehbfimpjdaa.u8 ((0 : UInt8) ^^^ 54) = .int .u8 54 := rfl
        have e2 : Go.Proofs.Ytmddehbfimpjdaa.u8 ((0 : UInt8) ^^^ 92) = .int .u8 92 := rfl
        rw [e1] at Q1 Q2 QO h6 h7
        rw [e2] at Q1 Q2 QO
        clear hy hy0 e1 e2 r1 r2 o1 o2 hg R1 R2 Ho
        go_wp2_with fail
        exact ⟨⟨j + 1, by go_num, by omega, Q1, Q2, QO⟩, by simp [intOf]; omega⟩
    · obtain rfl : j = 64 := by omega
      have hg := Hg.out
      have hK1l := padW_len ks 54
      have hK2l := padW_len ks 92
      have hans : macB ks ms = shaB (padW ks 92 ++ shaB (padW ks 54 ++ ms)) := rfl
      have e1 : macR P 54 64 = padW ks 54 := by rw [← HPl.out, macR_full, HP.out]; rfl
      have e2 : macR P 92 64 = padW ks 92 := by rw [← HPl.out, macR_full, HP.out]; rfl
      have r1 := R1.out
      have r2 := R2.out
      rw [e1] at r1
      rw [e2] at r2
      obtain ⟨B, hB⟩ : ∃ B, B = macB ks ms := ⟨_, rfl⟩
      rw [← hB] at hans
      have HB := Lib.hid hB
      clear hB
      generalize padW ks 54 = K1 at r1 hans hK1l e1
      generalize padW ks 92 = K2 at r2 hans hK2l e2
      have Hans := Lib.hid hans
      have HK1l := Lib.hid hK1l
      have HK2l := Lib.hid hK2l
      have how : Only [] w0 wr := Ho1.out.trans0 Ho.out
      have hows := how.size
      have hos := Ho.out.size
      have hrzl := Rz.out.lt
      have hw1s := Ho1.out.size
      have own1 : Own wr wk.heap.size 5 (.slice (some ⟨g1, 0, none⟩) 64 64) (u8s K1) := by
        have := Own.ofRow (vs := u8s K1) (rest := []) (cap := 64) hg.1 (by simpa using r1) (by simp [u8s_length, hK1l]) (by omega)
        rwa [u8s_length, hK1l] at this
      obtain ⟨p3, c3, w3, hr3, own3, ho3, hp3⟩ := append_owned (P := Try.prog) (bytes := 1) (c := d) (q := q) (m := m) (news := u8s ms) (t := 22) (ty := 22) wr Try.underlying22 infoU8s rfl own1 (Hy0.out.only0 how) (by rw [u8s_length, Hm.out]) Hq.out (fun v hv => u8s_one hv) (by omega) (by omega) hos
      rw [← u8s_append] at own3
      have hv3 := own3.view
      have hlow3 : Only [] w0 w3 := how.transN ho3 (by intro i hi; simp [blk] at hi; omega)
      have r3 := r2.only ho3 (by simp [blk]; exact fun h => hg.2.2 h.symm)
      have hs3 := refSum_any p3 (K1 ++ ms) (64 + m) c3 w3 (by rw [List.length_append, hK1l, Hm.out]) (by omega) hv3.2.2.1 hv3.1
      obtain ⟨S1, hS1⟩ : ∃ S1, S1 = shaB (K1 ++ ms) := ⟨_, rfl⟩
      have hlA : S1.length = 32 := by rw [hS1]; rfl
      rw [← hS1] at hs3
      have HS1 := Lib.hid hS1
      have Hr3 := Lib.hid hr3
      have HR3 := Lib.hid r3
      have Hlow3 := Lib.hid hlow3
      clear hS1 r1 r2 e1 e2 hans hr3 r3 own1 own3 ho3 hp3 hv3 R1 R2 Ho how
      go_wp2_with (first | (at_builtin; refine wpl_append (s := .tmp 45) (x := .tmp 46) rfl rfl rfl rfl Hr3.out ?_))
      clear Hr3
      refine hs3.mono ?_
      rintro e w4 ⟨rfl, h4⟩
      clear hs3
      obtain ⟨W1, hW1⟩ : ∃ W1, W1 = w4.alloc (.cells #[.int .u8 0, .int .u8 0, .int .u8 0, .int .u8 0, .int .u8 0, .int .u8 0, .int .u8 0, .int .u8 0, .int .u8 0, .int .u8 0, .int .u8 0, .int .u8 0, .int .u8 0, .int .u8 0, .int .u8 0, .int .u8 0, .int .u8 0, .int .u8 0, .int .u8 0, .int .u8 0, .int .u8 0, .int .u8 0, .int .u8 0, .int .u8 0, .int .u8 0, .int .u8 0, .int .u8 0, .int .u8 0, .int .u8 0, .int .u8 0, .int .u8 0, .int .u8 0] 25) := ⟨_, rfl⟩
      have oW1 : Only [] w4 W1 := by rw [hW1]; exact Only.alloc _ _
      have r6 : Row W1 w4.heap.size 25 (u8s (List.replicate 32 0)) := by rw [hW1]; exact Row.newOf _ _ _ _ (by rfl)
      have hsz : (Try.prog.info? 25).map (·.size) = some (u8s S1).length := by rw [u8s_length, hlA]; kernel_rfl
      have hst := r6.storeAt (P := Try.prog) hsz (by rw [u8s_length, u8s_length, hlA]; rfl) (fun u hu => u8s_one hu)
      have hrow := r6.setRow (u8s S1)
      have hos5 : Only [w4.heap.size] W1 (W1.setRow w4.heap.size (u8s S1).toArray) := Only.setRow _ _ _
      have o5 : Only [] w4 (W1.setRow w4.heap.size (u8s S1).toArray) := oW1.transN hos5 (by simp)
      obtain ⟨w5, hw5⟩ : ∃ w5, w5 = W1.setRow w4.heap.size (u8s S1).toArray := ⟨_, rfl⟩
      rw [← hw5] at hst hrow o5
      have hlow5 := (Hlow3.out.trans0 h4).trans0 o5
      have r5 := (HR3.out.only0 h4).only0 o5
      have own5 : Own w5 wk.heap.size 5 (.slice (some ⟨g2, 0, none⟩) 64 64) (u8s K2) := by
        have := Own.ofRow (vs := u8s K2) (rest := []) (cap := 64) hg.2.1 (by simpa using r5) (by simp [u8s_length, hK2l]) (by omega)
        rwa [u8s_length, hK2l] at this
      have hs5 : wk.heap.size ≤ w5.heap.size := by have := r5.lt; omega
      obtain ⟨p7, c7, w7, hr7, own7, ho7, hp7⟩ := append_owned (P := Try.prog) (bytes := 1) (c := 32) (q := some ⟨w4.heap.size, 0, none⟩) (m := 32) (news := u8s S1) (t := 22) (ty := 22) w5 Try.underlying22 infoU8s rfl own5 hrow.rd0 (by rw [u8s_length, hlA]) (by simp) (fun v hv => u8s_one hv) (by omega) (by omega) hs5
      rw [← u8s_append] at own7
      have hv7 := own7.view
      have hlow7 : Only [] w0 w7 := hlow5.transN ho7 (by intro i hi; simp [blk] at hi; omega)
      have hs7 := refSum_any p7 (K2 ++ S1) (64 + 32) c7 w7 (by rw [List.length_append, hK2l, hlA]) (by omega) hv7.2.2.1 hv7.1
      rw [HS1.out, ← Hans.out] at hs7
      have hlB : B.length = 32 := by rw [Hans.out]; rfl
      have rz7 := Rz.out.only0 hlow7
      have Hst := Lib.hid hst
      have Hr7 := Lib.hid hr7
      have Hlow7 := Lib.hid hlow7
      have Rz7 := Lib.hid rz7
      clear hst hrow hos5 o5 hlow5 r5 own5 own7 hv7 hr7 hp7 ho7 hlow7 rz7 hsz r6 oW1 h4
      subst hw5
      subst hW1
      go_wp2_with (first | ((with_reducible show wpList _ _ _ _ _ _); refine wpl_store (ty := 25) (x := .tmp 10) (y := .tmp 48) rfl rfl rfl rfl Hst.out ?_) | (at_builtin; refine wpl_append (s := .tmp 49) (x := .tmp 50) rfl rfl rfl rfl Hr7.out ?_))
      refine hs7.mono ?_
      rintro e w8 ⟨rfl, h8⟩
      have rz8 := Rz7.out.only0 h8
      have hsz8 : (Try.prog.info? 25).map (·.size) = some (u8s B).length := by rw [u8s_length, hlB]; kernel_rfl
      have hst8 := rz8.storeAt (P := Try.prog) hsz8 (by rw [u8s_length, u8s_length, hlB]; rfl) (fun u hu => u8s_one hu)
      have hrow8 := rz8.setRow (u8s B)
      have hos8 : Only [ww.heap.size] w8 (w8.setRow ww.heap.size (u8s B).toArray) := Only.setRow _ _ _
      have hfin : Only [] ww (w8.setRow ww.heap.size (u8s B).toArray) := ((Ho0.out.trans0 Hlow7.out).trans0 h8).transN hos8 (by simp)
      have Hst8 := Lib.hid hst8
      have Hrow8 := Lib.hid hrow8
      have Hsz8 := Lib.hid hsz8
      have Hfin := Lib.hid hfin
      clear hst8 hrow8 hsz8 hos8 hfin rz8 hs7 h8
      go_wp2_with (first | ((with_reducible show wpList _ _ _ _ _ _); refine wpl_store (ty := 25) (x := .tmp 4) (y := .tmp 52) rfl rfl rfl rfl Hst8.out ?_))
      refine bodyPost_ret (results_cell_row (p := 4) rfl _ _ ww.heap.size 25 (u8s B).toArray (0, 0) _ (by rfl) Hrow8.out Try.underlying25 rfl (by rw [List.size_toArray]; exact Hsz8.out)) (by rfl) ?_
      exact ⟨by rw [HB.out], Hfin.out⟩
end Go.Proofs.Ytmddehbfimpjdaa
