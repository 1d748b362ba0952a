/- The walk of bollardlaw02.RsSizes. -/
import Derived.Test.YtlgcclhepegggaaDoorRsAliveW
set_option linter.unusedVariables false
set_option maxRecDepth 100000
namespace Go.Proofs.YtlgcclhepegggaaDoor
open Go.RowKit

theorem ErrAll.at {w : World} {az : List Addr} (h : ErrAll w az) {i g : Nat} (hg : errVars[i]? = some g) : ∃ a, az[i]? = some a ∧ ErrAt w g a := by
  have hl : i < az.length := by rw [h.1]; have := (List.getElem?_eq_some_iff.1 hg).1; exact this
  exact ⟨az[i], List.getElem?_eq_getElem hl, h.2.2 i g _ hg (List.getElem?_eq_getElem hl)⟩

set_option maxHeartbeats 4000000 in
theorem rsSizes_any (k m n : Int) (az : List Addr) (w0 : World) (hk : -9223372036854775808 ≤ k ∧ k ≤ 9223372036854775807) (hm : -9223372036854775808 ≤ m ∧ m ≤ 9223372036854775807) (hn : -9223372036854775808 ≤ n ∧ n ≤ 9223372036854775807) (hE : ErrAll w0 az) :
    Calls Tryd.prog 6 #[.int .i64 k, .int .i64 m, .int .i64 n] w0 fun e w' => e = .returned (.bool true) ∧ Only [] w0 w' := by
  obtain ⟨aP, hP, eP⟩ := hE.at (i := 0) rfl
  obtain ⟨aN, hN, eN⟩ := hE.at (i := 1) rfl
  obtain ⟨aD, hD, eD⟩ := hE.at (i := 2) rfl
  obtain ⟨aL, hL, eL⟩ := hE.at (i := 10) rfl
  have HE := Lib.hid hE
  have HeP := Lib.hid eP
  have HeN := Lib.hid eN
  have HeL := Lib.hid eL
  have HP := Lib.hid hP
  have HN := Lib.hid hN
  have HL := Lib.hid hL
  have hal := alive02_any w0 aD eD
  clear hE eP eN eL hP hN hL hD eD
  cases hl : legal k m with
  | true =>
    have Hl := Lib.hid hl
    obtain ⟨l1, l2, l3⟩ := legal_iff.1 hl
    clear hl
    go_enter Tryd.func6, Tryd.ntmps6
    go_wp2_with fail
    (with_reducible refine (hal).mono ?_)
    rintro e w1 ⟨rfl, o1⟩
    have HO1 := Lib.hid o1
    clear o1 hal
    go_wp2_with fail
    (with_reducible refine (check_ok k m Hl.out w1).mono ?_)
    rintro e w' ⟨rfl, rfl⟩
    go_wp2_with fail
    have hq := fun (j : Nat) => refLegal_any k m hk hm (w1.drewN j)
    rw [Hl.out] at hq
    go_quiet ((go_at_call 25; exact qof0 (hq _)))
    clear hq
    have HO2 : Hid (Only [] w0 (w1.drewN nq)) := Lib.hid (HO1.out.trans0 (Only.drewN _ _))
    generalize w1.drewN nq = wq at *
    clear HO1
    by_cases hn0 : n < 0
    · have Hn0 := Lib.hid hn0
      go_wp2_with fail
      (with_reducible refine (size_neg k m n Hl.out hn0 wq aN (HeN.out.only0 HO2.out)).mono ?_)
      rintro e w2 ⟨rfl, o2⟩
      have HO3 := Lib.hid (HO2.out.trans0 o2)
      clear o2 HO2
      go_wp2_with fail
      have hrf := refSize_bad k m n (.inr (.inl hn0)) hk hm w2
      rw [if_neg (by rw [Hl.out]; simp), if_pos hn0] at hrf
      (with_reducible refine (hrf).mono ?_)
      rintro e w' ⟨rfl, rfl⟩
      go_wp2_with fail
      clear hrf
      have hnm := num_err w2 az 1 aN (HE.out.only0 HO3.out) HN.out
      rw [show ((1 : Nat) : Int) + 1 = 2 from rfl] at hnm
      (with_reducible refine (hnm).mono ?_)
      rintro e w9 ⟨rfl, o9⟩
      have HO9 := Lib.hid (HO3.out.trans0 o9)
      clear o9 hnm
      go_wp2_with fail
      go_ret
      exact ⟨rfl, HO9.out⟩
    · by_cases hn1 : 1024 < n
      · skip
        go_wp2_with fail
        (with_reducible refine (size_large k m n Hl.out hn1 wq aL (HeL.out.only0 HO2.out)).mono ?_)
        rintro e w2 ⟨rfl, o2⟩
        have HO3 := Lib.hid (HO2.out.trans0 o2)
        clear o2 HO2
        go_wp2_with fail
        have hrf := refSize_bad k m n (.inr (.inr hn1)) hk hm w2
        rw [if_neg (by rw [Hl.out]; simp), if_neg (by omega)] at hrf
        (with_reducible refine (hrf).mono ?_)
        rintro e w' ⟨rfl, rfl⟩
        go_wp2_with fail
        clear hrf
        have hnm := num_err w2 az 10 aL (HE.out.only0 HO3.out) HL.out
        rw [show ((10 : Nat) : Int) + 1 = 11 from rfl] at hnm
        (with_reducible refine (hnm).mono ?_)
        rintro e w9 ⟨rfl, o9⟩
        have HO9 := Lib.hid (HO3.out.trans0 o9)
        clear o9 hnm
        go_wp2_with fail
        go_ret
        exact ⟨rfl, HO9.out⟩
      · obtain ⟨kn, rfl⟩ : ∃ t : Nat, k = t := ⟨k.toNat, by omega⟩
        obtain ⟨mn, rfl⟩ : ∃ t : Nat, m = t := ⟨m.toNat, by omega⟩
        obtain ⟨nn, rfl⟩ : ∃ t : Nat, n = t := ⟨n.toNat, by omega⟩
        go_wp2_with fail
        (with_reducible refine (size_ok kn mn nn Hl.out (by omega) wq).mono ?_)
        rintro e w' ⟨rfl, rfl⟩
        go_wp2_with fail
        (with_reducible refine (refSize_ok kn mn nn Hl.out (by omega) wq).mono ?_)
        rintro e w' ⟨rfl, rfl⟩
        go_wp2_with fail
        (with_reducible refine (num_nil wq).mono ?_)
        rintro e w' ⟨rfl, rfl⟩
        go_wp2_with fail
        go_ret
        exact ⟨rfl, HO2.out⟩
  | false =>
    have Hl := Lib.hid hl
    clear hl
    go_enter Tryd.func6, Tryd.ntmps6
    go_wp2_with fail
    (with_reducible refine (hal).mono ?_)
    rintro e w1 ⟨rfl, o1⟩
    have HO1 := Lib.hid o1
    clear o1 hal
    have hcb := check_bad k m Hl.out hk hm w1 aP (HeP.out.only0 HO1.out)
    unfold ev at hcb
    go_wp2_with fail
    (with_reducible refine (hcb).mono ?_)
    rintro e w' ⟨rfl, rfl⟩
    go_wp2_with fail
    clear hcb
    have hq := fun (j : Nat) => refLegal_any k m hk hm (w1.drewN j)
    rw [Hl.out] at hq
    have hne := fun (j : Nat) => err_neq_same (w1.drewN j) aP
    have hgc := (HeP.out.only0 HO1.out).cell
    go_quiet ((go_at_call 25; exact qof0 (hq _)))
    clear hq hne hgc
    have HO2 : Hid (Only [] w0 (w1.drewN nq)) := Lib.hid (HO1.out.trans0 (Only.drewN _ _))
    generalize w1.drewN nq = wq at *
    clear HO1
    have hsp := size_params k m n Hl.out hk hm wq aP (HeP.out.only0 HO2.out)
    unfold ev at hsp
    go_wp2_with fail
    (with_reducible refine (hsp).mono ?_)
    rintro e w' ⟨rfl, rfl⟩
    go_wp2_with fail
    have hrf := refSize_bad k m n (.inl Hl.out) hk hm wq
    rw [if_pos Hl.out] at hrf
    (with_reducible refine (hrf).mono ?_)
    rintro e w' ⟨rfl, rfl⟩
    go_wp2_with fail
    clear hrf hsp
    have hnm := num_err wq az 0 aP (HE.out.only0 HO2.out) HP.out
    rw [show ((0 : Nat) : Int) + 1 = 1 from rfl] at hnm
    unfold ev at hnm
    (with_reducible refine (hnm).mono ?_)
    rintro e w9 ⟨rfl, o9⟩
    have HO9 := Lib.hid (HO2.out.trans0 o9)
    clear o9 hnm
    go_wp2_with fail
    go_ret
    exact ⟨rfl, HO9.out⟩
end Go.Proofs.YtlgcclhepegggaaDoor
