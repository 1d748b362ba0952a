/- The walk of bollardlaw02.RsSystematic. -/
import Derived.Test.YtlgcclhepegggaaDoorRsEncX
import Derived.Test.YtlgcclhepegggaaDoorBytesW
set_option linter.unusedVariables false
set_option maxRecDepth 100000
namespace Go.Proofs.YtlgcclhepegggaaDoor
open Go.RowKit

set_option maxHeartbeats 8000000 in
theorem rsSystematic_any (k m : Int) (p : Option Addr) (xs : List UInt8) (n c : Nat) (w0 : World) (aP aD aL : Addr) (hk : -9223372036854775808 ≤ k ∧ k ≤ 9223372036854775807) (hm : -9223372036854775808 ≤ m ∧ m ≤ 9223372036854775807)
    (hn : xs.length = n) (hb : n ≤ 140737488351232) (hp : p = none → n = 0 ∧ c = 0) (hx : Rd w0 p (u8s xs)) (eP : ErrAt w0 0 aP) (eD : ErrAt w0 1 aD) (eL : ErrAt w0 4 aL) :
    Calls Tryd.prog 10 #[.int .i64 k, .int .i64 m, .slice p n c] w0 fun e w' => e = .returned (.bool true) ∧ Only [] w0 w' := by
  have hal := alive02_any w0 aD eD
  have HP := Lib.hid eP
  have HL := Lib.hid eL
  have Hn := Lib.hid hn
  have Hp := Lib.hid hp
  have Hx := Lib.hid hx
  clear eP eD eL hn hp hx
  cases hl : legal k m with
  | false =>
    have Hl := Lib.hid hl
    clear hl
    go_enter Tryd.func10, Tryd.ntmps10
    go_wp2_with fail
    (with_reducible refine (hal).mono ?_)
    rintro e w1 ⟨rfl, o1⟩
    have HO1 := Lib.hid o1
    clear o1 hal
    go_wp2_with fail
    have henc := encode_params k m Hl.out hk hm p n c w1 aP (HP.out.only0 HO1.out)
    unfold ev at henc
    (with_reducible refine (henc).mono ?_)
    rintro e w2 ⟨rfl, o2⟩
    have HO2 := Lib.hid (HO1.out.trans0 o2)
    clear o2 henc
    go_wp2_with fail
    have hr := refLegal_any k m hk hm w2
    rw [Hl.out] at hr
    (with_reducible refine (hr).mono ?_)
    rintro e w' ⟨rfl, rfl⟩
    go_wp2_with fail
    go_ret
    exact ⟨rfl, HO2.out⟩
  | true =>
    have Hl := Lib.hid hl
    obtain ⟨l1, l2, l3⟩ := legal_iff.1 hl
    clear hl
    by_cases hbig : 1024 < n
    · have hbi : (1024 : Int) < (n : Int) := by omega
      go_enter Tryd.func10, Tryd.ntmps10
      go_wp2_with fail
      (with_reducible refine (hal).mono ?_)
      rintro e w1 ⟨rfl, o1⟩
      have HO1 := Lib.hid o1
      clear o1 hal
      go_wp2_with fail
      have henc := encode_large k m Hl.out p n c hbig w1 aL (HL.out.only0 HO1.out)
      unfold ev at henc
      (with_reducible refine (henc).mono ?_)
      rintro e w2 ⟨rfl, o2⟩
      have HO2 := Lib.hid (HO1.out.trans0 o2)
      clear o2 henc
      go_wp2_with fail
      have hr := refLegal_any k m hk hm w2
      rw [Hl.out] at hr
      (with_reducible refine (hr).mono ?_)
      rintro e w' ⟨rfl, rfl⟩
      go_wp2_with fail
      go_ret
      exact ⟨rfl, HO2.out⟩
    · obtain ⟨k, rfl⟩ : ∃ t : Nat, k = t := ⟨k.toNat, by omega⟩
      obtain ⟨m, rfl⟩ : ∃ t : Nat, m = t := ⟨m.toNat, by omega⟩
      have hfit : xs.length ≤ k * shardLen k n := by rw [Hn.out]; exact shardLen_mul (by omega)
      have hdat := encB_data (m := m) hfit
      have hfl := dataB_flatten hfit
      have hel := encB_len k m (shardLen k n) xs
      have hee := encB_each (m := m) hfit
      have hsl := shardLen_le (k := k) (show n ≤ 1024 by omega)
      have hpad := fun i hi => padD_at (k := k) (size := shardLen k n) (i := i) Hn.out (by rw [Hn.out] at hfit; exact hfit) hi
      have hpl := padD_len hfit
      have hlast : k * shardLen k n < n + k := by
        unfold shardLen
        have h1 := Nat.div_add_mod (n + k - 1) k
        omega
      have hpt : (padD k (shardLen k n) xs).take n = xs := by
        unfold padD; rw [List.take_left' Hn.out]
      have henc := fun (w : World) (ho : Only [] w0 w) => encode_ok p xs n c k m w Hl.out Hn.out (by omega) Hp.out (Hx.out.only0 ho)
      have hAll : padD k (shardLen k n) xs = ((encB k m (shardLen k n) xs).take k).flatten := by rw [hdat, hfl]
      rw [hAll] at hpl hpt
      simp only [hAll] at hpad
      rw [Hn.out] at hfit
      clear hAll hdat hfl
      generalize encB k m (shardLen k n) xs = E at *
      generalize shardLen k n = size at *
      obtain ⟨N, hN⟩ : ∃ N, N = k * size := ⟨_, rfl⟩
      rw [← hN] at hfit hpl hlast hpad
      have hNb : N ≤ 16 * 1024 := by rw [hN]; exact Nat.mul_le_mul (by omega) hsl
      have Hel := Lib.hid hel
      have Hee := Lib.hid hee
      have Hpad := Lib.hid hpad
      have Hpl := Lib.hid hpl
      have Hpt := Lib.hid hpt
      have HN := Lib.hid hN
      have Henc := Lib.hid henc
      clear hel hee hpad hpl hpt hN henc
      go_enter Tryd.func10, Tryd.ntmps10
      go_wp2_with fail
      (with_reducible refine (hal).mono ?_)
      rintro e w1 ⟨rfl, o1⟩
      have HO1 := Lib.hid o1
      clear o1 hal
      go_wp2_with fail
      (with_reducible refine (Henc.out w1 HO1.out).mono ?_)
      rintro e w2 ⟨q, c1, gs, rfl, hnl, o2⟩
      have HO2 := Lib.hid (HO1.out.trans0 o2)
      have HLs := Lib.hid hnl.lists
      clear o2 hnl
      have hlsi : ((k + m : Nat) : Int) = (k : Int) + (m : Int) := by omega
      go_wp2_with fail
      obtain ⟨w3, hw3⟩ : ∃ w3, w3 = w2.alloc (.cells #[] 5) := ⟨_, rfl⟩
      rw [← hw3]
      have o3 : Only [] w2 w3 := by rw [hw3]; exact Only.alloc _ _
      have own3 : Own w3 w2.heap.size 5 (.slice (some ⟨w2.heap.size, 0, none⟩) 0 0) [] := Own.ofRow (rest := []) (cap := 0) (Nat.le_refl _) (by rw [hw3]; exact Row.newOf _ _ _ _ rfl) rfl (by omega)
      have HO3 := Lib.hid o3
      have Hown3 := Lib.hid own3
      clear o3 own3 hw3
      go_loopw [43, 9] (fun i o wr => ∃ (j : Nat) (q2 : Option Addr) (c2 M : Nat), i = .int .i64 (j : Int) ∧ o = .slice q2 M c2 ∧ j ≤ k + m ∧ Hid (M = min j k * size) ∧ Hid (Own wr w2.heap.size 5 (.slice q2 M c2) (u8s (E.take (min j k)).flatten)) ∧ Hid (Only [] w2 wr)) (fun i _ _ => k + m - (intOf i).toNat)
      case atStart => exact ⟨0, some ⟨w2.heap.size, 0, none⟩, 0, 0, rfl, rfl, Nat.zero_le _, Lib.hid (by simp), Lib.hid (by rw [Nat.zero_min, List.take_zero]; exact Hown3.out), HO3⟩
      case round =>
        clear Hown3
        obtain ⟨j, q2, c2, M, rfl, rfl, hj, HM, Hown, HO⟩ := hrel
        by_cases hlt : j < k + m
        · have hji : (j : Int) < (k : Int) + (m : Int) := by omega
          obtain ⟨l, hl⟩ : ∃ l, E[j]? = some l := ⟨_, List.getElem?_eq_getElem (by rw [Hel.out]; exact hlt)⟩
          obtain ⟨l0, hl0⟩ : ∃ l, E[0]? = some l := ⟨_, List.getElem?_eq_getElem (by rw [Hel.out]; omega)⟩
          obtain ⟨b, off, q3, c3, rfl, hc, hr, hq3, -⟩ := (HLs.out.only0 HO.out) j l hl
          obtain ⟨b', off', q4, c4, eb, hc0, -, -, -⟩ := (HLs.out.only0 HO.out) 0 l0 hl0
          obtain ⟨rfl, rfl⟩ : b = b' ∧ off = off' := by simpa using eb
          have hll := Hee.out l (List.mem_of_getElem? hl)
          have hll0 := Hee.out l0 (List.mem_of_getElem? hl0)
          rw [hll] at hc hq3
          rw [hll0, Nat.add_zero] at hc0
          have h0k : (0 : Int) < (k : Int) + (m : Int) := by omega
          by_cases hjk : j < k
          · have hjki : (j : Int) < (k : Int) := by omega
            have hmin : min j k = j := by omega
            have hmin2 : min (j + 1) k = j + 1 := by omega
            have hMb : M ≤ 16 * 1024 := by rw [HM.out]; exact Nat.mul_le_mul (by omega) hsl
            obtain ⟨q5, c5, w5, Hr, own5, o5, -⟩ := append_owned (P := Tryd.prog) (bytes := 1) (c := c3) (q := q3) (m := size) (news := u8s l) (t := 27) (ty := 27) wr Tryd.underlying27 Tryd.infoU8 rfl Hown.out hr (by rw [u8s_length, hll]) hq3 (fun v hv => u8s_one hv) (by omega) (by omega) HO.out.size
            have HM5 : Hid (M + size = min (j + 1) k * size) := Lib.hid (by rw [hmin2, HM.out, hmin, Nat.add_mul, Nat.one_mul])
            have Own5 : Hid (Own w5 w2.heap.size 5 (.slice q5 (M + size) c5) (u8s (E.take (min (j + 1) k)).flatten)) := Lib.hid (by
              rw [hmin2, List.take_add_one, hl]
              rw [hmin] at own5
              rw [show (E.take j ++ (some l).toList).flatten = (E.take j).flatten ++ l by simp, u8s_append]; exact own5)
            have Ho5 := Lib.hid (HO.out.transN o5 (fun x hx => (ownBlk Hown.out x hx).1))
            have HrH := Lib.hid Hr
            clear hl hl0 hr hll hll0 own5 o5 Hr hq3 eb hmin hmin2 Hown
            go_wp2_with (first | (at_builtin; refine wpl_append (s := .tmp 58) (x := .tmp 59) rfl rfl rfl rfl HrH.out ?_))
            exact ⟨⟨j + 1, q5, c5, M + size, by go_num, rfl, by omega, HM5, Own5, Ho5⟩, by simp [intOf]; omega⟩
          · have hjki : ¬ (j : Int) < (k : Int) := by omega
            have hmin : min (j + 1) k = min j k := by omega
            have HM5 : Hid (M = min (j + 1) k * size) := Lib.hid (by rw [hmin, HM.out])
            have Own5 : Hid (Own wr w2.heap.size 5 (.slice q2 M c2) (u8s (E.take (min (j + 1) k)).flatten)) := Lib.hid (by rw [hmin]; exact Hown.out)
            clear hl hl0 hr hll hll0 hq3 eb hmin Hown
            go_wp2_with fail
            exact ⟨⟨j + 1, q2, c2, M, by go_num, rfl, by omega, HM5, Own5, HO⟩, by simp [intOf]; omega⟩
        · obtain rfl : j = k + m := by omega
          have hji : ¬ ((k + m : Nat) : Int) < (k : Int) + (m : Int) := by omega
          have hmin : min (k + m) k = k := by omega
          obtain rfl : M = N := by rw [HM.out, HN.out, hmin]
          have hown : Own wr w2.heap.size 5 (.slice q2 M c2) (u8s (E.take k).flatten) := by have := Hown.out; rwa [hmin] at this
          obtain ⟨hrd, hvl, hq0, hle, -, -⟩ := hown.view
          have Hrd := Lib.hid hrd
          have Hq0 := Lib.hid hq0
          have HO0 : Hid (Only [] w0 wr) := Lib.hid (HO2.out.trans0 HO.out)
          clear hown hrd hvl hq0 Hown hmin HM
          obtain ⟨wo, hwo⟩ : ∃ wo : World, wo = wr := ⟨_, rfl⟩
          subst hwo
          go_wp2_with fail
          go_loop [64] (fun i => ∃ t : Nat, t ≤ M ∧ i = .int .i64 (t : Int)) (fun i => M - (intOf i).toNat)
          case atStart => exact ⟨0, by omega, rfl⟩
          case round =>
            obtain ⟨t, ht, rfl⟩ := hrel
            by_cases htl : t < M
            · have hti : (t : Int) < (M : Int) := by omega
              obtain ⟨y, hy, hy1, hy2⟩ := Hpad.out t htl
              obtain ⟨b5, off5, rfl, hc5⟩ := u8_at Hrd.out hy
              by_cases htn : t < n
              · obtain ⟨b6, off6, rfl, hc6⟩ := u8_at (Hx.out.only0 HO0.out) (hy1 htn)
                have htni : (t : Int) < (n : Int) := by omega
                clear hy hy1 hy2
                go_wp2_with fail
                go_round
                case rel => exact ⟨t + 1, by omega, by go_num⟩
                case measure => simp [intOf]; omega
              · have htni : ¬ (t : Int) < (n : Int) := by omega
                have hy0 := hy2 htn
                rw [hy0] at hc5
                clear hy hy1 hy2 hy0
                go_wp2_with fail
                go_round
                case rel => exact ⟨t + 1, by omega, by go_num⟩
                case measure => simp [intOf]; omega
            · obtain rfl : t = M := by omega
              have hti : ¬ (t : Int) < (t : Int) := by omega
              have hfi : (n : Int) ≤ (t : Int) := by omega
              have hli : (t : Int) - (n : Int) < (k : Int) := by omega
              have hnc : n ≤ c2 := by omega
              have hrt : Rd wo q2 (u8s xs) := by
                have := Hrd.out.take n
                rwa [u8s_take, Hpt.out] at this
              have hsb := sameBytes_any q2 p xs xs n n c2 c true wo Hn.out Hn.out (fun e => ⟨by have := (Hq0.out e).1; omega, (Hq0.out e).2⟩) Hp.out hrt (Hx.out.only0 HO0.out) (by simp)
              clear hrt
              go_wp2_with fail
              (with_reducible refine (hsb).mono ?_)
              rintro e w' ⟨rfl, rfl⟩
              go_wp2_with fail
              go_ret
              exact ⟨rfl, HO0.out⟩
end Go.Proofs.YtlgcclhepegggaaDoor
