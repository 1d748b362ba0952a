/- The walk of bollardlaw14.NetPlays. -/
import Derived.Test.YtlgcclhepegggaaDoorNetPlaysL
import Derived.Test.YtlgcclhepegggaaDoorScript14
import Derived.Test.YtlgcclhepegggaaDoorRegDirt
import Derived.Deep.DeepCutAuto
import Derived.Deep.Cut
import Derived.Deep.CutBlock
set_option linter.unusedVariables false
set_option maxRecDepth 100000
namespace Go.Proofs.YtlgcclhepegggaaDoor
open Go.RowKit

theorem PlayEnd.onlyD {w0 w' : World} {base B last Br : Nat} {q qr : Option Addr} {L : List Lt} (h : PlayEnd w0 base B q last L Br qr w') : Only (paD B q L Br qr) w0 w' := by
  obtain ⟨q', n', c', last', L', qr', cr', h1, h2, h3, h4⟩ := h
  exact h4
theorem i64_bit0 (a : Int) : ∃ k : Nat, k < 2 ∧ bits .and .i64 a 1 = (k : Int) := by
  have h : bits .and .i64 a 1 = a % 2 := by
    show IntKind.i64.wrap (((BitVec.ofInt 64 a) &&& (BitVec.ofInt 64 1)).toNat : Int) = _
    have h2 : ((BitVec.ofInt 64 a) &&& (BitVec.ofInt 64 1)).toNat = (a % 2).toNat := by
      rw [BitVec.toNat_and]
      have : (BitVec.ofInt 64 1).toNat = 1 := by decide
      rw [this, Nat.and_one_is_mod, BitVec.toNat_ofInt]
      omega
    rw [h2, IntWalk.i64_in _ (by omega)]
    omega
  exact ⟨(a % 2).toNat, by omega, by rw [h]; omega⟩
theorem u8_of (x : Int) : ∃ b : UInt8, IntKind.u8.wrap x = (b.toNat : Int) := by
  refine ⟨UInt8.ofNat (IntKind.u8.wrap x).toNat, ?_⟩
  have h : 0 ≤ IntKind.u8.wrap x ∧ IntKind.u8.wrap x < 256 := by simp [IntKind.wrap, IntKind.bits, IntKind.signed]; omega
  rw [show (UInt8.ofNat (IntKind.u8.wrap x).toNat).toNat = (IntKind.u8.wrap x).toNat by simp; omega]
  omega
set_option maxHeartbeats 16000000 in
theorem netPlays_any (w0 : World) (az : List Addr) (p : Option Addr) (nS cS : Nat) (os : List Op14) (hl : os.length = nS) (hn : nS ≤ cS) (hc : cS ≤ 2199023255552) (hA : Acts14 w0 p os) (hE : ErrAll w0 az) (aG aF aN : Addr) (hN : az[1]? = some aN) (hG : az[7]? = some aG) (hF : az[9]? = some aF) :
    Calls Tryd.prog 5 #[.slice p nS cS] w0 fun e w' => e = .returned (.bool true) ∧ Only [] w0 w' := by
  have eG : ErrAt w0 2 aG := hE.2.2 7 _ aG rfl hG
  have eF : ErrAt w0 10 aF := hE.2.2 9 _ aF rfl hF
  have hal := alive14_any w0 aG aF eG eF
  have HE := Lib.hid hE
  have HN := Lib.hid hN
  have HG := Lib.hid hG
  have HF := Lib.hid hF
  have HA := Lib.hid hA
  have Hl := Lib.hid hl
  clear eG eF hE hN hG hF hA hl
  go_enter Tryd.func5, Tryd.ntmps5
  go_wp2_with fail
  (with_reducible refine (hal).mono ?_)
  rintro e w1 ⟨rfl, o1⟩
  clear hal
  have hnew := new_any w1
  have HO1 := Lib.hid o1
  clear o1
  go_wp2_with fail
  (with_reducible refine (hnew).mono ?_)
  rintro e w2 ⟨rfl, hnet, o2⟩
  clear hnew
  have hnew := new_any w2
  have HN2 := Lib.hid hnet
  have HO2 := Lib.hid (HO1.out.trans0 o2)
  have Hs1 := Lib.hid HO1.out.size
  have Hs2 := Lib.hid hnet.st.lt
  clear hnet o2
  go_wp2_with fail
  (with_reducible refine (hnew).mono ?_)
  rintro e w3 ⟨rfl, hnet, o3⟩
  clear hnew
  have HN3 := Lib.hid hnet
  have HN2' := Lib.hid (HN2.out.only0 o3)
  have HO3 := Lib.hid (HO2.out.trans0 o3)
  have Hs3 := Lib.hid hnet.st.lt
  clear hnet o3
  obtain ⟨w4, hw4⟩ : ∃ w4, w4 = w3.alloc (.cells #[.pointer (some ⟨w1.heap.size, 0, none⟩), .pointer (some ⟨w2.heap.size, 0, none⟩)] 46) := ⟨_, rfl⟩
  obtain ⟨w5, hw5⟩ : ∃ w5, w5 = w4.alloc (.cells #[.slice none 0 0, .int .i64 0] 50) := ⟨_, rfl⟩
  obtain ⟨w6, hw6⟩ : ∃ w6, w6 = w5.alloc (.cells #[.slice none 0 0, .int .i64 0] 50) := ⟨_, rfl⟩
  obtain ⟨w7, hw7⟩ : ∃ w7, w7 = w6.alloc (.cells #[.pointer (some ⟨w3.heap.size + 1, 0, none⟩), .pointer (some ⟨w3.heap.size + 1 + 1, 0, none⟩)] 51) := ⟨_, rfl⟩
  have z4 : w4.heap.size = w3.heap.size + 1 := by rw [hw4]; exact Array.size_push ..
  have z5 : w5.heap.size = w3.heap.size + 1 + 1 := by rw [hw5, ← z4]; exact Array.size_push ..
  have z6 : w6.heap.size = w3.heap.size + 1 + 1 + 1 := by rw [hw6, ← z5]; exact Array.size_push ..
  have o4 : Only [] w3 w4 := by rw [hw4]; exact Only.alloc _ _
  have o5 : Only [] w4 w5 := by rw [hw5]; exact Only.alloc _ _
  have o6 : Only [] w5 w6 := by rw [hw6]; exact Only.alloc _ _
  have o7 : Only [] w6 w7 := by rw [hw7]; exact Only.alloc _ _
  have r4 : Row w4 w3.heap.size 46 [.pointer (some ⟨w1.heap.size, 0, none⟩), .pointer (some ⟨w2.heap.size, 0, none⟩)] := by rw [hw4]; exact Row.newOf _ _ _ _ rfl
  have r5 : Row w5 w4.heap.size 50 [.slice none 0 0, .int .i64 0] := by rw [hw5]; exact Row.newOf _ _ _ _ rfl
  have r6 : Row w6 w5.heap.size 50 [.slice none 0 0, .int .i64 0] := by rw [hw6]; exact Row.newOf _ _ _ _ rfl
  have r7 : Row w7 w6.heap.size 51 [.pointer (some ⟨w3.heap.size + 1, 0, none⟩), .pointer (some ⟨w3.heap.size + 1 + 1, 0, none⟩)] := by rw [hw7]; exact Row.newOf _ _ _ _ rfl
  have hS0 : ∃ P, NS w0 w7 w3.heap.size w6.heap.size P 0 := by
    have h1 := Hs1.out
    have h2 := Hs2.out
    have h3 := Hs3.out
    have o37 : Only [] w3 w7 := ((o4.trans0 o5).trans0 o6).trans0 o7
    have hpa0 : PA w7 w0.heap.size w1.heap.size none 0 0 0 [] w4.heap.size none 0 := ⟨(HN2'.out.only0 o37).weaken h1, ⟨by simp, by simp⟩, RefAt.fresh ((r5.only0 o6).only0 o7) (by omega), by simp [blk, netD, bbs]; omega, by omega⟩
    have hpa1 : PA w7 w0.heap.size w2.heap.size none 0 0 0 [] w5.heap.size none 0 := ⟨(HN3.out.only0 o37).weaken (by omega), ⟨by simp, by simp⟩, RefAt.fresh (r6.only0 o7) (by omega), by simp [blk, netD, bbs]; omega, by omega⟩
    refine ⟨fun k => if k = 0 then ⟨w1.heap.size, none, 0, 0, 0, [], w4.heap.size, none, 0⟩ else ⟨w2.heap.size, none, 0, 0, 0, [], w5.heap.size, none, 0⟩, fun k hk => ?_, fun k l hk hl hkl => ?_, ?_, ?_, fun k hk => ?_, fun k hk => ?_, HO3.out.trans0 o37⟩
    · obtain rfl | rfl : k = 0 ∨ k = 1 := by omega
      · exact hpa0
      · exact hpa1
    · obtain ⟨rfl, rfl⟩ | ⟨rfl, rfl⟩ : (k = 0 ∧ l = 1) ∨ (k = 1 ∧ l = 0) := by omega
      · simp [Pr.D, paD, netD, blk, bbs]; omega
      · simp [Pr.D, paD, netD, blk, bbs]; omega
    · exact r4.only0 ((o5.trans0 o6).trans0 o7)
    · simp only [pR, if_pos, z4, z5]
      exact r7
    · obtain rfl | rfl : k = 0 ∨ k = 1 := by omega
      · simp [Pr.D, paD, netD, blk, bbs]; omega
      · simp [Pr.D, paD, netD, blk, bbs]; omega
    · obtain rfl | rfl : k = 0 ∨ k = 1 := by omega
      · exact Nat.le_refl _
      · exact Nat.le_refl _
  have c40 := (((r4.only0 o5).only0 o6).only0 o7).cell (i := 0) rfl
  have c41 := (((r4.only0 o5).only0 o6).only0 o7).cell (i := 1) rfl
  obtain ⟨P0, hS0⟩ := hS0
  have HS0 := Lib.hid hS0
  rw [z6] at HS0
  rw [hw6, hw5, hw4] at hw7
  have Hw7 := Lib.hid hw7
  clear hS0 hw4 hw5 hw6 hw7 z4 z5 z6 o4 o5 o6 o7 r4 r5 r6 r7
  go_upto_region 5 with (fail)
  rw [← Hw7.out]
  clear Hw7 HN2 HN2' HN3
  generalize w3.heap.size = ga at *
  have Hg1 : Hid (ga + 1 + 1 + 1 = ga + 3) := Lib.hid (by omega)
  generalize hgb : ga + 1 + 1 + 1 = gb at *
  clear hgb Hg1
  go_wp2_with fail
  clear c40 c41
  go_loopw [32, 5] (fun a mv wr => ∃ (j m : Nat) (P : Nat → Pr), a = .int .i64 (j : Int) ∧ j ≤ nS ∧ mv = .int .i64 (m : Int) ∧ m ≤ j ∧ Hid (NS w0 wr ga gb P (j + 5000 * min m 2))) (fun a _ _ => nS - (intOf a).toNat)
  case atStart => exact ⟨0, 0, P0, rfl, Nat.zero_le _, rfl, Nat.le_refl _, HS0⟩
  case round =>
    clear HS0
    obtain ⟨j, m, P, rfl, hj, rfl, hmj, HS⟩ := hrel
    by_cases hlt : j < nS
    · have hji : (j : Int) < (nS : Int) := by omega
      obtain ⟨o, ho⟩ : ∃ o, os[j]? = some o := ⟨_, List.getElem?_eq_getElem (by rw [Hl.out]; exact hlt)⟩
      obtain ⟨-, -, -, hok0, -⟩ := HA.out j o ho
      obtain ⟨b, off, rfl, hok, c0, c1, c2, c3, c4, c5⟩ := (HA.out.only0 HS.out.only) j o ho
      have HBs : Hid (∀ k, k < 2 → o.bs ≠ [] → ∀ a, o.p = some a → a.block ∉ (P k).D) := Lib.hid (fun k hk hne a ha hm => by
        obtain ⟨b', off', e1, h1⟩ := (hok0.2.2.2.2.2.2.2.2.2).lt (fun e => hne (by unfold u8s at e; exact List.map_eq_nil_iff.1 e))
        rw [ha] at e1
        obtain rfl := Option.some.inj e1
        have := (HS.out.lt hk _ hm).1
        dsimp only at this
        omega)
      clear hok0
      obtain ⟨wo, hwo⟩ : ∃ wo, wo = wr.alloc (.cells #[.int .i64 o.kind, .int .i64 o.which, .int .i64 o.fr, .int .i64 o.to, .int .i64 o.n, .slice o.p o.m o.c] 29) := ⟨_, rfl⟩
      have oO : Only [] wr wo := by rw [hwo]; exact Only.alloc _ _
      have rO : Row wo wr.heap.size 29 [.int .i64 o.kind, .int .i64 o.which, .int .i64 o.fr, .int .i64 o.to, .int .i64 o.n, .slice o.p o.m o.c] := by rw [hwo]; exact Row.newOf _ _ _ _ rfl
      have HS1 := Lib.hid (HS.out.only0 oO)
      have HX : Hid (∀ k, k < 2 → wr.heap.size ∉ (P k).D) := Lib.hid (fun k hk hm => by have := (HS.out.lt hk _ hm).2; omega)
      have HRO := Lib.hid rO
      have Hok := Lib.hid (hok.only0 oO)
      have HOO := Lib.hid (HS.out.only.trans0 oO)
      clear ho hok oO rO
      obtain ⟨kd, wh, fr, dst, no, bp, bm, bc, bs⟩ := o
      dsimp only at *
      obtain ⟨k, hk2, hbit⟩ := i64_bit0 wh
      have hki : (k : Int) < 2 := by omega
      have y0 := HRO.out.cell (i := 0) rfl
      have y1 := HRO.out.cell (i := 1) rfl
      have y2 := HRO.out.cell (i := 2) rfl
      have y3 := HRO.out.cell (i := 3) rfl
      have y4 := HRO.out.cell (i := 4) rfl
      have y5 := HRO.out.cell (i := 5) rfl
      obtain ⟨hk0, hwh, hfr, hto, hno, hbl, hbc, hbc2, hbn, hbr⟩ := Hok.out
      dsimp only at hk0 hwh hfr hto hno hbl hbc hbc2 hbn hbr
      have Hbl := Lib.hid hbl
      have Hbn := Lib.hid hbn
      have Hbr := Lib.hid hbr
      clear hbl hbn hbr Hok
      by_cases hkd : kd = 7
      · subst hkd
        obtain ⟨T, hT, hT0, hT1, hT2⟩ : ∃ T : Nat, T ≤ 5000 ∧ (no < 0 → T = 0) ∧ (0 ≤ no → no ≤ 5000 → (T : Int) = no) ∧ (5000 < no → T = 5000) := by
          by_cases h1 : no < 0
          · exact ⟨0, by omega, by omega, by omega, by omega⟩
          · by_cases h2 : 5000 < no
            · exact ⟨5000, by omega, by omega, by omega, by omega⟩
            · exact ⟨no.toNat, by omega, by omega, by omega, by omega⟩
        have hm1 : m < 2199023255552 := by omega
        have Hwo := Lib.hid hwo
        rw [hwo] at y0 y1 y4
        clear hwo
        go_wp2_with fail
        rw [← Hwo.out]
        generalize hXe : wr.heap.size = X at HX HRO
        clear hXe Hwo
        clear c0 c1 c2 c3 c4 c5 y0 y1 y2 y3 y4 y5
        go_loopw [9] (fun a wr => ∃ (i : Nat) (P' : Nat → Pr), a = .int .i64 (i : Int) ∧ i ≤ T ∧ (i = 0 ∨ m + 1 < 3) ∧ Hid (NS w0 wr ga gb P' (j + 5000 * min m 2 + i)) ∧ Hid (∀ k, k < 2 → X ∉ (P' k).D) ∧ Hid (Row wr X 29 [.int .i64 7, .int .i64 wh, .int .i64 fr, .int .i64 dst, .int .i64 no, .slice bp bm bc])) (fun a _ => 5000 - (intOf a).toNat)
        case atStart => exact ⟨0, P, rfl, Nat.zero_le _, .inl rfl, HS1, HX, HRO⟩
        case round =>
          obtain ⟨i, P', rfl, hi, hi0, HS2, HX2, HRO2⟩ := hrel
          have y4 := HRO2.out.cell (i := 4) rfl
          go_upto_region 15 with (fail)
          go_cut [53] (fun b wx => b = .bool (decide (i < T ∧ m + 1 < 3)) ∧ wx = wr)
          case first =>
            have fin : ∀ b : Bool, (b = true ↔ (i < T ∧ m + 1 < 3)) → (Value.bool b = .bool (decide (i < T ∧ m + 1 < 3))) := fun b h => by
              congr 1
              cases b
              · exact (decide_eq_false (fun h2 => by cases h.2 h2)).symm
              · exact (decide_eq_true (h.1 rfl)).symm
            have f1 := fin true
            have f0 := fin false
            have F1 := Lib.hid f1
            have F0 := Lib.hid f0
            clear fin f1 f0
            by_cases hm3 : m + 1 < 3
            · have hm3i : (m : Int) + 1 < 3 := by omega
              rcases Int.lt_or_le no 0 with h1 | h1
              · have h2 : ¬ (i : Int) < 0 := by omega
                have h3 : no ≤ 5000 := by omega
                go_wp2_with fail
                go_meet
                exact ⟨F0.out (by simp; omega), rfl⟩
              · rcases Int.lt_or_le 5000 no with h3 | h3
                · have h4 : ¬ no < 0 := by omega
                  by_cases h5 : i < T
                  · have h6 : (i : Int) < 5000 := by omega
                    have h7 : (i : Int) < no := by omega
                    go_wp2_with fail
                    go_meet
                    exact ⟨F1.out (by simp; omega), rfl⟩
                  · have h6 : ¬ (i : Int) < 5000 := by omega
                    go_wp2_with fail
                    go_meet
                    exact ⟨F0.out (by simp; omega), rfl⟩
                · have h4 : ¬ no < 0 := by omega
                  have h8 : ¬ 5000 < no := by omega
                  by_cases h5 : i < T
                  · have h6 : (i : Int) < 5000 := by omega
                    have h7 : (i : Int) < no := by omega
                    go_wp2_with fail
                    go_meet
                    exact ⟨F1.out (by simp; omega), rfl⟩
                  · have h7 : ¬ (i : Int) < no := by omega
                    go_wp2_with fail
                    go_meet
                    exact ⟨F0.out (by simp; omega), rfl⟩
            · have hm3i : ¬ (m : Int) + 1 < 3 := by omega
              rcases Int.lt_or_le no 0 with h1 | h1
              · have h2 : ¬ (i : Int) < 0 := by omega
                have h3 : no ≤ 5000 := by omega
                go_wp2_with fail
                go_meet
                exact ⟨F0.out (by simp; omega), rfl⟩
              · rcases Int.lt_or_le 5000 no with h3 | h3
                · have h4 : ¬ no < 0 := by omega
                  by_cases h5 : i < T
                  · have h6 : (i : Int) < 5000 := by omega
                    have h7 : (i : Int) < no := by omega
                    go_wp2_with fail
                    go_meet
                    exact ⟨F0.out (by simp; omega), rfl⟩
                  · exact absurd (hT2 h3) (by omega)
                · have h4 : ¬ no < 0 := by omega
                  have h8 : ¬ 5000 < no := by omega
                  by_cases h5 : i < T
                  · have h6 : (i : Int) < 5000 := by omega
                    have h7 : (i : Int) < no := by omega
                    go_wp2_with fail
                    go_meet
                    exact ⟨F0.out (by simp; omega), rfl⟩
                  · have h7 : ¬ (i : Int) < no := by omega
                    go_wp2_with fail
                    go_meet
                    exact ⟨F0.out (by simp; omega), rfl⟩
          case rest =>
          obtain ⟨rfl, hwc⟩ := hcut
          have hwc2 := hwc.symm
          subst hwc2
          clear hT0 hT1 hT2 y4
          by_cases hgo : i < T ∧ m + 1 < 3
          · rw [decide_eq_true hgo]
            obtain ⟨hiT, hm3⟩ := hgo
            obtain ⟨x, hx8⟩ := u8_of (i : Int)
            obtain ⟨tg, htg⟩ : ∃ tg, bits .and .i64 (i : Int) 3 = tg := ⟨_, rfl⟩
            have hca : wr.cell? ⟨ga, k, none⟩ = some (.pointer (some ⟨(P' k).B, 0, none⟩)) := HS2.out.ca hk2
            have hcb : wr.cell? ⟨gb, k, none⟩ = some (.pointer (some ⟨(P' k).Br, 0, none⟩)) := HS2.out.cb hk2
            have hna := (HS2.out.nd k hk2).1
            have hnb := (HS2.out.nd k hk2).2
            have hDlt : ∀ y ∈ (P' k).D, y < wr.heap.size := fun y hy => (HS2.out.lt hk2 y hy).2
            have hPl : ∀ w, Only [] wr w → ∀ g, wr.heap.size ≤ g → Rd w (some ⟨g, 0, none⟩) (u8s [x]) → Calls Tryd.prog 21 #[.pointer (some ⟨(P' k).B, 0, none⟩), .pointer (some ⟨(P' k).Br, 0, none⟩), .agg #[.int .i64 1, .int .i64 0, .int .i64 0, .int .i64 tg, .int .i64 0, .slice (some ⟨g, 0, none⟩) 1 1]] w fun e w' => e = .returned (.bool true) ∧ PlayEnd w w0.heap.size (P' k).B (P' k).q (P' k).last (P' k).L (P' k).Br (P' k).qr w' := by
              intro w ho g hg hr
              have hl1 := HS2.out.lim k hk2
              have hcc := hc
              exact play_any az ((HS2.out.only0 ho).pa k hk2) HE.out (HS2.out.only.trans0 ho) (Nat.le_refl _) HN.out HG.out HF.out 1 0 0 tg 0 _ 1 1 [x] (by omega) rfl (by omega) (by simp) hr (fun _ a ha hm => by
                obtain rfl := Option.some.inj ha
                have := hDlt _ hm
                dsimp only at this
                omega) (by omega)
            have HPl := Lib.hid hPl
            clear hPl
            have hRr : ∀ a, Only (P' k).D a a := fun a => Only.refl _ _
            have hRt : ∀ a b e, Only (P' k).D a b → Only (P' k).D b e → Only (P' k).D a e := fun a b e h h2 => h.trans h2 (fun i hi _ => hi)
            go_upto_region 17 with (fail)
            have hRd : Only (P' k).D wr wr.drew := (Only.drew _).mono (by simp)
            have hC0 : ∀ d ∈ [12], (fun (_ : Nat) (a : World) => Only [] wr a) d wr.drew := fun _ _ => Only.drew _
            have hRs : ∀ (i : Nat) w, Dirt [(12, (P' k).D)] i w w := fun _ _ => Only.refl _ _
            -- <<R17
            refine wp_region_rg4 (Only (P' k).D) (Dirt [(12, (P' k).D)]) (fun (_ : Nat) (a : World) => Only [] wr a) [12] [[(8, none)], [(3, none), (56, some 0)], [(57, some 0)], [(8, none)], [(4, none), (59, some 0)], [(60, some 0)], [(9, none)], [(62, some 0)], [(9, none)], [(64, some 0)], [(65, some 0)], [(63, some 3), (66, some 0)], [(58, some 9), (61, some 6), (67, some 0)], [(68, some 0)]] [(69, 0)] [none, none, none, none, none, none, none, none, none, none, none, none, none, none, none, none, none, none, none, none, none, none, none, none, none, none, none, none, none, none, none, none, none, none, none, none, none, none, none, none, none, none, none, none, none, none, none, none, none, none, none, none, none, none, none, none, some 56, some 57, some 58, some 59, some 60, some 61, some 62, some 63, some 64, some 65, some 66, some 67, some 68, some 69, none, none, none, none, none, none, none, none, none, none, none, none, none, none, none, none, none, none, none, none, none, none, none, none, none, none, none, none, none, none, none, none, none, none, none, none, none, none, none, none, none, none, none, none, none, none, none, none, none, none, none, none, none, none] (by kernel_rfl) rfl (by kernel_rfl) hRr hRt (fun _ _ => Only.refl _ _) hRd hC0 (by kernel_rfl) (by kernel_rfl) ?_
            -- 0: s56 := move t8
            apply rgd_ev
            · intro a w hR hC hf
              obtain ⟨e8, -⟩ := hf
              replace e8 : a.tmps.getD 8 undef = _ := e8
              refine rg_plain rfl fun K hK => ?_
              go_simp
              exact hK _ _ rfl ⟨hRr _, Only.refl _ _, fun _ _ _ _ h => h⟩
            -- 1: s57 := indexAddr 46 t3 t56
            apply rgd_ev
            · intro a w hR hC hf
              obtain ⟨e3, e56, -⟩ := hf
              replace e3 : a.tmps.getD 3 undef = _ := e3
              replace e56 : a.tmps.getD 56 undef = _ := e56
              refine rg_plain rfl fun K hK => ?_
              go_simp
              exact hK _ _ rfl ⟨hRr _, Only.refl _ _, fun _ _ _ _ h => h⟩
            -- 2: s58 := load 24 t57
            apply rgd_ev
            · intro a w hR hC hf
              obtain ⟨e57, -⟩ := hf
              replace e57 : a.tmps.getD 57 undef = _ := e57
              refine rg_plain rfl fun K hK => ?_
              have h2 := hR.cell hca hna
              go_simp
              exact hK _ _ rfl ⟨hRr _, Only.refl _ _, fun _ _ _ _ h => h⟩
            -- 3: s59 := move t8
            apply rgd_ev
            · intro a w hR hC hf
              obtain ⟨e8, -⟩ := hf
              replace e8 : a.tmps.getD 8 undef = _ := e8
              refine rg_plain rfl fun K hK => ?_
              go_simp
              exact hK _ _ rfl ⟨hRr _, Only.refl _ _, fun _ _ _ _ h => h⟩
            -- 4: s60 := indexAddr 51 t4 t59
            apply rgd_ev
            · intro a w hR hC hf
              obtain ⟨e4, e59, -⟩ := hf
              replace e4 : a.tmps.getD 4 undef = _ := e4
              replace e59 : a.tmps.getD 59 undef = _ := e59
              refine rg_plain rfl fun K hK => ?_
              go_simp
              exact hK _ _ rfl ⟨hRr _, Only.refl _ _, fun _ _ _ _ h => h⟩
            -- 5: s61 := load 47 t60
            apply rgd_ev
            · intro a w hR hC hf
              obtain ⟨e60, -⟩ := hf
              replace e60 : a.tmps.getD 60 undef = _ := e60
              refine rg_plain rfl fun K hK => ?_
              have h5 := hR.cell hcb hnb
              go_simp
              exact hK _ _ rfl ⟨hRr _, Only.refl _ _, fun _ _ _ _ h => h⟩
            -- 6: s62 := move t9
            apply rgd_ev
            · intro a w hR hC hf
              obtain ⟨e9, -⟩ := hf
              replace e9 : a.tmps.getD 9 undef = _ := e9
              refine rg_plain rfl fun K hK => ?_
              go_simp
              exact hK _ _ rfl ⟨hRr _, Only.refl _ _, fun _ _ _ _ h => h⟩
            -- 7: s63 := binOp Binand 3 t62 (const (3:i64)) 3
            apply rgd_ev
            · intro a w hR hC hf
              obtain ⟨e62, -⟩ := hf
              replace e62 : a.tmps.getD 62 undef = _ := e62
              refine rg_plain rfl fun K hK => ?_
              go_simp
              exact hK _ _ rfl ⟨hRr _, Only.refl _ _, fun _ _ _ _ h => h⟩
            -- 8: s64 := move t9
            apply rgd_ev
            · intro a w hR hC hf
              obtain ⟨e9, -⟩ := hf
              replace e9 : a.tmps.getD 9 undef = _ := e9
              refine rg_plain rfl fun K hK => ?_
              go_simp
              exact hK _ _ rfl ⟨hRr _, Only.refl _ _, fun _ _ _ _ h => h⟩
            -- 9: s65 := convert 3 5 t64
            apply rgd_ev
            · intro a w hR hC hf
              obtain ⟨e64, -⟩ := hf
              replace e64 : a.tmps.getD 64 undef = _ := e64
              refine rg_plain rfl fun K hK => ?_
              go_simp
              exact hK _ _ rfl ⟨hRr _, Only.refl _ _, fun _ _ _ _ h => h⟩
            -- 10: s66 := buildSlice 27 1 #[(0, t65)]
            refine ⟨New1 wr.heap.size x, stands_of (New1.stable (by simp)) (by intro y hy hk; obtain rfl := List.mem_singleton.1 hy; exact New1.stable hDlt), fun a w hR hC hf => ?_, ?_⟩
            · obtain ⟨e65, -⟩ := hf
              replace e65 : a.tmps.getD 65 undef = _ := e65
              refine rg_plain rfl fun K hK => ?_
              have e65' := e65
              rw [Array.getD_eq_getD_getElem?] at e65'
              go_simp
              have oA := Only.alloc w (.cells #[.int .u8 (x.toNat : Int)] 5)
              exact hK _ _ ⟨w.heap.size, rfl, hR.size, Rd.newMark w 5 (u8s [x]) _⟩ ⟨oA.mono (by simp), oA, fun i _ _ _ hc => hc.trans0 oA⟩
            -- 11: s67 := build 29 #[(0, const (1:i64)), (3, t63), (5, t66)]
            refine ⟨New1A wr.heap.size x tg, stands_of (New1A.stable (by simp)) (by intro y hy hk; obtain rfl := List.mem_singleton.1 hy; exact New1A.stable hDlt), fun a w hR hC hf => ?_, ?_⟩
            · obtain ⟨e63, e66, -⟩ := hf
              replace e63 : a.tmps.getD 63 undef = _ := e63
              replace e66 : New1 wr.heap.size x (a.tmps.getD 66 undef) w := e66
              refine rg_plain rfl fun K hK => ?_
              have e63' := e63
              rw [Array.getD_eq_getD_getElem?] at e63'
              obtain ⟨g66, e66, hg66, r66⟩ := e66
              have e66' : a.tmps[66]?.getD undef = _ := (Array.getD_eq_getD_getElem? ..).symm.trans e66
              go_simp
              exact hK _ _ ⟨g66, rfl, hg66, r66⟩ ⟨hRr _, Only.refl _ _, fun _ _ _ _ h => h⟩
            -- 12: s68 := call { value (Operand.func 21), args := #[t58, t61, t67], #[24, 47, 29] }
            refine ⟨PlayV wr w0.heap.size (P' k), stands_of PlayV.stable (by intro y hy hk; obtain rfl := List.mem_singleton.1 hy; simp at hk), fun a w hR hC hf => ?_, ?_⟩
            · obtain ⟨e58, e61, e67, -⟩ := hf
              replace e58 : a.tmps.getD 58 undef = _ := e58
              replace e61 : a.tmps.getD 61 undef = _ := e61
              replace e67 : New1A wr.heap.size x tg (a.tmps.getD 67 undef) w := e67
              refine rg_plain rfl fun K hK => ?_
              obtain ⟨g67, e67, hg67, r67⟩ := e67
              have hC12 : Only [] wr w := hC 12 (by simp) (by kernel_rfl)
              go_simp
              (with_reducible refine (HPl.out w hC12 g67 hg67 r67).mono ?_)
              rintro e w' ⟨rfl, he⟩
              exact hK _ _ ⟨rfl, PlayEnd.from0 hC12 he⟩ ⟨PlayEnd.onlyD he, PlayEnd.onlyD he, fun i hi hne _ _ => absurd (List.mem_singleton.1 hi) hne⟩
            -- 13: s69 := unOp Unnot 4 t68
            apply rgd_ev
            · intro a w hR hC hf
              obtain ⟨e68, -⟩ := hf
              replace e68 : PlayV wr w0.heap.size (P' k) (a.tmps.getD 68 undef) w := e68
              refine rg_plain rfl fun K hK => ?_
              replace e68 := e68.1
              go_simp
              exact hK _ _ rfl ⟨hRr _, Only.refl _ _, fun _ _ _ _ h => h⟩
            intro f17 w17 hR17 hf hz17
            dsimp only [mergeT]
            obtain ⟨e69, -⟩ := hf
            replace e69 : f17 69 = _ := e69
            rw [e69]
            -- R17>>
            obtain ⟨v12, -, he⟩ := hz17 _ (List.mem_cons_of_mem _ (List.mem_cons_self ..))
            obtain ⟨P2, hS2, hD2⟩ := HS2.out.play hk2 he
            have HS3 := Lib.hid hS2
            have HX3 : Hid (∀ k, k < 2 → X ∉ (P2 k).D) := Lib.hid (fun i hi hm => by
              rcases hD2 i hi _ hm with h1 | h1
              · exact HX2.out i hi h1
              · have := HRO2.out.lt; omega)
            have HRO3 := Lib.hid (HRO2.out.only (PlayEnd.onlyD he) (HX2.out k hk2))
            clear hz17 hS2 hD2 he hRr hRt hRd hC0 hRs
            go_wp2_with fail
            refine ⟨⟨i + 1, P2, by go_num, by omega, .inr hm3, HS3, HX3, HRO3⟩, ?_⟩
            show 5000 - ((i : Int) + 1).toNat < 5000 - ((i : Int)).toNat
            omega
          · rw [decide_eq_false hgo]
            have hii : i = 0 ∨ m + 1 < 3 := hi0
            go_wp2_with fail
            refine ⟨⟨j + 1, m + 1, P', by go_num, by omega, by go_num, by omega, Lib.hid (HS2.out.mono (by omega))⟩, ?_⟩
            show nS - ((j : Int) + 1).toNat < nS - ((j : Int)).toNat
            omega
      · have hkb : (kd == 7) = false := by simp [hkd]
        have hca : wo.cell? ⟨ga, k, none⟩ = some (.pointer (some ⟨(P k).B, 0, none⟩)) := HS1.out.ca hk2
        have hcb : wo.cell? ⟨gb, k, none⟩ = some (.pointer (some ⟨(P k).Br, 0, none⟩)) := HS1.out.cb hk2
        have hna := (HS1.out.nd k hk2).1
        have hnb := (HS1.out.nd k hk2).2
        have hnX := HX.out k hk2
        have hPl : ∀ w, Only [] wo w → Calls Tryd.prog 21 #[.pointer (some ⟨(P k).B, 0, none⟩), .pointer (some ⟨(P k).Br, 0, none⟩), .agg #[.int .i64 kd, .int .i64 wh, .int .i64 fr, .int .i64 dst, .int .i64 no, .slice bp bm bc]] w fun e w' => e = .returned (.bool true) ∧ PlayEnd w w0.heap.size (P k).B (P k).q (P k).last (P k).L (P k).Br (P k).qr w' := by
          intro w ho
          have hl1 := HS1.out.lim k hk2
          exact play_any az ((HS1.out.only0 ho).pa k hk2) HE.out (HOO.out.trans0 ho) (Nat.le_refl _) HN.out HG.out HF.out kd wh fr dst no bp bm bc bs hno Hbl.out (by omega) Hbn.out (Hbr.out.only0 ho) (HBs.out k hk2) (by omega)
        have HPl := Lib.hid hPl
        have Hwo := Lib.hid hwo
        rw [hwo] at y0 y1
        clear hPl hwo
        go_upto_region 19 with (fail)
        rw [← Hwo.out]
        clear Hwo c0 c1 c2 c3 c4 c5 y0 y1
        have hRr : ∀ a, Only (P k).D a a := fun a => Only.refl _ _
        have hRt : ∀ a b e, Only (P k).D a b → Only (P k).D b e → Only (P k).D a e := fun a b e h h2 => h.trans h2 (fun i hi _ => hi)
        have hRd : Only (P k).D wo wo.drew := (Only.drew _).mono (by simp)
        have hC0 : ∀ d ∈ [7], (fun (_ : Nat) (a : World) => Only [] wo a) d wo.drew := fun _ _ => Only.drew _
        have hRs : ∀ (i : Nat) w, Dirt [(7, (P k).D)] i w w := fun _ _ => Only.refl _ _
        have z0 := HRO.out.cell (i := 0) rfl
        have z1 := HRO.out.cell (i := 1) rfl
        -- <<R19
        refine wp_region_rg4 (Only (P k).D) (Dirt [(7, (P k).D)]) (fun (_ : Nat) (a : World) => Only [] wo a) [7] [[(8, none)], [(3, none), (70, some 0)], [(71, some 0)], [(8, none)], [(4, none), (73, some 0)], [(74, some 0)], [(7, none)], [(72, some 4), (75, some 1), (76, some 0)], [(77, some 0)]] [(78, 0)] [none, none, none, none, none, none, none, none, none, none, none, none, none, none, none, none, none, none, none, none, none, none, none, none, none, none, none, none, none, none, none, none, none, none, none, none, none, none, none, none, none, none, none, none, none, none, none, none, none, none, none, none, none, none, none, none, none, none, none, none, none, none, none, none, none, none, none, none, none, none, some 70, some 71, some 72, some 73, some 74, some 75, some 76, some 77, some 78, none, none, none, none, none, none, none, none, none, none, none, none, none, none, none, none, none, none, none, none, none, none, none, none, none, none, none, none, none, none, none, none, none, none, none, none, none, none, none, none, none, none, none, none, none] (by kernel_rfl) rfl (by kernel_rfl) hRr hRt (fun _ _ => Only.refl _ _) hRd hC0 (by kernel_rfl) (by kernel_rfl) ?_
        -- 0: s70 := move t8
        apply rgd_ev
        · intro a w hR hC hf
          obtain ⟨e8, -⟩ := hf
          replace e8 : a.tmps.getD 8 undef = _ := e8
          refine rg_plain rfl fun K hK => ?_
          go_simp
          exact hK _ _ rfl ⟨hRr _, Only.refl _ _, fun _ _ _ _ h => h⟩
        -- 1: s71 := indexAddr 46 t3 t70
        apply rgd_ev
        · intro a w hR hC hf
          obtain ⟨e3, e70, -⟩ := hf
          replace e3 : a.tmps.getD 3 undef = _ := e3
          replace e70 : a.tmps.getD 70 undef = _ := e70
          refine rg_plain rfl fun K hK => ?_
          go_simp
          exact hK _ _ rfl ⟨hRr _, Only.refl _ _, fun _ _ _ _ h => h⟩
        -- 2: s72 := load 24 t71
        apply rgd_ev
        · intro a w hR hC hf
          obtain ⟨e71, -⟩ := hf
          replace e71 : a.tmps.getD 71 undef = _ := e71
          refine rg_plain rfl fun K hK => ?_
          have h2 := hR.cell hca hna
          go_simp
          exact hK _ _ rfl ⟨hRr _, Only.refl _ _, fun _ _ _ _ h => h⟩
        -- 3: s73 := move t8
        apply rgd_ev
        · intro a w hR hC hf
          obtain ⟨e8, -⟩ := hf
          replace e8 : a.tmps.getD 8 undef = _ := e8
          refine rg_plain rfl fun K hK => ?_
          go_simp
          exact hK _ _ rfl ⟨hRr _, Only.refl _ _, fun _ _ _ _ h => h⟩
        -- 4: s74 := indexAddr 51 t4 t73
        apply rgd_ev
        · intro a w hR hC hf
          obtain ⟨e4, e73, -⟩ := hf
          replace e4 : a.tmps.getD 4 undef = _ := e4
          replace e73 : a.tmps.getD 73 undef = _ := e73
          refine rg_plain rfl fun K hK => ?_
          go_simp
          exact hK _ _ rfl ⟨hRr _, Only.refl _ _, fun _ _ _ _ h => h⟩
        -- 5: s75 := load 47 t74
        apply rgd_ev
        · intro a w hR hC hf
          obtain ⟨e74, -⟩ := hf
          replace e74 : a.tmps.getD 74 undef = _ := e74
          refine rg_plain rfl fun K hK => ?_
          have h5 := hR.cell hcb hnb
          go_simp
          exact hK _ _ rfl ⟨hRr _, Only.refl _ _, fun _ _ _ _ h => h⟩
        -- 6: s76 := load 29 t7
        apply rgd_ev
        · intro a w hR hC hf
          obtain ⟨e7, -⟩ := hf
          replace e7 : a.tmps.getD 7 undef = _ := e7
          refine rg_plain rfl fun K hK => ?_
          have x0 := hR.cell z0 hnX
          have x1 := hR.cell z1 hnX
          have x2 := hR.cell y2 hnX
          have x3 := hR.cell y3 hnX
          have x4 := hR.cell y4 hnX
          have x5 := hR.cell y5 hnX
          go_simp
          exact hK _ _ rfl ⟨hRr _, Only.refl _ _, fun _ _ _ _ h => h⟩
        -- 7: s77 := call { value (Operand.func 21), args := #[t72, t75, t76], #[24, 47, 29] }
        refine ⟨PlayV wo w0.heap.size (P k), stands_of PlayV.stable (by intro y hy hk; obtain rfl := List.mem_singleton.1 hy; simp at hk), fun a w hR hC hf => ?_, ?_⟩
        · obtain ⟨e72, e75, e76, -⟩ := hf
          replace e72 : a.tmps.getD 72 undef = _ := e72
          replace e75 : a.tmps.getD 75 undef = _ := e75
          replace e76 : a.tmps.getD 76 undef = _ := e76
          refine rg_plain rfl fun K hK => ?_
          have hC7 : Only [] wo w := hC 7 (by simp) (by kernel_rfl)
          go_simp
          (with_reducible refine (HPl.out w hC7).mono ?_)
          rintro e w' ⟨rfl, he⟩
          exact hK _ _ ⟨rfl, PlayEnd.from0 hC7 he⟩ ⟨PlayEnd.onlyD he, PlayEnd.onlyD he, fun i hi hne _ _ => absurd (List.mem_singleton.1 hi) hne⟩
        -- 8: s78 := unOp Unnot 4 t77
        apply rgd_ev
        · intro a w hR hC hf
          obtain ⟨e77, -⟩ := hf
          replace e77 : PlayV wo w0.heap.size (P k) (a.tmps.getD 77 undef) w := e77
          refine rg_plain rfl fun K hK => ?_
          replace e77 := e77.1
          go_simp
          exact hK _ _ rfl ⟨hRr _, Only.refl _ _, fun _ _ _ _ h => h⟩
        intro f19 w19 hR19 hf hz19
        dsimp only [mergeT]
        obtain ⟨e78, -⟩ := hf
        replace e78 : f19 78 = _ := e78
        rw [e78]
        -- R19>>
        obtain ⟨v7, -, he⟩ := hz19 _ (List.mem_cons_of_mem _ (List.mem_cons_self ..))
        obtain ⟨P2, hS2, hD2⟩ := HS1.out.play hk2 he
        have HS3 := Lib.hid hS2
        clear hz19 hS2 hD2 he hRr hRt hRd hC0 hRs
        go_wp2_with fail
        refine ⟨⟨j + 1, m, P2, by go_num, by omega, rfl, by omega, Lib.hid (HS3.out.mono (by omega))⟩, ?_⟩
        show nS - ((j : Int) + 1).toNat < nS - ((j : Int)).toNat
        omega
    · obtain rfl : j = nS := by omega
      have hji : ¬ (j : Int) < (j : Int) := by omega
      have hmm : m ≤ 2199023255552 := by omega
      have HSA : Hid (NS w0 wr ga gb P 3000000000000) := Lib.hid (HS.out.mono (by omega))
      clear HS hj hmj
      go_wp2_with fail
      go_loopw [80] (fun a wr => ∃ (k : Nat) (P : Nat → Pr), a = .int .i64 (k : Int) ∧ k ≤ 2 ∧ Hid (NS w0 wr ga gb P (3000000000000 + 50 * k))) (fun a _ => 2 - (intOf a).toNat)
      case atStart => exact ⟨0, P, rfl, by omega, HSA⟩
      case round =>
        clear HSA
        obtain ⟨k, P, rfl, hk, HS⟩ := hrel
        by_cases hk2 : k < 2
        · have hki : (k : Int) < 2 := by omega
          have hca : wr.cell? ⟨ga, k, none⟩ = some (.pointer (some ⟨(P k).B, 0, none⟩)) := HS.out.ca hk2
          have hcb : wr.cell? ⟨gb, k, none⟩ = some (.pointer (some ⟨(P k).Br, 0, none⟩)) := HS.out.cb hk2
          have HWt : Hid (∀ w, Only [] wr w → Calls Tryd.prog 22 #[.pointer (some ⟨(P k).B, 0, none⟩), .pointer (some ⟨(P k).Br, 0, none⟩)] w fun e w' => e = .returned (.bool true) ∧ Only [] w w') := Lib.hid (fun w ho => waits_any ((HS.out.only0 ho).pa k hk2))
          have hRr : ∀ a, Only [] a a := fun a => Only.refl _ _
          have hRt : ∀ a b e, Only [] a b → Only [] b e → Only [] a e := fun a b e h h2 => h.trans0 h2
          have hRd : Only [] wr wr.drew := Only.drew _
          go_upto_region 25 with (fail)
          -- <<R25
          refine wp_region_rg2 (Only []) [[(10, none)], [(3, none), (83, some 0)], [(84, some 0)], [(10, none)], [(4, none), (86, some 0)], [(87, some 0)], [(85, some 3), (88, some 0)], [(89, some 0)]] [(90, 0)] [none, none, none, none, none, none, none, none, none, none, none, none, none, none, none, none, none, none, none, none, none, none, none, none, none, none, none, none, none, none, none, none, none, none, none, none, none, none, none, none, none, none, none, none, none, none, none, none, none, none, none, none, none, none, none, none, none, none, none, none, none, none, none, none, none, none, none, none, none, none, none, none, none, none, none, none, none, none, none, none, none, none, none, some 83, some 84, some 85, some 86, some 87, some 88, some 89, some 90, none, none, none, none, none, none, none, none, none, none, none, none, none, none, none, none, none, none, none, none, none, none, none, none, none, none, none, none, none, none, none, none, none] (by kernel_rfl) rfl (by kernel_rfl) hRr hRt hRd (by kernel_rfl) ?_
          -- 0: s83 := move t10
          apply rg_ev
          · intro a w hR hf
            obtain ⟨e10, -⟩ := hf
            replace e10 : a.tmps.getD 10 undef = _ := e10
            refine rg_plain rfl fun K hK => ?_
            go_simp
            exact hK _ _ rfl (hRr _)
          -- 1: s84 := indexAddr 46 t3 t83
          apply rg_ev
          · intro a w hR hf
            obtain ⟨e3, e83, -⟩ := hf
            replace e3 : a.tmps.getD 3 undef = _ := e3
            replace e83 : a.tmps.getD 83 undef = _ := e83
            refine rg_plain rfl fun K hK => ?_
            go_simp
            exact hK _ _ rfl (hRr _)
          -- 2: s85 := load 24 t84
          apply rg_ev
          · intro a w hR hf
            obtain ⟨e84, -⟩ := hf
            replace e84 : a.tmps.getD 84 undef = _ := e84
            refine rg_plain rfl fun K hK => ?_
            have h2 := hR.cell hca (by simp)
            go_simp
            exact hK _ _ rfl (hRr _)
          -- 3: s86 := move t10
          apply rg_ev
          · intro a w hR hf
            obtain ⟨e10, -⟩ := hf
            replace e10 : a.tmps.getD 10 undef = _ := e10
            refine rg_plain rfl fun K hK => ?_
            go_simp
            exact hK _ _ rfl (hRr _)
          -- 4: s87 := indexAddr 51 t4 t86
          apply rg_ev
          · intro a w hR hf
            obtain ⟨e4, e86, -⟩ := hf
            replace e4 : a.tmps.getD 4 undef = _ := e4
            replace e86 : a.tmps.getD 86 undef = _ := e86
            refine rg_plain rfl fun K hK => ?_
            go_simp
            exact hK _ _ rfl (hRr _)
          -- 5: s88 := load 47 t87
          apply rg_ev
          · intro a w hR hf
            obtain ⟨e87, -⟩ := hf
            replace e87 : a.tmps.getD 87 undef = _ := e87
            refine rg_plain rfl fun K hK => ?_
            have h5 := hR.cell hcb (by simp)
            go_simp
            exact hK _ _ rfl (hRr _)
          -- 6: s89 := call { value (Operand.func 22), args := #[t85, t88], #[24, 47] }
          apply rg_ev
          · intro a w hR hf
            obtain ⟨e85, e88, -⟩ := hf
            replace e85 : a.tmps.getD 85 undef = _ := e85
            replace e88 : a.tmps.getD 88 undef = _ := e88
            refine rg_plain rfl fun K hK => ?_
            go_simp
            (with_reducible refine (HWt.out w hR).mono ?_)
            rintro e w' ⟨rfl, he⟩
            exact hK _ _ rfl he
          -- 7: s90 := unOp Unnot 4 t89
          apply rg_ev
          · intro a w hR hf
            obtain ⟨e89, -⟩ := hf
            replace e89 : a.tmps.getD 89 undef = _ := e89
            refine rg_plain rfl fun K hK => ?_
            go_simp
            exact hK _ _ rfl (hRr _)
          intro f25 w25 hR25 hf
          dsimp only [mergeT]
          obtain ⟨e90, -⟩ := hf
          replace e90 : f25 90 = _ := e90
          rw [e90]
          -- R25>>
          have HS1 := Lib.hid (HS.out.only0 hR25)
          clear HS hR25 hca hcb
          go_wp2_with fail
          go_loopw [11] (fun a wr => ∃ (i : Nat) (P' : Nat → Pr), a = .int .i64 (i : Int) ∧ i ≤ 50 ∧ Hid (NS w0 wr ga gb P' (3000000000000 + 50 * k + i))) (fun a _ => 50 - (intOf a).toNat)
          case atStart => exact ⟨0, P, rfl, by omega, HS1⟩
          case round =>
            clear HS1 e90 hRd
            obtain ⟨i, P', rfl, hi, HS2⟩ := hrel
            have hca : wr.cell? ⟨ga, k, none⟩ = some (.pointer (some ⟨(P' k).B, 0, none⟩)) := HS2.out.ca hk2
            have hcb : wr.cell? ⟨gb, k, none⟩ = some (.pointer (some ⟨(P' k).Br, 0, none⟩)) := HS2.out.cb hk2
            have hpa : PA wr w0.heap.size (P' k).B (P' k).q (P' k).n (P' k).c (P' k).last (P' k).L (P' k).Br (P' k).qr (P' k).cr := HS2.out.pa k hk2
            have hcr := hpa.ref.st.cell (i := 0) rfl
            have hrl := hpa.ref.len
            have hn4 := hpa.n4
            by_cases hi5 : i < 50
            · have hii : (i : Int) < 50 := by omega
              by_cases hn0 : 0 < (P' k).n
              · obtain ⟨o, ho⟩ : ∃ o, (P' k).L[0]? = some o := ⟨_, List.getElem?_eq_getElem (by omega)⟩
                obtain ⟨gq, hq, hcn, -, -, -⟩ := hpa.ref.cell ho
                rw [Nat.zero_mul] at hcn
                rw [hq] at hcr
                have hna := (HS2.out.nd k hk2).1
                have hnb := (HS2.out.nd k hk2).2
                have hl1 := HS2.out.lim k hk2
                have hPl : ∀ w, Only [] wr w → Calls Tryd.prog 21 #[.pointer (some ⟨(P' k).B, 0, none⟩), .pointer (some ⟨(P' k).Br, 0, none⟩), .agg #[.int .i64 2, .int .i64 0, .int .i64 0, .int .i64 0, .int .i64 (o.n : Int), .slice none 0 0]] w fun e w' => e = .returned (.bool true) ∧ PlayEnd w w0.heap.size (P' k).B (P' k).q (P' k).last (P' k).L (P' k).Br (P' k).qr w' := by
                  intro w ho2
                  have hb := (hpa.rises.1 o (List.mem_of_getElem? ho)).2
                  exact play_any az ((HS2.out.only0 ho2).pa k hk2) HE.out (HS2.out.only.trans0 ho2) (Nat.le_refl _) HN.out HG.out HF.out 2 0 0 0 (o.n : Int) none 0 0 [] (by omega) rfl (by omega) (by simp) (Rd.nil _ _) (by simp) (by omega)
                have HPl := Lib.hid hPl
                have hni : (0 : Int) < ((P' k).n : Int) := by omega
                generalize (o.n : Int) = on at *
                generalize hPn : (P' k).n = n at *
                clear hPl hrl ho hpa hl1
                go_upto_region 30 with (fail)
                have hRr : ∀ a, Only (P' k).D a a := fun a => Only.refl _ _
                have hRt : ∀ a b e, Only (P' k).D a b → Only (P' k).D b e → Only (P' k).D a e := fun a b e h h2 => h.trans h2 (fun i hi _ => hi)
                have hRd : Only (P' k).D wr wr.drew := (Only.drew _).mono (by simp)
                have hC0 : ∀ d ∈ [16], (fun (_ : Nat) (a : World) => Only [] wr a) d wr.drew := fun _ _ => Only.drew _
                have hRs : ∀ (i : Nat) w, Dirt [(16, (P' k).D)] i w w := fun _ _ => Only.refl _ _
                -- <<R30
                refine wp_region_rg4 (Only (P' k).D) (Dirt [(16, (P' k).D)]) (fun (_ : Nat) (a : World) => Only [] wr a) [16] [[(10, none)], [(3, none), (105, some 0)], [(106, some 0)], [(10, none)], [(4, none), (108, some 0)], [(109, some 0)], [(10, none)], [(4, none), (111, some 0)], [(112, some 0)], [(113, some 0)], [(114, some 0)], [(115, some 0)], [(116, some 0)], [(117, some 0)], [(118, some 0)], [(119, some 0)], [(107, some 13), (110, some 10), (120, some 0)], [(121, some 0)]] [(122, 0)] [none, none, none, none, none, none, none, none, none, none, none, none, none, none, none, none, none, none, none, none, none, none, none, none, none, none, none, none, none, none, none, none, none, none, none, none, none, none, none, none, none, none, none, none, none, none, none, none, none, none, none, none, none, none, none, none, none, none, none, none, none, none, none, none, none, none, none, none, none, none, none, none, none, none, none, none, none, none, none, none, none, none, none, none, none, none, none, none, none, none, none, none, none, none, none, none, none, none, none, none, none, none, none, none, none, some 105, some 106, some 107, some 108, some 109, some 110, some 111, some 112, some 113, some 114, some 115, some 116, some 117, some 118, some 119, some 120, some 121, some 122, none] (by kernel_rfl) rfl (by kernel_rfl) hRr hRt (fun _ _ => Only.refl _ _) hRd hC0 (by kernel_rfl) (by kernel_rfl) ?_
                -- 0: s105 := move t10
                apply rgd_ev
                · intro a w hR hC hf
                  obtain ⟨e10, -⟩ := hf
                  replace e10 : a.tmps.getD 10 undef = _ := e10
                  refine rg_plain rfl fun K hK => ?_
                  go_simp
                  exact hK _ _ rfl ⟨hRr _, Only.refl _ _, fun _ _ _ _ h => h⟩
                -- 1: s106 := indexAddr 46 t3 t105
                apply rgd_ev
                · intro a w hR hC hf
                  obtain ⟨e3, e105, -⟩ := hf
                  replace e3 : a.tmps.getD 3 undef = _ := e3
                  replace e105 : a.tmps.getD 105 undef = _ := e105
                  refine rg_plain rfl fun K hK => ?_
                  go_simp
                  exact hK _ _ rfl ⟨hRr _, Only.refl _ _, fun _ _ _ _ h => h⟩
                -- 2: s107 := load 24 t106
                apply rgd_ev
                · intro a w hR hC hf
                  obtain ⟨e106, -⟩ := hf
                  replace e106 : a.tmps.getD 106 undef = _ := e106
                  refine rg_plain rfl fun K hK => ?_
                  have h2 := hR.cell hca hna
                  go_simp
                  exact hK _ _ rfl ⟨hRr _, Only.refl _ _, fun _ _ _ _ h => h⟩
                -- 3: s108 := move t10
                apply rgd_ev
                · intro a w hR hC hf
                  obtain ⟨e10, -⟩ := hf
                  replace e10 : a.tmps.getD 10 undef = _ := e10
                  refine rg_plain rfl fun K hK => ?_
                  go_simp
                  exact hK _ _ rfl ⟨hRr _, Only.refl _ _, fun _ _ _ _ h => h⟩
                -- 4: s109 := indexAddr 51 t4 t108
                apply rgd_ev
                · intro a w hR hC hf
                  obtain ⟨e4, e108, -⟩ := hf
                  replace e4 : a.tmps.getD 4 undef = _ := e4
                  replace e108 : a.tmps.getD 108 undef = _ := e108
                  refine rg_plain rfl fun K hK => ?_
                  go_simp
                  exact hK _ _ rfl ⟨hRr _, Only.refl _ _, fun _ _ _ _ h => h⟩
                -- 5: s110 := load 47 t109
                apply rgd_ev
                · intro a w hR hC hf
                  obtain ⟨e109, -⟩ := hf
                  replace e109 : a.tmps.getD 109 undef = _ := e109
                  refine rg_plain rfl fun K hK => ?_
                  have h5 := hR.cell hcb hnb
                  go_simp
                  exact hK _ _ rfl ⟨hRr _, Only.refl _ _, fun _ _ _ _ h => h⟩
                -- 6: s111 := move t10
                apply rgd_ev
                · intro a w hR hC hf
                  obtain ⟨e10, -⟩ := hf
                  replace e10 : a.tmps.getD 10 undef = _ := e10
                  refine rg_plain rfl fun K hK => ?_
                  go_simp
                  exact hK _ _ rfl ⟨hRr _, Only.refl _ _, fun _ _ _ _ h => h⟩
                -- 7: s112 := indexAddr 51 t4 t111
                apply rgd_ev
                · intro a w hR hC hf
                  obtain ⟨e4, e111, -⟩ := hf
                  replace e4 : a.tmps.getD 4 undef = _ := e4
                  replace e111 : a.tmps.getD 111 undef = _ := e111
                  refine rg_plain rfl fun K hK => ?_
                  go_simp
                  exact hK _ _ rfl ⟨hRr _, Only.refl _ _, fun _ _ _ _ h => h⟩
                -- 8: s113 := load 47 t112
                apply rgd_ev
                · intro a w hR hC hf
                  obtain ⟨e112, -⟩ := hf
                  replace e112 : a.tmps.getD 112 undef = _ := e112
                  refine rg_plain rfl fun K hK => ?_
                  have h8 := hR.cell hcb hnb
                  go_simp
                  exact hK _ _ rfl ⟨hRr _, Only.refl _ _, fun _ _ _ _ h => h⟩
                -- 9: s114 := nilCheck t113
                apply rgd_ev
                · intro a w hR hC hf
                  obtain ⟨e113, -⟩ := hf
                  replace e113 : a.tmps.getD 113 undef = _ := e113
                  refine rg_plain rfl fun K hK => ?_
                  go_simp
                  exact hK _ _ rfl ⟨hRr _, Only.refl _ _, fun _ _ _ _ h => h⟩
                -- 10: s115 := fieldAddr 50 t114 0
                apply rgd_ev
                · intro a w hR hC hf
                  obtain ⟨e114, -⟩ := hf
                  replace e114 : a.tmps.getD 114 undef = _ := e114
                  refine rg_plain rfl fun K hK => ?_
                  go_simp
                  exact hK _ _ rfl ⟨hRr _, Only.refl _ _, fun _ _ _ _ h => h⟩
                -- 11: s116 := load 48 t115
                apply rgd_ev
                · intro a w hR hC hf
                  obtain ⟨e115, -⟩ := hf
                  replace e115 : a.tmps.getD 115 undef = _ := e115
                  refine rg_plain rfl fun K hK => ?_
                  have h11 := (show Only [] wr w from hC 16 (by simp) (by kernel_rfl)).cell hcr (by simp)
                  go_simp
                  exact hK _ _ rfl ⟨hRr _, Only.refl _ _, fun _ _ _ _ h => h⟩
                -- 12: s117 := indexAddr 48 t116 (const (0:i64))
                apply rgd_ev
                · intro a w hR hC hf
                  obtain ⟨e116, -⟩ := hf
                  replace e116 : a.tmps.getD 116 undef = _ := e116
                  refine rg_plain rfl fun K hK => ?_
                  go_simp
                  exact hK _ _ rfl ⟨hRr _, Only.refl _ _, fun _ _ _ _ h => h⟩
                -- 13: s118 := fieldAddr 55 t117 0
                apply rgd_ev
                · intro a w hR hC hf
                  obtain ⟨e117, -⟩ := hf
                  replace e117 : a.tmps.getD 117 undef = _ := e117
                  refine rg_plain rfl fun K hK => ?_
                  go_simp
                  exact hK _ _ rfl ⟨hRr _, Only.refl _ _, fun _ _ _ _ h => h⟩
                -- 14: s119 := load 3 t118
                apply rgd_ev
                · intro a w hR hC hf
                  obtain ⟨e118, -⟩ := hf
                  replace e118 : a.tmps.getD 118 undef = _ := e118
                  refine rg_plain rfl fun K hK => ?_
                  have h14 := (show Only [] wr w from hC 16 (by simp) (by kernel_rfl)).cell hcn (by simp)
                  go_simp
                  exact hK _ _ rfl ⟨hRr _, Only.refl _ _, fun _ _ _ _ h => h⟩
                -- 15: s120 := build 29 #[(0, const (2:i64)), (4, t119)]
                apply rgd_ev
                · intro a w hR hC hf
                  obtain ⟨e119, -⟩ := hf
                  replace e119 : a.tmps.getD 119 undef = _ := e119
                  refine rg_plain rfl fun K hK => ?_
                  have e119' := e119
                  rw [Array.getD_eq_getD_getElem?] at e119'
                  go_simp
                  exact hK _ _ rfl ⟨hRr _, Only.refl _ _, fun _ _ _ _ h => h⟩
                -- 16: s121 := call { value (Operand.func 21), args := #[t107, t110, t120], #[24, 47, 29] }
                refine ⟨PlayV wr w0.heap.size (P' k), stands_of PlayV.stable (by intro y hy hk; obtain rfl := List.mem_singleton.1 hy; simp at hk), fun a w hR hC hf => ?_, ?_⟩
                · obtain ⟨e107, e110, e120, -⟩ := hf
                  replace e107 : a.tmps.getD 107 undef = _ := e107
                  replace e110 : a.tmps.getD 110 undef = _ := e110
                  replace e120 : a.tmps.getD 120 undef = _ := e120
                  refine rg_plain rfl fun K hK => ?_
                  have hC16 : Only [] wr w := hC 16 (by simp) (by kernel_rfl)
                  go_simp
                  (with_reducible refine (HPl.out w hC16).mono ?_)
                  rintro e w' ⟨rfl, he⟩
                  exact hK _ _ ⟨rfl, PlayEnd.from0 hC16 he⟩ ⟨PlayEnd.onlyD he, PlayEnd.onlyD he, fun i hi hne _ _ => absurd (List.mem_singleton.1 hi) hne⟩
                -- 17: s122 := unOp Unnot 4 t121
                apply rgd_ev
                · intro a w hR hC hf
                  obtain ⟨e121, -⟩ := hf
                  replace e121 : PlayV wr w0.heap.size (P' k) (a.tmps.getD 121 undef) w := e121
                  refine rg_plain rfl fun K hK => ?_
                  replace e121 := e121.1
                  go_simp
                  exact hK _ _ rfl ⟨hRr _, Only.refl _ _, fun _ _ _ _ h => h⟩
                intro f30 w30 hR30 hf hz30
                dsimp only [mergeT]
                obtain ⟨e122, -⟩ := hf
                replace e122 : f30 122 = _ := e122
                rw [e122]
                -- R30>>
                obtain ⟨v16, -, he⟩ := hz30 _ (List.mem_cons_of_mem _ (List.mem_cons_self ..))
                obtain ⟨P2, hS2, hD2⟩ := HS2.out.play hk2 he
                have HS3 := Lib.hid hS2
                clear hz30 hS2 hD2 he
                go_wp2_with fail
                refine ⟨⟨i + 1, P2, by go_num, by omega, HS3⟩, ?_⟩
                show 50 - ((i : Int) + 1).toNat < 50 - ((i : Int)).toNat
                omega
              · have hni : ¬ (0 : Int) < ((P' k).n : Int) := by omega
                generalize hPn : (P' k).n = n at *
                go_wp2_with fail
                refine ⟨⟨k + 1, P', by go_num, by omega, Lib.hid (HS2.out.mono (by omega))⟩, ?_⟩
                show 2 - ((k : Int) + 1).toNat < 2 - ((k : Int)).toNat
                omega
            · have hii : ¬ (i : Int) < 50 := by omega
              go_wp2_with fail
              refine ⟨⟨k + 1, P', by go_num, by omega, Lib.hid (HS2.out.mono (by omega))⟩, ?_⟩
              show 2 - ((k : Int) + 1).toNat < 2 - ((k : Int)).toNat
              omega
        · have hki : ¬ (k : Int) < 2 := by omega
          go_wp2_with fail
          go_ret
          exact ⟨rfl, HS.out.only⟩
end Go.Proofs.YtlgcclhepegggaaDoor
