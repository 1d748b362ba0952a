/- The walk of bollardref03.message. -/
import Derived.Test.YtmddehbfimpjdaaShaSumMath
set_option linter.unusedVariables false
namespace Go.Proofs.Ytmddehbfimpjdaa
open Go.RowKit

set_option maxRecDepth 100000 in
set_option maxHeartbeats 4000000 in
theorem message_any (p : Option Addr) (xs : List UInt8) (n c : Nat) (ww : World) (hn : xs.length = n) (hb : n + 80 ≤ 140737488355328) (hp : p = none → n = 0 ∧ c = 0) (hx : Rd ww p (u8s xs)) :
    Calls Try.prog 33 #[.slice p n c] ww fun e w' => ∃ p' m c', e = .returned (.slice p' m c') ∧ Own w' ww.heap.size 5 (.slice p' m c') (u8s (xs ++ tailB n)) ∧ Only [] ww w' := by
  obtain ⟨wa, hwa⟩ : ∃ wa, wa = ww.alloc (.cells #[] 5) := ⟨_, rfl⟩
  have hoa : Only [] ww wa := by rw [hwa]; exact Only.alloc _ _
  have owa : Own wa ww.heap.size 5 (.slice (some ⟨ww.heap.size, 0, none⟩) 0 0) [] := by
    rw [hwa]; exact Own.ofRow (vs := []) (rest := []) (Nat.le_refl _) (Row.new ww 5 []) rfl (by omega)
  obtain ⟨p1, c1, w1, hr1, o1, h1, hp1⟩ := append_owned (P := Try.prog) (n := 0) (m := n) (c := c) (bytes := 1) (q := p) (news := u8s xs) (t := 22) (ty := 22) wa Try.underlying22 infoU8s rfl owa (hx.only0 hoa) (by rw [u8s_length, hn]) hp (fun v hv => u8s_one hv) (by omega) (by omega) hoa.size
  rw [Nat.zero_add] at hr1 o1
  rw [List.nil_append] at o1
  have ho1 : Only [] ww w1 := hoa.transN h1 (by simp [blk])
  obtain ⟨p2, c2, w2, Hr2, o2, h2⟩ := push1 w1 ww.heap.size p1 n c1 xs 128 o1 (by omega) ho1.size
  have ho2 : Only [] ww w2 := ho1.transN h2 o1.blk
  have Hr1 := Lib.hid hr1
  have O2 := Lib.hid o2
  have Ho2 := Lib.hid ho2
  have Hn := Lib.hid hn
  clear hr1 h1 hp1 h2 ho1 owa o1 o2 ho2 hx hn hoa
  subst hwa
  go_enter Try.func33, Try.ntmps33
  go_wp2_with (first | (at_builtin; refine wpl_append (s := .tmp 6) (x := .tmp 7) rfl rfl rfl rfl Hr1.out ?_) | (at_builtin; refine wpl_append (s := .tmp 8) (x := .tmp 9) rfl rfl rfl rfl Hr2.out ?_))
  obtain ⟨zz, hzz⟩ : ∃ zz, zz = zeros n := ⟨_, rfl⟩
  have hz1 : 0 + (120 - (n + 1 + 0) % 64) % 64 = zz := by rw [hzz]; unfold zeros; omega
  have Hzz := Lib.hid hzz
  clear hzz Hr1 Hr2
  go_loopw [3] (fun v wr => ∃ (k : Nat) (p : Option Addr) (c : Nat), v = .slice p (n + 1 + k) c ∧ Hid (k + (120 - (n + 1 + k) % 64) % 64 = zz) ∧ Hid (Own wr ww.heap.size 5 (.slice p (n + 1 + k) c) (u8s (xs ++ [128] ++ List.replicate k 0))) ∧ Hid (Only [] ww wr)) (fun v _ => match v with | .slice _ n _ => (120 - n % 64) % 64 | _ => 0)
  case atStart => exact ⟨0, p2, c2, rfl, Lib.hid hz1, Lib.hid (by simpa using O2.out), Ho2⟩
  case round =>
    clear O2 Ho2 hz1
    obtain ⟨k, p, c, rfl, hk, O, Ho⟩ := hrel
    have hkz : k ≤ zz := by have := hk.out; omega
    have hzl : zz < 64 := by rw [Hzz.out]; unfold zeros; omega
    by_cases h56 : (n + 1 + k) % 64 = 56
    · have hd : (((n : Int) + 1 + (k : Int)) % 64 != 56) = false := by
        have : ((n : Int) + 1 + (k : Int)) % 64 = 56 := by omega
        rw [this]; rfl
      obtain rfl : k = zz := by have := hk.out; omega
      have hu1 : IntKind.u64.wrap (n : Int) = (n : Int) := by simp [IntKind.wrap, IntKind.bits, IntKind.signed]; omega
      obtain ⟨M, hM⟩ : ∃ M, M = 8 * n := ⟨_, rfl⟩
      have hu2 : IntKind.u64.wrap ((n : Int) * 8) = (M : Int) := by simp [IntKind.wrap, IntKind.bits, IntKind.signed]; omega
      have hMb : M < 18446744073709551616 := by omega
      have HM := Lib.hid hM
      clear hM hk
      go_wp2_with fail
      have hE : xs ++ [128] ++ List.replicate k 0 ++ be64 M = xs ++ tailB n := by
        rw [HM.out]; unfold tailB; rw [← Hzz.out]; simp
      generalize xs ++ [128] ++ List.replicate k 0 = E at O hE
      obtain ⟨e, he⟩ : ∃ e, e = n + 1 + k := ⟨_, rfl⟩
      rw [← he] at O ⊢
      have hel : e + 8 ≤ 140737488355328 := by omega
      have HE := Lib.hid hE
      have hBt : (be64 M).length = 8 := rfl
      obtain ⟨T, hT⟩ : ∃ T, T = be64 M := ⟨_, rfl⟩
      rw [← hT] at hBt HE
      have HT := Lib.hid hT
      have HBt := Lib.hid hBt
      clear hE hT hBt hu1 hu2
      go_loopw [3, 5] (fun v i wr => ∃ (q : Nat) (p : Option Addr) (c : Nat), v = .slice p (e + q) c ∧ i = .int .i64 (q : Int) ∧ q ≤ 8 ∧ Hid (Own wr ww.heap.size 5 (.slice p (e + q) c) (u8s (E ++ T.take q))) ∧ Hid (Only [] ww wr)) (fun v i _ => 8 - (intOf i).toNat)
      case atStart => exact ⟨0, p, c, rfl, rfl, by omega, Lib.hid (by simpa using O.out), Ho⟩
      case round =>
        clear O Ho he
        obtain ⟨q, p, c, rfl, rfl, hq, O, Ho⟩ := hrel
        by_cases hq8 : q < 8
        · obtain ⟨x, hx⟩ : ∃ x, T[q]? = some x := ⟨_, List.getElem?_eq_getElem (by rw [HBt.out]; exact hq8)⟩
          obtain ⟨p', c', w2, Hr, O', h'⟩ := push1 wr ww.heap.size p (e + q) c _ x O.out (by omega) Ho.out.size
          have O' := Lib.hid O'
          have Ho' := Lib.hid (Ho.out.transN h' O.out.blk)
          have hq8' : (q : Int) < 8 := by omega
          have hi1 : (0 : Int) ≤ 56 - 8 * (q : Int) := by omega
          have hwne : ¬ IntKind.u64.wrap ((2 : Int) ^ (56 - 8 * q)) = 0 := by
            rcases (by omega : q = 0 ∨ q = 1 ∨ q = 2 ∨ q = 3 ∨ q = 4 ∨ q = 5 ∨ q = 6 ∨ q = 7) with rfl | rfl | rfl | rfl | rfl | rfl | rfl | rfl <;> decide
          have hxv : IntKind.u64.wrap ((M : Int) / IntKind.u64.wrap (2 ^ (56 - 8 * q))) % 256 = (x.toNat : Int) := by
            have h := be64_at M q x hq8 (by rw [← HT.out]; exact hx)
            have hw : IntKind.u64.wrap ((2 : Int) ^ (56 - 8 * q)) = 2 ^ (56 - 8 * q) := by
              rcases (by omega : q = 0 ∨ q = 1 ∨ q = 2 ∨ q = 3 ∨ q = 4 ∨ q = 5 ∨ q = 6 ∨ q = 7) with rfl | rfl | rfl | rfl | rfl | rfl | rfl | rfl <;> decide
            have hq1 : (1 : Int) ≤ 2 ^ (56 - 8 * q) := by
              rcases (by omega : q = 0 ∨ q = 1 ∨ q = 2 ∨ q = 3 ∨ q = 4 ∨ q = 5 ∨ q = 6 ∨ q = 7) with rfl | rfl | rfl | rfl | rfl | rfl | rfl | rfl <;> decide
            have h0 : 0 ≤ (M : Int) / 2 ^ (56 - 8 * q) := Int.ediv_nonneg (by omega) (by omega)
            have h1 : (M : Int) / 2 ^ (56 - 8 * q) ≤ M := Int.ediv_le_self _ (by omega)
            have hw2 : IntKind.u64.wrap ((M : Int) / 2 ^ (56 - 8 * q)) = (M : Int) / 2 ^ (56 - 8 * q) := by
              obtain ⟨z, hz⟩ : ∃ z : Nat, (M : Int) / 2 ^ (56 - 8 * q) = (z : Int) := ⟨((M : Int) / 2 ^ (56 - 8 * q)).toNat, by omega⟩
              rw [hz] at h1 ⊢
              simp [IntKind.wrap, IntKind.bits, IntKind.signed]; omega
            rw [hw, hw2]; exact h
          have Hx := Lib.hid hx
          clear hx h' O Ho
          go_wp2_with (first | (at_builtin; refine wpl_append (s := .tmp 26) (x := .tmp 35) rfl rfl rfl rfl Hr.out ?_))
          refine ⟨⟨q + 1, p', c', by rw [Nat.add_assoc e], by go_num, by omega, Lib.hid ?_, Ho'⟩, by simp [intOf]; omega⟩
          rw [List.take_add_one, Hx.out, ← Nat.add_assoc, ← List.append_assoc]
          exact O'.out
        · obtain rfl : q = 8 := by omega
          go_wp2_with fail
          go_ret
          refine ⟨p, e + 8, c, rfl, ?_, Ho.out⟩
          have := O.out
          rw [List.take_of_length_le (by rw [HBt.out]; exact Nat.le_refl _), HE.out] at this
          exact this
    · have hd : (((n : Int) + 1 + (k : Int)) % 64 != 56) = true := by
        have : ((n : Int) + 1 + (k : Int)) % 64 ≠ 56 := by omega
        simpa using this
      obtain ⟨p', c', w2, Hr, O', h'⟩ := push1 wr ww.heap.size p (n + 1 + k) c _ 0 O.out (by omega) Ho.out.size
      have O2 := Lib.hid O'
      have Ho' := Lib.hid (Ho.out.transN h' O.out.blk)
      clear O' h'
      go_wp2_with (first | (at_builtin; refine wpl_append (s := .tmp 15) (x := .tmp 16) rfl rfl rfl rfl Hr.out ?_))
      go_roundw
      case rel => exact ⟨k + 1, p', c', by rw [Nat.add_assoc (n + 1)], Lib.hid (by have := hk.out; omega), Lib.hid (by rw [← Nat.add_assoc, List.replicate_succ']; rw [← List.append_assoc]; exact O2.out), Ho'⟩
      case measure => simp; omega
end Go.Proofs.Ytmddehbfimpjdaa
