/- The walks of bollardref05: Sum, Seal, Open. -/
import Derived.Test.YtkhccchjflmcmaaDoorSealMath
import Derived.Test.YtkhccchjflmcmaaDoorErrs
set_option linter.unusedVariables false
namespace Go.Proofs.YtkhccchjflmcmaaDoor
open Go.RowKit

theorem ref_step (a : UInt32) (c : UInt8) : (IntKind.u64.wrap (bits .xor .u64 (a.toNat : Int) (IntKind.u64.wrap (c.toNat : Int)) * 16777619)).tmod 4294967296 = (((a ^^^ c.toUInt32) * 16777619).toNat : Int) := by
  have ha := a.toNat_lt
  have hc := c.toNat_lt
  rw [u64_wrap_nat _ (by omega), u64_xor_nat _ _ (by omega) (by omega)]
  have e : (a.toNat ^^^ c.toNat) = (a ^^^ c.toUInt32).toNat := by rw [UInt32.toNat_xor, UInt8.toNat_toUInt32]
  rw [e]
  have hx := (a ^^^ c.toUInt32).toNat_lt
  generalize a ^^^ c.toUInt32 = x at hx
  rw [show ((x.toNat : Int) * 16777619) = ((x.toNat * 16777619 : Nat) : Int) by simp, u64_wrap_nat _ (by omega), Int.tmod_eq_emod_of_nonneg (by omega)]
  have := u32_mul_u32 x 16777619
  rw [← this]
  simp

theorem refSum_any (p : Option Addr) (xs : List UInt8) (n c : Nat) (w : World) (hn : xs.length = n) (hb : n ≤ 9223372036854775807) (hp : p = none → n = 0 ∧ c = 0) (hx : Rd w p (u8s xs)) :
    Calls Tryd.prog 35 #[.slice p n c] w fun e w' => e = .returned (.int .u32 ((wsum 2166136261 xs).toNat : Int)) ∧ w = w' := by
  go_enter Tryd.func35, Tryd.ntmps35
  go_wp2_with fail
  go_loop [8, 3] (fun i s => ∃ (j : Nat) (a : UInt32), j ≤ n ∧ i = .int .i64 (j : Int) ∧ s = .int .u64 (a.toNat : Int) ∧ wsum a (xs.drop j) = wsum 2166136261 xs) (fun i _ => n - (intOf i).toNat)
  case atStart => exact ⟨0, 2166136261, Nat.zero_le _, rfl, rfl, rfl⟩
  case round =>
    obtain ⟨j, a, hj, rfl, rfl, hs⟩ := hrel
    by_cases hlt : j < n
    · obtain ⟨b, off, rfl, hyc⟩ := hx.bytes (by omega)
      have hc1 := hyc j (by omega)
      have Hs := Lib.hid hs
      clear hyc hs
      go_wp2_with fail
      go_round
      case rel =>
        refine ⟨j + 1, (a ^^^ xs[j].toUInt32) * 16777619, by omega, by go_num, ?_, ?_⟩
        · exact congrArg _ (ref_step a _)
        · rw [← Hs.out, ← List.getElem_cons_drop (by omega : j < xs.length)]; rfl
      case measure => simp [intOf]; omega
    · obtain rfl : j = n := by omega
      go_wp2_with fail
      go_ret
      rw [List.drop_of_length_le (by omega)] at hs
      exact ⟨by rw [← hs]; exact congrArg (fun z => Ending.returned (.int .u32 z)) (by have := a.toNat_lt; show (a.toNat : Int) % 4294967296 = (a.toNat : Int); omega), rfl⟩

theorem refSeal_any (p : Option Addr) (xs : List UInt8) (n c : Nat) (w : World) (hn : xs.length = n) (hb : n ≤ 140737488351232) (hp : p = none → n = 0 ∧ c = 0) (hx : Rd w p (u8s xs)) :
    Calls Tryd.prog 36 #[.slice p n c] w fun e w' => ∃ p' c', e = .returned (.slice p' (n + 4) c') ∧ Own w' w.heap.size 5 (.slice p' (n + 4) c') (u8s (sealB xs)) ∧ Only [] w w' := by
  have hsum := refSum_any p xs n c w hn (by omega) hp hx
  have hsb := sb_cells (wsum 2166136261 xs)
  have on := Only.alloc w (.cells #[] 5)
  have rn := Row.new w 5 []
  have ow : Own (w.alloc (.cells #[] 5)) w.heap.size 5 (.slice (some ⟨w.heap.size, 0, none⟩) 0 0) [] := Own.ofRow (vs := []) (rest := []) (Nat.le_refl _) rn rfl (by omega)
  obtain ⟨p1, c1, w1, hr1, o1, h1, hp1⟩ := append_owned (P := Tryd.prog) (n := 0) (m := n) (c := c) (bytes := 1) (q := p) (news := u8s xs) (t := 26) (ty := 26) _ Tryd.underlying26 Tryd.infoU8 rfl ow (hx.only0 on) (by rw [u8s_length, hn]) hp (fun v hv => u8s_one hv) (by omega) (by omega) on.size
  rw [Nat.zero_add] at hr1 o1
  have h01 : Only [] w w1 := on.transN h1 (by simp [blk])|>.drop (by simp)
  have o2 := Only.alloc w1 (.cells (u8s (sb (wsum 2166136261 xs))).toArray 5)
  have r2 := Row.new w1 5 (u8s (sb (wsum 2166136261 xs)))
  obtain ⟨p3, c3, w3, hr3, o3, h3, hp3⟩ := append_owned (P := Tryd.prog) (n := n) (m := 4) (c := 4) (bytes := 1) (q := some ⟨w1.heap.size, 0, none⟩) (news := u8s (sb (wsum 2166136261 xs))) (t := 26) (ty := 26) _ Tryd.underlying26 Tryd.infoU8 rfl (o1.only0 o2) r2.rd0 (by rfl) (by simp) (fun v hv => u8s_one hv) (by omega) (by omega) (by have := h01.size; have := o2.size; omega)
  rw [hsb] at hr3
  have Hr1 := Lib.hid hr1
  have Hr3 := Lib.hid hr3
  have hfin : Only [] w w3 := (h01.trans0 o2).transN h3 (fun i hi => by
    cases p1 with
    | none => simp [blk] at hi
    | some a => simp [blk] at hi; subst hi; exact (o1.lt _ rfl).1)
  have ofin : Own w3 w.heap.size 5 (.slice p3 (n + 4) c3) (u8s (sealB xs)) := by
    rw [sealB, u8s_append]; simpa using o3
  clear hr1 hr3 hsb hn hp on rn ow h1 hp1 h3 hp3 o1 o2 r2 o3
  go_enter Tryd.func36, Tryd.ntmps36
  go_wp2_with fail
  refine hsum.mono ?_
  rintro e w' ⟨rfl, rfl⟩
  go_wp2_with (first | (at_builtin; refine wpl_append (s := .tmp 6) (x := .tmp 7) rfl rfl rfl rfl Hr1.out ?_) | (at_builtin; refine wpl_append (s := .tmp 8) (x := .tmp 20) rfl rfl rfl rfl Hr3.out ?_))
  go_ret
  exact ⟨p3, c3, rfl, ofin, hfin⟩

/-- a slice that reads as the bytes xs -/
def IsBy (xs : List UInt8) (n : Nat) : Value → World → Prop := fun v w => xs.length = n ∧ ∃ p k, v = .slice p n k ∧ Rd w p (u8s xs) ∧ (p = none → n = 0 ∧ k = 0)
theorem IsBy.stable (xs : List UInt8) (n : Nat) : Stable (Only []) (IsBy xs n) := fun v w w' ⟨h1, p, k, h2, h3, h4⟩ ho => ⟨h1, p, k, h2, h3.only0 ho, h4⟩

theorem refOpen_short (p : Option Addr) (n c : Nat) (w : World) (h4 : n < 4) :
    Calls Tryd.prog 33 #[.slice p n c] w fun e w' => e = .returned (.tuple #[.slice none 0 0, .int .i64 5]) ∧ w = w' := by
  go_enter Tryd.func33, Tryd.ntmps33
  go_wp2_with fail
  go_ret2
  exact ⟨rfl, rfl⟩

theorem refOpen_long (p : Option Addr) (xs : List UInt8) (n c : Nat) (b : Bool) (w : World) (hn : xs.length = n) (hnc : n ≤ c) (hb : n ≤ 140737488351232) (hc63 : c ≤ 9223372036854775807) (hx : Rd w p (u8s xs)) (h4 : 4 ≤ n) (hbb : (sealB (xs.take (n - 4)) == xs) = b) :
    Calls Tryd.prog 33 #[.slice p n c] w fun e w' => (if b then ∃ p' c', e = .returned (.tuple #[.slice p' (n - 4) c', .int .i64 0]) ∧ Own w' w.heap.size 5 (.slice p' (n - 4) c') (u8s (xs.take (n - 4))) else e = .returned (.tuple #[.slice none 0 0, .int .i64 6])) ∧ Only [] w w' := by
  obtain ⟨k, rfl⟩ : ∃ k, n = k + 4 := ⟨n - 4, by omega⟩
  rw [Nat.add_sub_cancel] at hbb ⊢
  obtain ⟨b0, off, rfl, _⟩ := hx.bytes (by omega)
  have hxk : Rd w (some ⟨b0, off, none⟩) (u8s (xs.take k)) := by rw [← u8s_take]; exact hx.take k
  have hlk : (xs.take k).length = k := by rw [List.length_take]; omega
  have Hn := Lib.hid hn
  have Hbb := Lib.hid hbb
  have Hlk := Lib.hid hlk
  clear hn hbb hlk
  go_enter Tryd.func33, Tryd.ntmps33
  go_wp2_with fail
  -- <<r4
  refine wp_region_rg2 (Only []) [[(0, none)], [(4, none)], [(4, none)], [(11, some 2), (12, some 1), (13, some 0)], [(14, some 0)], [(15, some 0)], [(0, none)], [(17, some 0)], [(16, some 2), (18, some 0)]] [(19, 0)] [none, none, none, none, none, none, none, none, none, none, none, some 11, some 12, some 13, some 14, some 15, some 16, some 17, some 18, some 19, none, none, none, none, none] (by kernel_rfl) rfl (by kernel_rfl) (fun _ => Only.refl _ _) (fun _ _ _ h k => h.trans0 k) (Only.drew _) (by kernel_rfl) ?_
  -- 0: s11 := move t0
  apply rg_ev
  · intro a w hR hf
    obtain ⟨e0, -⟩ := hf
    replace e0 : a.tmps.getD 0 undef = _ := e0
    refine rg_plain rfl fun K hK => ?_
    go_simp
    exact hK _ _ rfl (Only.refl _ _)
  -- 1: s12 := move t4
  apply rg_ev
  · intro a w hR hf
    obtain ⟨e4, -⟩ := hf
    replace e4 : a.tmps.getD 4 undef = _ := e4
    refine rg_plain rfl fun K hK => ?_
    go_simp
    exact hK _ _ rfl (Only.refl _ _)
  -- 2: s13 := move t4
  apply rg_ev
  · intro a w hR hf
    obtain ⟨e4, -⟩ := hf
    replace e4 : a.tmps.getD 4 undef = _ := e4
    refine rg_plain rfl fun K hK => ?_
    go_simp
    exact hK _ _ rfl (Only.refl _ _)
  -- 3: s14 := slice 26 t11 none (some t12) (some t13)
  apply rg_ev
  · intro a w hR hf
    obtain ⟨e11, e12, e13, -⟩ := hf
    replace e11 : a.tmps.getD 11 undef = _ := e11
    replace e12 : a.tmps.getD 12 undef = _ := e12
    replace e13 : a.tmps.getD 13 undef = _ := e13
    refine rg_plain rfl fun K hK => ?_
    have hkc : k ≤ c := by omega
    go_simp
    exact hK _ _ rfl (Only.refl _ _)
  -- 4: s15 := call { value (Operand.func 36), args := #[t14], #[26] }
  refine ⟨IsBy (sealB (xs.take k)) (k + 4), IsBy.stable _ _, fun a w hR hf => ?_, ?_⟩
  · obtain ⟨e14, -⟩ := hf
    replace e14 : a.tmps.getD 14 undef = _ := e14
    refine rg_plain rfl fun K hK => ?_
    go_simp
    (with_reducible refine (refSeal_any (some ⟨b0, off, none⟩) (xs.take k) k k w Hlk.out (by omega) (by simp) (hxk.only0 hR)).mono ?_)
    rintro e w' ⟨p', c', rfl, o, h⟩
    obtain ⟨v1, v2, v3, _⟩ := o.view
    exact hK _ _ ⟨by rw [sealB_length, Hlk.out], p', c', rfl, v1, v3⟩ h
  -- 5: s16 := convert 26 9 t15
  apply rg_ev
  · intro a w hR hf
    obtain ⟨e15, -⟩ := hf
    replace e15 : IsBy (sealB (xs.take k)) (k + 4) (a.tmps.getD 15 undef) w := e15
    refine rg_plain rfl fun K hK => ?_
    obtain ⟨l15, p15, k15, e15, r15, n15⟩ := e15
    have hc := conv_bytes (P := Tryd.prog) w Tryd.underlying26 Tryd.underlying5 Tryd.underlying9 r15 l15 n15
    clear l15 n15
    go_simp
    exact hK _ _ rfl (Only.refl _ _)
  -- 6: s17 := move t0
  apply rg_ev
  · intro a w hR hf
    obtain ⟨e0, -⟩ := hf
    replace e0 : a.tmps.getD 0 undef = _ := e0
    refine rg_plain rfl fun K hK => ?_
    go_simp
    exact hK _ _ rfl (Only.refl _ _)
  -- 7: s18 := convert 26 9 t17
  apply rg_ev
  · intro a w hR hf
    obtain ⟨e17, -⟩ := hf
    replace e17 : a.tmps.getD 17 undef = _ := e17
    refine rg_plain rfl fun K hK => ?_
    have hc := conv_bytes (P := Tryd.prog) (c := c) w Tryd.underlying26 Tryd.underlying5 Tryd.underlying9 (hx.only0 hR) Hn.out (by simp)
    go_simp
    exact hK _ _ rfl (Only.refl _ _)
  -- 8: s19 := binOp Binneq 9 t16 t18 9
  apply rg_ev
  · intro a w hR hf
    obtain ⟨e16, e18, -⟩ := hf
    replace e16 : a.tmps.getD 16 undef = _ := e16
    replace e18 : a.tmps.getD 18 undef = _ := e18
    refine rg_plain rfl fun K hK => ?_
    have hb2 := Hbb.out
    go_simp
    exact hK _ _ rfl (Only.refl _ _)
  intro f4 w4 hR4 hf
  dsimp only [mergeT]
  obtain ⟨e19, -⟩ := hf
  replace e19 : f4 19 = _ := e19
  rw [e19]
  -- r4>>
  cases b
  · skip
    go_wp2_with fail
    go_ret2
    exact ⟨by simp, hR4⟩
  · have on := Only.alloc w4 (.cells #[] 5)
    have rn := Row.new w4 5 []
    have ow : Own (w4.alloc (.cells #[] 5)) w4.heap.size 5 (.slice (some ⟨w4.heap.size, 0, none⟩) 0 0) [] := Own.ofRow (vs := []) (rest := []) (Nat.le_refl _) rn rfl (by omega)
    obtain ⟨p1, c1, w1, hr1, o1, h1, hp1⟩ := append_owned (P := Tryd.prog) (n := 0) (m := k) (c := c) (bytes := 1) (q := some ⟨b0, off, none⟩) (news := u8s (xs.take k)) (t := 26) (ty := 26) _ Tryd.underlying26 Tryd.infoU8 rfl ow ((hxk.only0 hR4).only0 on) (by rw [u8s_length, Hlk.out]) (by simp) (fun v hv => u8s_one hv) (by omega) (by omega) on.size
    rw [Nat.zero_add] at hr1 o1
    have h01 : Only [] w4 w1 := on.transN h1 (by simp [blk])|>.drop (by simp)
    have hkc : k ≤ c := by omega
    have Hr := Lib.hid hr1
    clear hr1 on rn ow h1 hp1
    go_wp2_with (first | (at_builtin; refine wpl_append (s := .tmp 20) (x := .tmp 23) rfl rfl rfl rfl Hr.out ?_))
    go_ret2
    refine ⟨?_, hR4.trans0 h01⟩
    exact ⟨p1, c1, rfl, o1.weaken hR4.size⟩
end Go.Proofs.YtkhccchjflmcmaaDoor
