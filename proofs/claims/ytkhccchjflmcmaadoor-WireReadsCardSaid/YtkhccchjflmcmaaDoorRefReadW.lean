/- The walk of bollardref05.Read. -/
import Derived.Test.YtkhccchjflmcmaaDoorRefNumW
set_option linter.unusedVariables false
namespace Go.Proofs.YtkhccchjflmcmaaDoor
open Go.RowKit

set_option maxRecDepth 100000 in
theorem refRead_any (w : World) (p : Option Addr) (xs : List UInt8) (n c pl : Nat) (hn : xs.length = n) (hnc : n ≤ c) (hb : n ≤ 140737488351232) (hc63 : c ≤ 9223372036854775807) (hp : p = none → n = 0 ∧ c = 0) (hx : Rd w p (u8s xs)) (hpl : pl ≤ n) :
    Calls Tryd.prog 40 #[.slice p n c, .int .i64 (pl : Int)] w fun e w' => NumAns xs pl e ∧ Only [] w w' := by
  go_enter Tryd.func40, Tryd.ntmps40
  go_wp2_with fail
  go_loop [7] (fun i => ∃ k : Nat, k ≤ 9 ∧ i = .int .i64 ((pl : Int) + (k : Int)) ∧ Hid (∀ q x, q < k → (xs.drop pl)[q]? = some x → 128 ≤ x.toNat) ∧ Hid (pl + k ≤ n)) (fun i => 9 - (intOf i - pl).toNat)
  case atStart => exact ⟨0, by omega, by simp, fun q x hq => by omega, by show _ ≤ _; omega⟩
  case round =>
    obtain ⟨k, hk, rfl, Hk, Hl⟩ := hrel
    by_cases h9 : k < 9
    · by_cases hlt : pl + k < n
      · obtain ⟨b0, off, rfl, hyc⟩ := hx.bytes (by omega)
        have hxk : (xs.drop pl)[k]? = some xs[pl + k] := by rw [List.getElem?_drop, List.getElem?_eq_getElem (by omega)]
        have hc1 := hyc (pl + k) (by omega)
        generalize xs[pl + k] = x at hxk hc1
        have Hxk := Lib.hid hxk
        clear hxk
        by_cases h128 : 128 ≤ x.toNat
        · clear hyc
          go_wp2_with fail
          refine ⟨⟨k + 1, by omega, by go_num, Lib.hid ?_, Lib.hid (by omega)⟩, by simp [intOf]; omega⟩
          intro q y hq hy
          by_cases e : q = k
          · subst e
            rw [Hxk.out] at hy
            obtain rfl := Option.some.inj hy
            exact h128
          · exact Hk.out q y (by omega) hy
        · have hlo : x.toNat < 128 := by omega
          clear h128
          have hys : ((xs.drop pl).take (k + 1)).length = k + 1 := by rw [List.length_take, List.length_drop]; omega
          have hcells : ∀ m (hm : m < k + 1), ∃ y : UInt8, ((xs.drop pl).take (k + 1))[m]? = some y ∧ w.cell? ⟨b0, off + (pl + m), none⟩ = some (.int .u8 (y.toNat : Int)) := by
            intro m hm
            refine ⟨xs[pl + m], ?_, hyc (pl + m) (by omega)⟩
            rw [List.getElem?_take, if_pos hm, List.getElem?_drop, List.getElem?_eq_getElem (by omega)]
          have Hys := Lib.hid hys
          clear hyc hys
          go_wp2_with fail
          go_loop [9, 8] (fun i s => ∃ m : Nat, m ≤ k + 1 ∧ i = .int .i64 ((pl : Int) + (m : Int) - 1) ∧ s = .int .i64 (val7 (((xs.drop pl).take (k + 1)).drop m) : Int)) (fun i _ => (intOf i - pl + 1).toNat)
          case atStart => exact ⟨k + 1, Nat.le_refl _, by go_num, by rw [List.drop_of_length_le (by rw [Hys.out]; omega)]; rfl⟩
          case round =>
            obtain ⟨m, hm, rfl, rfl⟩ := hrel
            cases m with
            | zero =>
              clear hcells
              go_wp2_with fail
              generalize hz : (xs.drop pl).take (k + 1) = ys at Hys
              have Hz := Lib.hid hz
              have rdk : Rd w (some ⟨b0, off + pl, none⟩) (u8s ys) := by rw [← hz, ← u8s_take, ← u8s_drop]; exact (hx.skip pl).take _
              have hlim : val7 ys < 9223372036854775808 := by
                have := val7_lim ys 0 (by rw [Hys.out]; omega)
                exact this
              generalize hbb : (nb (val7 ys) == ys) = bb
              have Hbb := Lib.hid hbb
              generalize hv : val7 ys = v at hlim Hbb
              have Hv := Lib.hid hv
              clear hz hbb hv
              -- <<r10
              refine wp_region_rg2 (Only []) [[(8, none)], [(43, some 0)], [(44, some 0)], [(0, none)], [(1, none)], [(7, none)], [(48, some 0)], [(46, some 3), (47, some 2), (49, some 0)], [(50, some 0)], [(45, some 6), (51, some 0)]] [(52, 0)] [none, none, none, none, none, none, none, none, none, none, none, none, none, none, none, none, none, none, none, none, none, none, none, none, none, none, none, none, none, none, none, none, none, none, none, none, none, none, none, none, none, none, none, some 43, some 44, some 45, some 46, some 47, some 48, some 49, some 50, some 51, some 52, none, none, none] (by kernel_rfl) rfl (by kernel_rfl) (fun _ => Only.refl _ _) (fun _ _ _ h k => h.trans0 k) (Only.drew _) (by kernel_rfl) ?_
              -- 0: s43 := move t8
              apply rg_ev
              · intro a w hR hf
                obtain ⟨e8, -⟩ := hf
                replace e8 : a.tmps.getD 8 undef = _ := e8
                refine rg_plain rfl fun K hK => ?_
                go_simp
                exact hK _ _ rfl (Only.refl _ _)
              -- 1: s44 := call { value (Operand.func 15), args := #[t43], #[3] }
              refine ⟨IsBy (nb v) (nb v).length, IsBy.stable _ _, fun a w hR hf => ?_, ?_⟩
              · obtain ⟨e43, -⟩ := hf
                replace e43 : a.tmps.getD 43 undef = _ := e43
                refine rg_plain rfl fun K hK => ?_
                go_simp
                (with_reducible refine (refNum_any w v hlim).mono ?_)
                rintro e w' ⟨p', c', rfl, o, h⟩
                obtain ⟨v1, v2, v3, _⟩ := o.view
                exact hK _ _ ⟨rfl, p', c', rfl, v1, v3⟩ h
              -- 2: s45 := convert 26 9 t44
              apply rg_ev
              · intro a w hR hf
                obtain ⟨e44, -⟩ := hf
                replace e44 : IsBy (nb v) (nb v).length (a.tmps.getD 44 undef) w := e44
                refine rg_plain rfl fun K hK => ?_
                obtain ⟨l44, p44, k44, e44, r44, n44⟩ := e44
                have hc := conv_bytes (P := Tryd.prog) (c := k44) w Tryd.underlying26 Tryd.underlying5 Tryd.underlying9 r44 l44 n44
                clear l44 n44
                go_simp
                exact hK _ _ rfl (Only.refl _ _)
              -- 3: s46 := move t0
              apply rg_ev
              · intro a w hR hf
                obtain ⟨e0, -⟩ := hf
                replace e0 : a.tmps.getD 0 undef = _ := e0
                refine rg_plain rfl fun K hK => ?_
                go_simp
                exact hK _ _ rfl (Only.refl _ _)
              -- 4: s47 := move t1
              apply rg_ev
              · intro a w hR hf
                obtain ⟨e1, -⟩ := hf
                replace e1 : a.tmps.getD 1 undef = _ := e1
                refine rg_plain rfl fun K hK => ?_
                go_simp
                exact hK _ _ rfl (Only.refl _ _)
              -- 5: s48 := move t7
              apply rg_ev
              · intro a w hR hf
                obtain ⟨e7, -⟩ := hf
                replace e7 : a.tmps.getD 7 undef = _ := e7
                refine rg_plain rfl fun K hK => ?_
                go_simp
                exact hK _ _ rfl (Only.refl _ _)
              -- 6: s49 := binOp Binadd 3 t48 (const (1:i64)) 3
              apply rg_ev
              · intro a w hR hf
                obtain ⟨e48, -⟩ := hf
                replace e48 : a.tmps.getD 48 undef = _ := e48
                refine rg_plain rfl fun K hK => ?_
                have hwr := IntWalk.i64_in ((pl : Int) + (k : Int) + 1) (by omega)
                go_simp
                exact hK _ _ rfl (Only.refl _ _)
              -- 7: s50 := slice 26 t46 (some t47) (some t49) none
              refine ⟨IsBy ys (k + 1), IsBy.stable _ _, fun a w hR hf => ?_, ?_⟩
              · obtain ⟨e46, e47, e49, -⟩ := hf
                replace e46 : a.tmps.getD 46 undef = _ := e46
                replace e47 : a.tmps.getD 47 undef = _ := e47
                replace e49 : a.tmps.getD 49 undef = _ := e49
                refine rg_plain rfl fun K hK => ?_
                go_simp
                have hk3 : ((pl : Int) + (k : Int) + 1).toNat - pl = k + 1 := by omega
                rw [if_pos ⟨by omega, by omega⟩, if_pos (by omega), hk3, if_neg (by omega)]
                go_simp
                exact hK _ _ ⟨Hys.out, _, _, rfl, rdk.only0 hR, by simp⟩ (Only.refl _ _)
              -- 8: s51 := convert 26 9 t50
              apply rg_ev
              · intro a w hR hf
                obtain ⟨e50, -⟩ := hf
                replace e50 : IsBy ys (k + 1) (a.tmps.getD 50 undef) w := e50
                refine rg_plain rfl fun K hK => ?_
                obtain ⟨l50, p50, k50, e50, r50, n50⟩ := e50
                have hc := conv_bytes (P := Tryd.prog) (c := k50) w Tryd.underlying26 Tryd.underlying5 Tryd.underlying9 r50 l50 n50
                clear l50 n50
                go_simp
                exact hK _ _ rfl (Only.refl _ _)
              -- 9: s52 := binOp Binneq 9 t45 t51 9
              apply rg_ev
              · intro a w hR hf
                obtain ⟨e45, e51, -⟩ := hf
                replace e45 : a.tmps.getD 45 undef = _ := e45
                replace e51 : a.tmps.getD 51 undef = _ := e51
                refine rg_plain rfl fun K hK => ?_
                have hb2 := Hbb.out
                go_simp
                exact hK _ _ rfl (Only.refl _ _)
              intro f10 w10 hR10 hf
              dsimp only [mergeT]
              obtain ⟨e52, -⟩ := hf
              replace e52 : f10 52 = _ := e52
              rw [e52]
              -- r10>>
              cases bb
              · have hno : ¬ ∃ n l : Nat, Says (xs.drop pl) n l := says_no Hxk.out hlo Hk.out (by rw [Hz.out, Hv.out]; have := Hbb.out; simpa using this)
                have Hno := Lib.hid hno
                clear hno
                go_wp2_with fail
                go_ret3
                exact ⟨NumAns.no Hno.out rfl, hR10⟩
              · have hyes : Says (xs.drop pl) v (k + 1) := by
                  refine ⟨hlim, ?_, ?_⟩
                  · rw [Hz.out]; have := Hbb.out; simpa using this
                  · rw [List.length_drop]; omega
                have Hyes := Lib.hid hyes
                clear hyes
                go_wp2_with fail
                go_ret3
                exact ⟨NumAns.yes (l := k + 1) (b := (pl : Int) + (k : Int) + 1) Hyes.out rfl (by omega) rfl, hR10⟩
            | succ m =>
              obtain ⟨y, hy, hc2⟩ := hcells m (by omega)
              have hv := val7_down _ m y hy
              have hlim := val7_lim ((xs.drop pl).take (k + 1)) m (by rw [Hys.out]; omega)
              generalize val7 (((xs.drop pl).take (k + 1)).drop (m + 1)) = v at hv ⊢
              rw [hv] at hlim
              have Hv := Lib.hid hv
              clear hv hcells
              go_wp2_with fail
              go_round
              case rel => exact ⟨m, by omega, by go_num, by rw [Hv.out]; go_num⟩
              case measure => simp [intOf]; omega
      · have hno : ¬ ∃ n l : Nat, Says (xs.drop pl) n l := by
          rintro ⟨n', l, h⟩
          obtain ⟨i, c, rfl, h1, h2, h3, _, _⟩ := h.at
          have hi := (List.getElem?_eq_some_iff.1 h2).1
          rw [List.length_drop] at hi
          have := Hk.out i c (by omega) h2
          omega
        have Hno := Lib.hid hno
        clear hno
        go_wp2_with fail
        go_ret3
        exact ⟨NumAns.no Hno.out rfl, Only.refl _ _⟩
    · have hno : ¬ ∃ n l : Nat, Says (xs.drop pl) n l := by
        rintro ⟨n', l, h⟩
        obtain ⟨i, c, rfl, h1, h2, h3, _, _⟩ := h.at
        have := Hk.out i c (by omega) h2
        omega
      have Hno := Lib.hid hno
      clear hno
      go_wp2_with fail
      all_goals
        go_ret3
        exact ⟨NumAns.no Hno.out rfl, Only.refl _ _⟩
end Go.Proofs.YtkhccchjflmcmaaDoor
