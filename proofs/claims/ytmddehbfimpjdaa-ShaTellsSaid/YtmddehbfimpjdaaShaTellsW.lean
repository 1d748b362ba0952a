/- The walk of bollardlaw03.ShaTells. -/
import Derived.Test.YtmddehbfimpjdaaHashAtW
import Derived.Test.YtmddehbfimpjdaaAlive03W
import Derived.Test.YtmddehbfimpjdaaOpenSls
import Derived.Test.YtmddehbfimpjdaaRegion
set_option linter.unusedVariables false
namespace Go.Proofs.Ytmddehbfimpjdaa
open Go.RowKit

theorem neq32 (A : List UInt8) (hA : A.length = 32) (w : World) : (binOp .neq 25 (.agg (u8s A).toArray) (.agg (u8s A).toArray)).run Try.prog w = .ok (.bool false) w := by
  rw [run_neq_struct, eqIn32 A A hA hA, beq_self_eq_true]; rfl
set_option maxHeartbeats 2000000 in
theorem shaTells_walk (p : Option Addr) (os : List Sl) (N c : Nat) (W0 : World) (hN : os.length = N) (hNc : N ≤ c) (hc : c * 24 ≤ 140737488351232) (hp : p = none → N = 0 ∧ c = 0) (hx : Sls W0 p os) :
    Calls Try.prog 8 #[.slice p N c] W0 fun e w' => e = .returned (.bool true) ∧ Only [] W0 w' := by
  go_enter Try.func8, Try.ntmps8
  go_wp2_with fail
  (with_reducible refine (alive03_any W0).mono ?_)
  rintro e w1 ⟨rfl, h1⟩
  go_wp2_with fail
  (with_reducible refine (new_at W0 w1 h1).mono ?_)
  rintro e w2 ⟨B1, F1, rfl, hA, hA2, hF1⟩
  go_wp2_with fail
  (with_reducible refine (new_at W0 w2 hA.low).mono ?_)
  rintro e w3 ⟨B2, F2, rfl, hB, hB2, hF2⟩
  have hA3 := hA.only0 hB2
  have hd : ∀ k ∈ F1, k ∉ F2 := fun k hk h => by have := hF2 k h; have := (hA.2.2 k hk).2; omega
  have Hd := Lib.hid hd
  have HA := Lib.hid hA3
  have HB := Lib.hid hB
  clear hd hA3 hB hA hA2 hF1 hB2 hF2 h1
  go_wp2_with fail
  go_loopw [21, 5] (fun i n wr => ∃ (j : Nat) (X : List UInt8) (m : Nat) (G1 G2 : List Nat), i = .int .i64 (j : Int) ∧ j ≤ N ∧ n = .int .i64 (m : Int) ∧ m ≤ 1048576 ∧ Hid (X.length = m) ∧ Hid (HashAt W0 wr G1 B1 X) ∧ Hid (HashAt W0 wr G2 B2 X) ∧ Hid (∀ k ∈ G1, k ∉ G2)) (fun i _ _ => N - (intOf i).toNat)
  case atStart => exact ⟨0, [], 0, F1, F2, rfl, by omega, rfl, by omega, Lib.hid rfl, HA, HB, Hd⟩
  case round =>
    clear Hd HA HB
    obtain ⟨j, X, m, G1, G2, rfl, hj, rfl, hm, Hm, HA, HB, Hd⟩ := hrel
    have hlA : (shaB X).length = 32 := rfl
    have hsA := fun w h => sum_at W0 w G1 B1 X h (by rw [Hm.out]; omega)
    have hsB := fun w h => sum_at W0 w G2 B2 X h (by rw [Hm.out]; omega)
    by_cases hlt : j < N
    · have hji : (j : Int) < (N : Int) := by omega
      obtain ⟨o, ho⟩ : ∃ o, os[j]? = some o := ⟨_, List.getElem?_eq_getElem (by omega)⟩
      obtain ⟨b, off, rfl, ⟨ok1, ok2, ok3, ok4, ok5⟩, hcell⟩ := hx j o ho
      have hcl := HA.out.low.cell hcell (by simp)
      obtain ⟨q, mq, cq, bs⟩ := o
      dsimp only at ok1 ok2 ok3 ok4 ok5 hcl
      by_cases h200 : 200 < j
      · have h200' : (200 : Int) < (j : Int) := by omega
        go_wp2_with fail
        (with_reducible refine (hsA wr HA.out).mono ?_)
        rintro e w6 ⟨rfl, h6⟩
        go_wp2_with fail
        (with_reducible refine (hsB w6 (HB.out.only0 h6)).mono ?_)
        rintro e w7 ⟨rfl, h7⟩
        have hlow := ((HA.out.only0 h6).only0 h7).low
        clear hsA hsB
        generalize shaB X = A at hlA ⊢
        have hq := eqIn32 A A hlA hlA w7
        have hgd := guard32
        rw [beq_self_eq_true] at hq
        go_wp2_with fail
        go_ret
        exact ⟨rfl, hlow⟩
      · have h200' : ¬ (200 : Int) < (j : Int) := by omega
        clear hcell ho hsA hsB hlA
        go_wp2_with fail
        (with_reducible refine (write_at W0 wr G1 B1 X bs q mq cq HA.out ok5 ok1 ok4 (by omega) (by rw [Hm.out]; omega)).mono ?_)
        rintro e w4 ⟨rfl, G1', hA4, hA5, hA6⟩
        have hB4 := HB.out.other hA5 hA4.low (fun k hk h => Hd.out k h hk)
        go_wp2_with fail
        (with_reducible refine (write_at W0 w4 G2 B2 X bs q mq cq hB4 ok5 ok1 ok4 (by omega) (by rw [Hm.out]; omega)).mono ?_)
        rintro e w5 ⟨rfl, G2', hB5, hB6, hB7⟩
        have hd2 : ∀ k ∈ G1', k ∉ G2 := fun k hk h => by
          rcases hA6 k hk with h1 | h1
          · exact Hd.out k h1 h
          · have := (HB.out.2.2 k h).2; omega
        have hA7 := hA4.other hB6 hB5.low hd2
        have hd3 : ∀ k ∈ G1', k ∉ G2' := fun k hk h => by
          rcases hB7 k h with h1 | h1
          · exact hd2 k hk h1
          · have := (hA4.2.2 k hk).2; omega
        have HA7 := Lib.hid hA7
        have HB7 := Lib.hid hB5
        have Hd7 := Lib.hid hd3
        clear hA4 hA5 hA6 hB4 hB5 hB6 hB7 hd2 hd3 hA7
        have hsum : IntKind.i64.wrap ((m : Int) + (mq : Int)) = ((m + mq : Nat) : Int) := by rw [IntWalk.i64_in _ (by omega)]; simp
        by_cases hbig : 1048576 < m + mq
        · have hbig' : (1048576 : Int) < (m : Int) + (mq : Int) := by omega
          go_wp2_with fail
          go_ret
          exact ⟨rfl, HA7.out.low⟩
        · have hbig' : ¬ (1048576 : Int) < (m : Int) + (mq : Int) := by omega
          have hX : (X ++ bs).length = m + mq := by rw [List.length_append, Hm.out, ok1]
          have hs1 := sum_at W0 w5 G1' B1 (X ++ bs) HA7.out (by omega)
          have hsum2 : ∀ w, Only [] w5 w → Calls Try.prog 23 #[.pointer (some ⟨B1, 0, none⟩)] w fun e w' => e = .returned (.agg (u8s (shaB (X ++ bs))).toArray) ∧ Only [] w w' := fun w h => sum_at W0 w G1' B1 (X ++ bs) (HA7.out.only0 h) (by omega)
          have hlen2 : ∀ w, Only [] w5 w → Calls Try.prog 24 #[.pointer (some ⟨B1, 0, none⟩)] w fun e w' => e = .returned (.int .i64 ((m : Int) + (mq : Int))) ∧ w = w' := fun w h => by
            have := len_at W0 w G1' B1 (X ++ bs) (HA7.out.only0 h)
            rw [hX] at this; push_cast at this; exact this
          have hlA2 : (shaB (X ++ bs)).length = 32 := rfl
          generalize shaB (X ++ bs) = A at hlA2 hs1 hsum2
          go_wp2_with fail
          (with_reducible refine (hs1).mono ?_)
          rintro e w6 ⟨rfl, h6⟩
          obtain ⟨W1, hW1⟩ : ∃ W1, W1 = w6.alloc (.cells #[.int .u8 0, .int .u8 0, .int .u8 0, .int .u8 0, .int .u8 0, .int .u8 0, .int .u8 0, .int .u8 0, .int .u8 0, .int .u8 0, .int .u8 0, .int .u8 0, .int .u8 0, .int .u8 0, .int .u8 0, .int .u8 0, .int .u8 0, .int .u8 0, .int .u8 0, .int .u8 0, .int .u8 0, .int .u8 0, .int .u8 0, .int .u8 0, .int .u8 0, .int .u8 0, .int .u8 0, .int .u8 0, .int .u8 0, .int .u8 0, .int .u8 0, .int .u8 0] 25) := ⟨_, rfl⟩
          have oW1 : Only [] w6 W1 := by rw [hW1]; exact Only.alloc _ _
          have rz : Row W1 w6.heap.size 25 (u8s (List.replicate 32 0)) := by rw [hW1]; exact Row.newOf _ _ _ _ (by rfl)
          have hsz : (Try.prog.info? 25).map (·.size) = some (u8s A).length := by rw [u8s_length, hlA2]; kernel_rfl
          have hst := rz.storeAt (P := Try.prog) hsz (by rw [u8s_length, u8s_length, hlA2]; rfl) (fun u hu => u8s_one hu)
          have hrow := rz.setRow (u8s A)
          have hos : Only [w6.heap.size] W1 (W1.setRow w6.heap.size (u8s A).toArray) := Only.setRow _ _ _
          have h56 : Only [] w5 (W1.setRow w6.heap.size (u8s A).toArray) := (h6.trans0 oW1).transN hos (by have := h6.size; simpa using this)
          have Hst := Lib.hid hst
          have R8 := Lib.hid hrow
          have Hsz := Lib.hid hsz
          have HA8 := Lib.hid (HA7.out.only0 h56)
          have HB8 := Lib.hid (HB7.out.only0 h56)
          have Hsum : Hid (∀ w, Only [] (W1.setRow w6.heap.size (u8s A).toArray) w → Calls Try.prog 23 #[.pointer (some ⟨B1, 0, none⟩)] w fun e w' => e = .returned (.agg (u8s A).toArray) ∧ Only [] w w') := Lib.hid fun w h => hsum2 w (h56.trans0 h)
          have Hlen : Hid (∀ w, Only [] (W1.setRow w6.heap.size (u8s A).toArray) w → Calls Try.prog 24 #[.pointer (some ⟨B1, 0, none⟩)] w fun e w' => e = .returned (.int .i64 ((m : Int) + (mq : Int))) ∧ w = w') := Lib.hid fun w h => hlen2 w (h56.trans0 h)
          have Hq : Hid (∀ w, (binOp .neq 25 (.agg (u8s A).toArray) (.agg (u8s A).toArray)).run Try.prog w = .ok (.bool false) w) := Lib.hid fun w => neq32 A hlA2 w
          have Hq2 : Hid (∀ w, (Op.equalIn 10000 25 (.agg (u8s A).toArray) (.agg (u8s A).toArray)).run Try.prog w = .ok true w) := Lib.hid fun w => by have := eqIn32 A A hlA2 hlA2 w; rwa [beq_self_eq_true] at this
          clear hst hrow hos rz hsz oW1 h56 hsum2 hlen2 hs1 h6 HA7 HB7 HA HB
          subst hW1
          go_wp2_with (first | ((with_reducible show wpList _ _ _ _ _ _); refine wpl_store (ty := 25) (x := .tmp 8) (y := .tmp 41) rfl rfl rfl rfl Hst.out ?_))
          clear Hst
          try dsimp only [Act.put]
          generalize (w6.alloc (.cells #[.int .u8 0, .int .u8 0, .int .u8 0, .int .u8 0, .int .u8 0, .int .u8 0, .int .u8 0, .int .u8 0, .int .u8 0, .int .u8 0, .int .u8 0, .int .u8 0, .int .u8 0, .int .u8 0, .int .u8 0, .int .u8 0, .int .u8 0, .int .u8 0, .int .u8 0, .int .u8 0, .int .u8 0, .int .u8 0, .int .u8 0, .int .u8 0, .int .u8 0, .int .u8 0, .int .u8 0, .int .u8 0, .int .u8 0, .int .u8 0, .int .u8 0, .int .u8 0] 25)).setRow w6.heap.size (u8s A).toArray = w8 at R8 HA8 HB8 Hsum Hlen ⊢
          generalize w6.heap.size = g8 at R8 ⊢
          -- <<r17
          refine wp_region_rg2 (Only []) [[(8, none)], [(3, none)], [(43, some 0)], [(42, some 2), (44, some 0)], [(45, some 0)], [(46, some 0), (3, none)], [(46, some 1), (47, some 0)], [(46, some 2), (5, none)], [(46, some 3), (48, some 1), (49, some 0)], [(46, some 4), (50, some 0)]] [(51, 0)] [none, none, none, none, none, none, none, none, none, none, none, none, none, none, none, none, none, none, none, none, none, none, none, none, none, none, none, none, none, none, none, none, none, none, none, none, none, none, none, none, none, none, some 42, some 43, some 44, some 45, some 46, some 47, some 48, some 49, some 50, some 51, none, none, none, none, none, none] (by kernel_rfl) rfl (by kernel_rfl) (fun _ => Only.refl _ _) (fun _ _ _ h k => h.trans0 k) (Only.drew _) (by kernel_rfl) ?_
          -- 0: s42 := load 25 t8
          apply rg_ev
          · intro a w hR hf
            obtain ⟨e8, -⟩ := hf
            replace e8 : a.tmps.getD 8 undef = _ := e8
            refine rg_plain rfl fun K hK => ?_
            have hl := (Row.only0 R8.out hR).loadAt (P := Try.prog) Try.underlying25 Hsz.out
            exact rg_load (x := .tmp 8) rfl e8 hl (hK _ _ rfl (Only.refl _ _))
          -- 1: s43 := move t3
          apply rg_ev
          · intro a w hR hf
            obtain ⟨e3, -⟩ := hf
            replace e3 : a.tmps.getD 3 undef = _ := e3
            refine rg_plain rfl fun K hK => ?_
            go_simp
            exact hK _ _ rfl (Only.refl _ _)
          -- 2: s44 := call { value (Operand.func 23), args := #[t43], #[32] }
          apply rg_ev
          · intro a w hR hf
            obtain ⟨e43, -⟩ := hf
            replace e43 : a.tmps.getD 43 undef = _ := e43
            refine rg_plain rfl fun K hK => ?_
            go_simp
            (with_reducible refine (Hsum.out w hR).mono ?_)
            rintro e w' ⟨rfl, ho⟩
            exact hK _ _ rfl ho
          -- 3: s45 := binOp Binneq 25 t42 t44 25
          apply rg_ev
          · intro a w hR hf
            obtain ⟨e42, e44, -⟩ := hf
            replace e42 : a.tmps.getD 42 undef = _ := e42
            replace e44 : a.tmps.getD 44 undef = _ := e44
            refine rg_plain rfl fun K hK => ?_
            have hq := Hq2.out w
            have hgd := guard32
            go_simp
            exact hK _ _ rfl (Only.refl _ _)
          -- 4: s46 := move t45
          apply rg_ev
          · intro a w hR hf
            obtain ⟨e45, -⟩ := hf
            replace e45 : a.tmps.getD 45 undef = _ := e45
            refine rg_plain rfl fun K hK => ?_
            go_simp
            exact hK _ _ rfl (Only.refl _ _)
          -- 5: s47 := move t3 [if 4=false]
          apply rg_ev
          · intro a w hR hf
            obtain ⟨e46, e3, -⟩ := hf
            replace e46 : a.tmps.getD 46 undef = _ := e46
            replace e3 : a.tmps.getD 3 undef = _ := e3
            refine rg_want rfl rfl e46 fun K hK => ?_
            clear e46
            go_simp
            exact hK _ _ rfl (Only.refl _ _)
          -- 6: s48 := call { value (Operand.func 24), args := #[t47], #[32] } [if 4=false]
          apply rg_ev
          · intro a w hR hf
            obtain ⟨e46, e47, -⟩ := hf
            replace e46 : a.tmps.getD 46 undef = _ := e46
            replace e47 : a.tmps.getD 47 undef = _ := e47
            refine rg_want rfl rfl e46 fun K hK => ?_
            clear e46
            go_simp
            (with_reducible refine (Hlen.out w hR).mono ?_)
            rintro e w' ⟨rfl, rfl⟩
            exact hK _ _ rfl (Only.refl _ _)
          -- 7: s49 := move t5 [if 4=false]
          apply rg_ev
          · intro a w hR hf
            obtain ⟨e46, e5, -⟩ := hf
            replace e46 : a.tmps.getD 46 undef = _ := e46
            replace e5 : a.tmps.getD 5 undef = _ := e5
            refine rg_want rfl rfl e46 fun K hK => ?_
            clear e46
            go_simp
            exact hK _ _ rfl (Only.refl _ _)
          -- 8: s50 := binOp Binneq 3 t48 t49 3 [if 4=false]
          apply rg_ev
          · intro a w hR hf
            obtain ⟨e46, e48, e49, -⟩ := hf
            replace e46 : a.tmps.getD 46 undef = _ := e46
            replace e48 : a.tmps.getD 48 undef = _ := e48
            replace e49 : a.tmps.getD 49 undef = _ := e49
            refine rg_want rfl rfl e46 fun K hK => ?_
            clear e46
            go_simp
            exact hK _ _ rfl (Only.refl _ _)
          -- 9: s51 := pick t46 (const (Value.bool true)) t50
          apply rg_ev
          · intro a w hR hf
            obtain ⟨e46, e50, -⟩ := hf
            replace e46 : a.tmps.getD 46 undef = _ := e46
            replace e50 : a.tmps.getD 50 undef = _ := e50
            refine rg_plain rfl fun K hK => ?_
            go_simp
            exact hK _ _ rfl (Only.refl _ _)
          intro f17 w17 hR17 hf
          dsimp only [mergeT]
          obtain ⟨e51, -⟩ := hf
          replace e51 : f17 51 = _ := e51
          rw [e51]
          -- r17>>
          have HA9 := Lib.hid (HA8.out.only0 hR17)
          have HB9 := Lib.hid (HB8.out.only0 hR17)
          have HX := Lib.hid hX
          clear HA8 HB8 Hsum Hlen Hq Hq2 R8 hX
          go_wp2_with fail
          go_roundw
          case rel => exact ⟨j + 1, X ++ bs, m + mq, G1', G2', by go_num, by omega, by go_num, by omega, HX, HA9, HB9, Hd7⟩
          case measure => simp [intOf]; omega
    · have hji : ¬ (j : Int) < (N : Int) := by omega
      go_wp2_with fail
      (with_reducible refine (hsA wr HA.out).mono ?_)
      rintro e w6 ⟨rfl, h6⟩
      go_wp2_with fail
      (with_reducible refine (hsB w6 (HB.out.only0 h6)).mono ?_)
      rintro e w7 ⟨rfl, h7⟩
      have hlow := ((HA.out.only0 h6).only0 h7).low
      clear hsA hsB
      generalize shaB X = A at hlA ⊢
      have hq := eqIn32 A A hlA hlA w7
      have hgd := guard32
      rw [beq_self_eq_true] at hq
      go_wp2_with fail
      go_ret
      exact ⟨rfl, hlow⟩
end Go.Proofs.Ytmddehbfimpjdaa
