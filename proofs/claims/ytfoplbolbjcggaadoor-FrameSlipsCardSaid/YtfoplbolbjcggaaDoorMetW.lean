/- The walk of bollardlaw06.met: two lists have blocks that are unlike and have one digest. -/
import Derived.Test.YtfoplbolbjcggaaDoorSlipMath
import Derived.Test.YtfoplbolbjcggaaDoorRefBlocksW
import Derived.Test.YtfoplbolbjcggaaDoorRefSums
import Derived.Test.YtfoplbolbjcggaaDoorRegions
import Derived.Laws.StructEq
import Derived.Stop.BytesEq
set_option linter.unusedVariables false
set_option maxRecDepth 100000
namespace Go.Proofs.YtfoplbolbjcggaaDoor
open Go.RowKit

theorem eqIn32' (A B : List UInt8) (hA : A.length = 32) (hB : B.length = 32) (w : World) : (Op.equalIn 10000 122 (.agg (u8s A).toArray) (.agg (u8s B).toArray)).run Tryd.prog w = .ok (A == B) w :=
  run_equalIn_bytes w 9998 _ _ 32 Tryd.underlying122 Tryd.underlying5 Tryd.sizeOf5 A B hA hB
theorem guard32' : Tryd.prog.eqGuardType Tryd.prog.depth 122 = false := by kernel_rfl
def AggB (xs : List UInt8) : Value → World → Prop := fun v _ => v = .agg (u8s (shaB xs)).toArray
set_option maxHeartbeats 16000000 in
theorem met_yes (p q : Option Addr) (xs ys : List UInt8) (n m c d : Nat) (w0 : World) (hn : xs.length = n) (hm : ys.length = m) (hnc : n ≤ c) (hmd : m ≤ d) (hb : n ≤ 140737488351232) (hbm : m ≤ 140737488351232) (hp : p = none → n = 0 ∧ c = 0) (hq : q = none → m = 0 ∧ d = 0) (hx : Rd w0 p (u8s xs)) (hy : Rd w0 q (u8s ys)) (h : Met xs ys) :
    Calls Tryd.prog 33 #[.slice p n c, .slice q m d] w0 fun e w' => e = .returned (.bool true) ∧ Only [] w0 w' := by
  obtain ⟨j, hj1, hj2, hne, heq⟩ := h
  have hb1 := refBlocks_any p xs n c w0 hn hnc hb hp hx
  obtain ⟨N1, hN1⟩ : ∃ N1, nblk xs = N1 := ⟨_, rfl⟩
  obtain ⟨N2, hN2⟩ : ∃ N2, nblk ys = N2 := ⟨_, rfl⟩
  have hB1 : N1 ≤ 140737488351232 := by rw [← hN1]; unfold nblk; omega
  have hB2 : N2 ≤ 140737488351232 := by rw [← hN2]; unfold nblk; omega
  rw [hN1] at hj1 hb1
  rw [hN2] at hj2
  have Hn1 := Lib.hid hN1
  have Hn2 := Lib.hid hN2
  have Hne := Lib.hid hne
  have Heq := Lib.hid heq
  have Hy := Lib.hid hy
  have Hm := Lib.hid hm
  have Hq := Lib.hid hq
  clear hN1 hN2 hne heq hy hm hq hx hn
  go_enter Tryd.func33, Tryd.ntmps33
  go_wp2_with fail
  refine hb1.mono ?_
  clear hb1
  rintro e w1 ⟨F1, q1, k1, rfl, hL1, o1⟩
  have hb2 := refBlocks_any q ys m d w1 Hm.out hmd hbm Hq.out (Hy.out.only0 o1)
  rw [Hn2.out] at hb2
  have HL1 := Lib.hid hL1
  have HO1 := Lib.hid o1
  clear hL1 o1
  go_wp2_with fail
  refine hb2.mono ?_
  clear hb2
  rintro e w2 ⟨F2, q2, k2, rfl, hL2, o2⟩
  have HL2 := Lib.hid hL2
  have HL1' := Lib.hid (HL1.out.only o2 (by simp))
  have HO2 := Lib.hid (HO1.out.trans0 o2)
  clear hL2 o2
  go_wp2_with fail
  go_loopw [7] (fun a wr => ∃ (i : Nat), a = .int .i64 (i : Int) ∧ i ≤ j ∧ Hid (Only [] w2 wr)) (fun a _ => j + 1 - (intOf a).toNat)
  case atStart => exact ⟨0, rfl, Nat.zero_le _, Lib.hid (Only.refl _ _)⟩
  case round =>
    obtain ⟨i, rfl, hi, Ho⟩ := hrel
    have hc1 := (HL1'.out.only Ho.out (by simp)).cell (chunks_get xs (i := i) (by rw [Hn1.out]; omega))
    have hc2 := (HL2.out.only Ho.out (by simp)).cell (chunks_get ys (i := i) (by rw [Hn2.out]; omega))
    obtain ⟨b1, g1, x1, rfl, hcell1, own1⟩ := hc1
    obtain ⟨b2, g2, x2, rfl, hcell2, own2⟩ := hc2
    obtain ⟨A, hA⟩ : ∃ A, chunk xs i = A := ⟨_, rfl⟩
    obtain ⟨B, hB⟩ : ∃ B, chunk ys i = B := ⟨_, rfl⟩
    have hAl : A.length ≤ 32 := by rw [← hA, chunk_length]; omega
    have hBl : B.length ≤ 32 := by rw [← hB, chunk_length]; omega
    rw [hA] at hcell1 own1
    rw [hB] at hcell2 own2
    obtain ⟨sA, hsA⟩ : ∃ sA : ByteArray, sA = ⟨A.toArray⟩ := ⟨_, rfl⟩
    obtain ⟨sB, hsB⟩ : ∃ sB : ByteArray, sB = ⟨B.toArray⟩ := ⟨_, rfl⟩
    obtain ⟨la, hla⟩ : ∃ la, A.length = la := ⟨_, rfl⟩
    obtain ⟨lb, hlb⟩ : ∃ lb, B.length = lb := ⟨_, rfl⟩
    rw [hla] at hcell1 own1 hAl
    rw [hlb] at hcell2 own2 hBl
    have Hla := Lib.hid hla
    have Hlb := Lib.hid hlb
    have HA := Lib.hid hA
    have HB := Lib.hid hB
    have hcA : ∀ w, Only [] wr w → (convert 22 9 (.slice (some ⟨g1, 0, none⟩) la x1)).run Tryd.prog w = .ok (.string sA) w := fun w ho => by
      rw [hsA]
      exact conv_bytes (P := Tryd.prog) w Tryd.underlying22 Tryd.underlying5 Tryd.underlying9 ((own1.view.1).only0 ho) Hla.out (by simp)
    have hcB : ∀ w, Only [] wr w → (convert 22 9 (.slice (some ⟨g2, 0, none⟩) lb x2)).run Tryd.prog w = .ok (.string sB) w := fun w ho => by
      rw [hsB]
      exact conv_bytes (P := Tryd.prog) w Tryd.underlying22 Tryd.underlying5 Tryd.underlying9 ((own2.view.1).only0 ho) Hlb.out (by simp)
    have HcA := Lib.hid hcA
    have HcB := Lib.hid hcB
    have Hcell1 := Lib.hid hcell1
    have Hcell2 := Lib.hid hcell2
    have Hsm1 : Hid (∀ w, Only [] wr w → Calls Tryd.prog 67 #[.slice (some ⟨g1, 0, none⟩) la x1] w fun e w' => e = .returned (.agg (u8s (shaB A)).toArray) ∧ Only [] w w') := Lib.hid fun w ho => refSum_any _ A la x1 w Hla.out (by omega) (by simp) (own1.view.1.only0 ho)
    have Hsm2 : Hid (∀ w, Only [] wr w → Calls Tryd.prog 67 #[.slice (some ⟨g2, 0, none⟩) lb x2] w fun e w' => e = .returned (.agg (u8s (shaB B)).toArray) ∧ Only [] w w') := Lib.hid fun w ho => refSum_any _ B lb x2 w Hlb.out (by omega) (by simp) (own2.view.1.only0 ho)
    clear hla hlb own1 own2 hcA hcB hcell1 hcell2 hA hB
    have hi1 : (i : Int) < (N1 : Int) := by omega
    have hi2 : (i : Int) < (N2 : Int) := by omega
    have hi0 : (0 : Int) ≤ (i : Int) := by omega
    by_cases hAB : A = B
    · have hij : i ≠ j := fun e => by subst e; exact Hne.out (by rw [HA.out, HB.out, hAB])
      have hss : sA = sB := by rw [hsA, hsB, hAB]
      subst hss
      clear hsA hsB hAB
      go_wp2_with fail
      -- <<RA
      refine wp_region_rg2 (Only []) [[(5, none)], [(7, none)], [(24, some 1), (25, some 0)], [(26, some 0)], [(27, some 0)], [(6, none)], [(7, none)], [(29, some 1), (30, some 0)], [(31, some 0)], [(32, some 0)], [(28, some 5), (33, some 0)], [(34, some 0)], [(35, some 0), (5, none)], [(35, some 1), (7, none)], [(35, some 2), (36, some 1), (37, some 0)], [(35, some 3), (38, some 0)], [(35, some 4), (39, some 0)], [(35, some 5), (6, none)], [(35, some 6), (7, none)], [(35, some 7), (41, some 1), (42, some 0)], [(35, some 8), (43, some 0)], [(35, some 9), (44, some 0)], [(35, some 10), (40, some 5), (45, some 0)], [(35, some 11), (46, some 0)]] [(47, 0)] [none, none, none, none, none, none, none, none, none, none, none, none, none, none, none, none, none, none, none, none, none, none, none, none, some 24, some 25, some 26, some 27, some 28, some 29, some 30, some 31, some 32, some 33, some 34, some 35, some 36, some 37, some 38, some 39, some 40, some 41, some 42, some 43, some 44, some 45, some 46, some 47] (by kernel_rfl) rfl (by kernel_rfl) (fun _ => Only.refl _ _) (fun _ _ _ h k => h.trans0 k) (Only.drew _) (by kernel_rfl) ?_
      -- 0: s24 := move t5
      apply rg_ev
      · intro a w hR hf
        obtain ⟨e5, -⟩ := hf
        replace e5 : a.tmps.getD 5 undef = _ := e5
        refine rg_plain rfl fun K hK => ?_
        go_simp
        exact hK _ _ rfl (Only.refl _ _)
      -- 1: s25 := move t7
      apply rg_ev
      · intro a w hR hf
        obtain ⟨e7, -⟩ := hf
        replace e7 : a.tmps.getD 7 undef = _ := e7
        refine rg_plain rfl fun K hK => ?_
        go_simp
        exact hK _ _ rfl (Only.refl _ _)
      -- 2: s26 := indexAddr 25 t24 t25
      apply rg_ev
      · intro a w hR hf
        obtain ⟨e24, e25, -⟩ := hf
        replace e24 : a.tmps.getD 24 undef = _ := e24
        replace e25 : a.tmps.getD 25 undef = _ := e25
        refine rg_plain rfl fun K hK => ?_
        go_simp
        exact hK _ _ rfl (Only.refl _ _)
      -- 3: s27 := load 22 t26
      apply rg_ev
      · intro a w hR hf
        obtain ⟨e26, -⟩ := hf
        replace e26 : a.tmps.getD 26 undef = _ := e26
        refine rg_plain rfl fun K hK => ?_
        have hc := Hcell1.out
        replace hc := hR.cell hc (by simp)
        go_simp
        exact hK _ _ rfl (Only.refl _ _)
      -- 4: s28 := convert 22 9 t27
      apply rg_ev
      · intro a w hR hf
        obtain ⟨e27, -⟩ := hf
        replace e27 : a.tmps.getD 27 undef = _ := e27
        refine rg_plain rfl fun K hK => ?_
        have hcv := HcA.out w hR
        go_simp
        exact hK _ _ rfl (Only.refl _ _)
      -- 5: s29 := move t6
      apply rg_ev
      · intro a w hR hf
        obtain ⟨e6, -⟩ := hf
        replace e6 : a.tmps.getD 6 undef = _ := e6
        refine rg_plain rfl fun K hK => ?_
        go_simp
        exact hK _ _ rfl (Only.refl _ _)
      -- 6: s30 := move t7
      apply rg_ev
      · intro a w hR hf
        obtain ⟨e7, -⟩ := hf
        replace e7 : a.tmps.getD 7 undef = _ := e7
        refine rg_plain rfl fun K hK => ?_
        go_simp
        exact hK _ _ rfl (Only.refl _ _)
      -- 7: s31 := indexAddr 25 t29 t30
      apply rg_ev
      · intro a w hR hf
        obtain ⟨e29, e30, -⟩ := hf
        replace e29 : a.tmps.getD 29 undef = _ := e29
        replace e30 : a.tmps.getD 30 undef = _ := e30
        refine rg_plain rfl fun K hK => ?_
        go_simp
        exact hK _ _ rfl (Only.refl _ _)
      -- 8: s32 := load 22 t31
      apply rg_ev
      · intro a w hR hf
        obtain ⟨e31, -⟩ := hf
        replace e31 : a.tmps.getD 31 undef = _ := e31
        refine rg_plain rfl fun K hK => ?_
        have hc := Hcell2.out
        replace hc := hR.cell hc (by simp)
        go_simp
        exact hK _ _ rfl (Only.refl _ _)
      -- 9: s33 := convert 22 9 t32
      apply rg_ev
      · intro a w hR hf
        obtain ⟨e32, -⟩ := hf
        replace e32 : a.tmps.getD 32 undef = _ := e32
        refine rg_plain rfl fun K hK => ?_
        have hcv := HcB.out w hR
        go_simp
        exact hK _ _ rfl (Only.refl _ _)
      -- 10: s34 := binOp Binneq 9 t28 t33 9
      apply rg_ev
      · intro a w hR hf
        obtain ⟨e28, e33, -⟩ := hf
        replace e28 : a.tmps.getD 28 undef = _ := e28
        replace e33 : a.tmps.getD 33 undef = _ := e33
        refine rg_plain rfl fun K hK => ?_
        go_simp
        exact hK _ _ rfl (Only.refl _ _)
      -- 11: s35 := move t34
      apply rg_ev
      · intro a w hR hf
        obtain ⟨e34, -⟩ := hf
        replace e34 : a.tmps.getD 34 undef = _ := e34
        refine rg_plain rfl fun K hK => ?_
        go_simp
        exact hK _ _ rfl (Only.refl _ _)
      -- 12: s36 := move t5 [if 11=true]
      apply rg_ev
      · intro a w hR hf
        obtain ⟨e35, e5, -⟩ := hf
        replace e35 : a.tmps.getD 35 undef = _ := e35
        replace e5 : a.tmps.getD 5 undef = _ := e5
        exact rg_skip rfl rfl e35 rfl
      -- 13: s37 := move t7 [if 11=true]
      apply rg_ev
      · intro a w hR hf
        obtain ⟨e35, e7, -⟩ := hf
        replace e35 : a.tmps.getD 35 undef = _ := e35
        replace e7 : a.tmps.getD 7 undef = _ := e7
        exact rg_skip rfl rfl e35 rfl
      -- 14: s38 := indexAddr 25 t36 t37 [if 11=true]
      apply rg_ev
      · intro a w hR hf
        obtain ⟨e35, e36, e37, -⟩ := hf
        replace e35 : a.tmps.getD 35 undef = _ := e35
        replace e36 : a.tmps.getD 36 undef = _ := e36
        replace e37 : a.tmps.getD 37 undef = _ := e37
        exact rg_skip rfl rfl e35 rfl
      -- 15: s39 := load 22 t38 [if 11=true]
      apply rg_ev
      · intro a w hR hf
        obtain ⟨e35, e38, -⟩ := hf
        replace e35 : a.tmps.getD 35 undef = _ := e35
        replace e38 : a.tmps.getD 38 undef = _ := e38
        exact rg_skip rfl rfl e35 rfl
      -- 16: s40 := call { value (Operand.func 67), args := #[t39], #[22] } [if 11=true]
      apply rg_ev
      · intro a w hR hf
        obtain ⟨e35, e39, -⟩ := hf
        replace e35 : a.tmps.getD 35 undef = _ := e35
        replace e39 : a.tmps.getD 39 undef = _ := e39
        exact rg_skip rfl rfl e35 rfl
      -- 17: s41 := move t6 [if 11=true]
      apply rg_ev
      · intro a w hR hf
        obtain ⟨e35, e6, -⟩ := hf
        replace e35 : a.tmps.getD 35 undef = _ := e35
        replace e6 : a.tmps.getD 6 undef = _ := e6
        exact rg_skip rfl rfl e35 rfl
      -- 18: s42 := move t7 [if 11=true]
      apply rg_ev
      · intro a w hR hf
        obtain ⟨e35, e7, -⟩ := hf
        replace e35 : a.tmps.getD 35 undef = _ := e35
        replace e7 : a.tmps.getD 7 undef = _ := e7
        exact rg_skip rfl rfl e35 rfl
      -- 19: s43 := indexAddr 25 t41 t42 [if 11=true]
      apply rg_ev
      · intro a w hR hf
        obtain ⟨e35, e41, e42, -⟩ := hf
        replace e35 : a.tmps.getD 35 undef = _ := e35
        replace e41 : a.tmps.getD 41 undef = _ := e41
        replace e42 : a.tmps.getD 42 undef = _ := e42
        exact rg_skip rfl rfl e35 rfl
      -- 20: s44 := load 22 t43 [if 11=true]
      apply rg_ev
      · intro a w hR hf
        obtain ⟨e35, e43, -⟩ := hf
        replace e35 : a.tmps.getD 35 undef = _ := e35
        replace e43 : a.tmps.getD 43 undef = _ := e43
        exact rg_skip rfl rfl e35 rfl
      -- 21: s45 := call { value (Operand.func 67), args := #[t44], #[22] } [if 11=true]
      apply rg_ev
      · intro a w hR hf
        obtain ⟨e35, e44, -⟩ := hf
        replace e35 : a.tmps.getD 35 undef = _ := e35
        replace e44 : a.tmps.getD 44 undef = _ := e44
        exact rg_skip rfl rfl e35 rfl
      -- 22: s46 := binOp Bineql 122 t40 t45 122 [if 11=true]
      apply rg_ev
      · intro a w hR hf
        obtain ⟨e35, e40, e45, -⟩ := hf
        replace e35 : a.tmps.getD 35 undef = _ := e35
        replace e40 : a.tmps.getD 40 undef = _ := e40
        replace e45 : a.tmps.getD 45 undef = _ := e45
        exact rg_skip rfl rfl e35 rfl
      -- 23: s47 := pick t35 t46 (const (Value.bool false))
      apply rg_ev
      · intro a w hR hf
        obtain ⟨e35, e46, -⟩ := hf
        replace e35 : a.tmps.getD 35 undef = _ := e35
        replace e46 : a.tmps.getD 46 undef = _ := e46
        refine rg_plain rfl fun K hK => ?_
        go_simp
        exact hK _ _ rfl (Only.refl _ _)
      intro f w hR hf
      dsimp only [mergeT]
      obtain ⟨e47, -⟩ := hf
      replace e47 : f 47 = _ := e47
      rw [e47]
      -- RA>>
      go_wp2_with fail
      refine ⟨⟨i + 1, by go_num, by omega, Lib.hid (Ho.out.trans0 hR)⟩, by simp [intOf]; omega⟩
    · have hss : sA ≠ sB := fun e => hAB (by rw [hsA, hsB] at e; simpa using congrArg (fun x => x.data.toList) e)
      clear hsA hsB
      have h31 := shaB_len A
      have h32 := shaB_len B
      have Hst : Hid ((sA.toList == sB.toList) = false) := Lib.hid (by
        cases e : sA.toList == sB.toList with
        | false => rfl
        | true => exact absurd (by
            have := eq_of_beq e
            rw [ByteArray.toList_eq, ByteArray.toList_eq] at this
            obtain ⟨⟨x⟩⟩ := sA
            obtain ⟨⟨y⟩⟩ := sB
            simp at this
            rw [this]) hss)
      have hgd := guard32'
      have Hq := Lib.hid fun w => eqIn32' (shaB A) (shaB B) h31 h32 w
      go_wp2_with fail
      -- <<RB
      refine wp_region_rg2 (Only []) [[(5, none)], [(7, none)], [(24, some 1), (25, some 0)], [(26, some 0)], [(27, some 0)], [(6, none)], [(7, none)], [(29, some 1), (30, some 0)], [(31, some 0)], [(32, some 0)], [(28, some 5), (33, some 0)], [(34, some 0)], [(35, some 0), (5, none)], [(35, some 1), (7, none)], [(35, some 2), (36, some 1), (37, some 0)], [(35, some 3), (38, some 0)], [(35, some 4), (39, some 0)], [(35, some 5), (6, none)], [(35, some 6), (7, none)], [(35, some 7), (41, some 1), (42, some 0)], [(35, some 8), (43, some 0)], [(35, some 9), (44, some 0)], [(35, some 10), (40, some 5), (45, some 0)], [(35, some 11), (46, some 0)]] [(47, 0)] [none, none, none, none, none, none, none, none, none, none, none, none, none, none, none, none, none, none, none, none, none, none, none, none, some 24, some 25, some 26, some 27, some 28, some 29, some 30, some 31, some 32, some 33, some 34, some 35, some 36, some 37, some 38, some 39, some 40, some 41, some 42, some 43, some 44, some 45, some 46, some 47] (by kernel_rfl) rfl (by kernel_rfl) (fun _ => Only.refl _ _) (fun _ _ _ h k => h.trans0 k) (Only.drew _) (by kernel_rfl) ?_
      -- 0: s24 := move t5
      apply rg_ev
      · intro a w hR hf
        obtain ⟨e5, -⟩ := hf
        replace e5 : a.tmps.getD 5 undef = _ := e5
        refine rg_plain rfl fun K hK => ?_
        go_simp
        exact hK _ _ rfl (Only.refl _ _)
      -- 1: s25 := move t7
      apply rg_ev
      · intro a w hR hf
        obtain ⟨e7, -⟩ := hf
        replace e7 : a.tmps.getD 7 undef = _ := e7
        refine rg_plain rfl fun K hK => ?_
        go_simp
        exact hK _ _ rfl (Only.refl _ _)
      -- 2: s26 := indexAddr 25 t24 t25
      apply rg_ev
      · intro a w hR hf
        obtain ⟨e24, e25, -⟩ := hf
        replace e24 : a.tmps.getD 24 undef = _ := e24
        replace e25 : a.tmps.getD 25 undef = _ := e25
        refine rg_plain rfl fun K hK => ?_
        go_simp
        exact hK _ _ rfl (Only.refl _ _)
      -- 3: s27 := load 22 t26
      apply rg_ev
      · intro a w hR hf
        obtain ⟨e26, -⟩ := hf
        replace e26 : a.tmps.getD 26 undef = _ := e26
        refine rg_plain rfl fun K hK => ?_
        have hc := Hcell1.out
        replace hc := hR.cell hc (by simp)
        go_simp
        exact hK _ _ rfl (Only.refl _ _)
      -- 4: s28 := convert 22 9 t27
      apply rg_ev
      · intro a w hR hf
        obtain ⟨e27, -⟩ := hf
        replace e27 : a.tmps.getD 27 undef = _ := e27
        refine rg_plain rfl fun K hK => ?_
        have hcv := HcA.out w hR
        go_simp
        exact hK _ _ rfl (Only.refl _ _)
      -- 5: s29 := move t6
      apply rg_ev
      · intro a w hR hf
        obtain ⟨e6, -⟩ := hf
        replace e6 : a.tmps.getD 6 undef = _ := e6
        refine rg_plain rfl fun K hK => ?_
        go_simp
        exact hK _ _ rfl (Only.refl _ _)
      -- 6: s30 := move t7
      apply rg_ev
      · intro a w hR hf
        obtain ⟨e7, -⟩ := hf
        replace e7 : a.tmps.getD 7 undef = _ := e7
        refine rg_plain rfl fun K hK => ?_
        go_simp
        exact hK _ _ rfl (Only.refl _ _)
      -- 7: s31 := indexAddr 25 t29 t30
      apply rg_ev
      · intro a w hR hf
        obtain ⟨e29, e30, -⟩ := hf
        replace e29 : a.tmps.getD 29 undef = _ := e29
        replace e30 : a.tmps.getD 30 undef = _ := e30
        refine rg_plain rfl fun K hK => ?_
        go_simp
        exact hK _ _ rfl (Only.refl _ _)
      -- 8: s32 := load 22 t31
      apply rg_ev
      · intro a w hR hf
        obtain ⟨e31, -⟩ := hf
        replace e31 : a.tmps.getD 31 undef = _ := e31
        refine rg_plain rfl fun K hK => ?_
        have hc := Hcell2.out
        replace hc := hR.cell hc (by simp)
        go_simp
        exact hK _ _ rfl (Only.refl _ _)
      -- 9: s33 := convert 22 9 t32
      apply rg_ev
      · intro a w hR hf
        obtain ⟨e32, -⟩ := hf
        replace e32 : a.tmps.getD 32 undef = _ := e32
        refine rg_plain rfl fun K hK => ?_
        have hcv := HcB.out w hR
        go_simp
        exact hK _ _ rfl (Only.refl _ _)
      -- 10: s34 := binOp Binneq 9 t28 t33 9
      apply rg_ev
      · intro a w hR hf
        obtain ⟨e28, e33, -⟩ := hf
        replace e28 : a.tmps.getD 28 undef = _ := e28
        replace e33 : a.tmps.getD 33 undef = _ := e33
        refine rg_plain rfl fun K hK => ?_
        have hst := Hst.out
        go_simp
        exact hK _ _ rfl (Only.refl _ _)
      -- 11: s35 := move t34
      apply rg_ev
      · intro a w hR hf
        obtain ⟨e34, -⟩ := hf
        replace e34 : a.tmps.getD 34 undef = _ := e34
        refine rg_plain rfl fun K hK => ?_
        go_simp
        exact hK _ _ rfl (Only.refl _ _)
      -- 12: s36 := move t5 [if 11=true]
      apply rg_ev
      · intro a w hR hf
        obtain ⟨e35, e5, -⟩ := hf
        replace e35 : a.tmps.getD 35 undef = _ := e35
        replace e5 : a.tmps.getD 5 undef = _ := e5
        refine rg_want rfl rfl e35 fun K hK => ?_
        clear e35
        go_simp
        exact hK _ _ rfl (Only.refl _ _)
      -- 13: s37 := move t7 [if 11=true]
      apply rg_ev
      · intro a w hR hf
        obtain ⟨e35, e7, -⟩ := hf
        replace e35 : a.tmps.getD 35 undef = _ := e35
        replace e7 : a.tmps.getD 7 undef = _ := e7
        refine rg_want rfl rfl e35 fun K hK => ?_
        clear e35
        go_simp
        exact hK _ _ rfl (Only.refl _ _)
      -- 14: s38 := indexAddr 25 t36 t37 [if 11=true]
      apply rg_ev
      · intro a w hR hf
        obtain ⟨e35, e36, e37, -⟩ := hf
        replace e35 : a.tmps.getD 35 undef = _ := e35
        replace e36 : a.tmps.getD 36 undef = _ := e36
        replace e37 : a.tmps.getD 37 undef = _ := e37
        refine rg_want rfl rfl e35 fun K hK => ?_
        clear e35
        go_simp
        exact hK _ _ rfl (Only.refl _ _)
      -- 15: s39 := load 22 t38 [if 11=true]
      apply rg_ev
      · intro a w hR hf
        obtain ⟨e35, e38, -⟩ := hf
        replace e35 : a.tmps.getD 35 undef = _ := e35
        replace e38 : a.tmps.getD 38 undef = _ := e38
        refine rg_want rfl rfl e35 fun K hK => ?_
        clear e35
        have hc := Hcell1.out
        replace hc := hR.cell hc (by simp)
        go_simp
        exact hK _ _ rfl (Only.refl _ _)
      -- 16: s40 := call { value (Operand.func 67), args := #[t39], #[22] } [if 11=true]
      apply rg_ev
      · intro a w hR hf
        obtain ⟨e35, e39, -⟩ := hf
        replace e35 : a.tmps.getD 35 undef = _ := e35
        replace e39 : a.tmps.getD 39 undef = _ := e39
        refine rg_want rfl rfl e35 fun K hK => ?_
        clear e35
        go_simp
        (with_reducible refine (Hsm1.out w hR).mono ?_)
        rintro e w' ⟨rfl, ho⟩
        exact hK _ _ rfl ho
      -- 17: s41 := move t6 [if 11=true]
      apply rg_ev
      · intro a w hR hf
        obtain ⟨e35, e6, -⟩ := hf
        replace e35 : a.tmps.getD 35 undef = _ := e35
        replace e6 : a.tmps.getD 6 undef = _ := e6
        refine rg_want rfl rfl e35 fun K hK => ?_
        clear e35
        go_simp
        exact hK _ _ rfl (Only.refl _ _)
      -- 18: s42 := move t7 [if 11=true]
      apply rg_ev
      · intro a w hR hf
        obtain ⟨e35, e7, -⟩ := hf
        replace e35 : a.tmps.getD 35 undef = _ := e35
        replace e7 : a.tmps.getD 7 undef = _ := e7
        refine rg_want rfl rfl e35 fun K hK => ?_
        clear e35
        go_simp
        exact hK _ _ rfl (Only.refl _ _)
      -- 19: s43 := indexAddr 25 t41 t42 [if 11=true]
      apply rg_ev
      · intro a w hR hf
        obtain ⟨e35, e41, e42, -⟩ := hf
        replace e35 : a.tmps.getD 35 undef = _ := e35
        replace e41 : a.tmps.getD 41 undef = _ := e41
        replace e42 : a.tmps.getD 42 undef = _ := e42
        refine rg_want rfl rfl e35 fun K hK => ?_
        clear e35
        go_simp
        exact hK _ _ rfl (Only.refl _ _)
      -- 20: s44 := load 22 t43 [if 11=true]
      apply rg_ev
      · intro a w hR hf
        obtain ⟨e35, e43, -⟩ := hf
        replace e35 : a.tmps.getD 35 undef = _ := e35
        replace e43 : a.tmps.getD 43 undef = _ := e43
        refine rg_want rfl rfl e35 fun K hK => ?_
        clear e35
        have hc := Hcell2.out
        replace hc := hR.cell hc (by simp)
        go_simp
        exact hK _ _ rfl (Only.refl _ _)
      -- 21: s45 := call { value (Operand.func 67), args := #[t44], #[22] } [if 11=true]
      apply rg_ev
      · intro a w hR hf
        obtain ⟨e35, e44, -⟩ := hf
        replace e35 : a.tmps.getD 35 undef = _ := e35
        replace e44 : a.tmps.getD 44 undef = _ := e44
        refine rg_want rfl rfl e35 fun K hK => ?_
        clear e35
        go_simp
        (with_reducible refine (Hsm2.out w hR).mono ?_)
        rintro e w' ⟨rfl, ho⟩
        exact hK _ _ rfl ho
      -- 22: s46 := binOp Bineql 122 t40 t45 122 [if 11=true]
      apply rg_ev
      · intro a w hR hf
        obtain ⟨e35, e40, e45, -⟩ := hf
        replace e35 : a.tmps.getD 35 undef = _ := e35
        replace e40 : a.tmps.getD 40 undef = _ := e40
        replace e45 : a.tmps.getD 45 undef = _ := e45
        refine rg_want rfl rfl e35 fun K hK => ?_
        clear e35
        have hq := Hq.out w
        go_simp
        exact hK _ _ rfl (Only.refl _ _)
      -- 23: s47 := pick t35 t46 (const (Value.bool false))
      apply rg_ev
      · intro a w hR hf
        obtain ⟨e35, e46, -⟩ := hf
        replace e35 : a.tmps.getD 35 undef = _ := e35
        replace e46 : a.tmps.getD 46 undef = _ := e46
        refine rg_plain rfl fun K hK => ?_
        go_simp
        exact hK _ _ rfl (Only.refl _ _)
      intro f w hR hf
      dsimp only [mergeT]
      obtain ⟨e47, -⟩ := hf
      replace e47 : f 47 = _ := e47
      rw [e47]
      -- RB>>
      by_cases hsh : shaB A = shaB B
      · have hsq : (shaB A == shaB B) = true := by simp [hsh]
        rw [hsq]
        go_wp2_with fail
        go_ret
        exact ⟨rfl, (HO2.out.trans0 Ho.out).trans0 hR⟩
      · have hij : i ≠ j := fun e => by subst e; exact hsh (by rw [← HA.out, ← HB.out]; exact Heq.out)
        have hsq : (shaB A == shaB B) = false := by simp [hsh]
        rw [hsq]
        go_wp2_with fail
        refine ⟨⟨i + 1, by go_num, by omega, Lib.hid (Ho.out.trans0 hR)⟩, by simp [intOf]; omega⟩
end Go.Proofs.YtfoplbolbjcggaaDoor
