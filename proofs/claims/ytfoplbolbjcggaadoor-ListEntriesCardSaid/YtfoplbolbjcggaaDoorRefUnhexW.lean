/- The walks of bollardref03.digit and Unhex. -/
import Derived.Test.YtfoplbolbjcggaaDoorRefHexW
set_option linter.unusedVariables false
set_option maxRecDepth 100000
namespace Go.Proofs.YtfoplbolbjcggaaDoor
open Go.RowKit

theorem dv_cases : ∀ n, n < 256 → dv (UInt8.ofNat n) = if 48 ≤ n ∧ n ≤ 57 then (n : Int) - 48 else if 97 ≤ n ∧ n ≤ 102 then (n : Int) - 87 else -1 := by decide +kernel
theorem digit_any (x : UInt8) (w : World) : Calls Tryd.prog 81 #[.int .u8 (x.toNat : Int)] w fun e w' => e = .returned (.int .i64 (dv x)) ∧ w' = w := by
  have hd := dv_cases x.toNat x.toNat_lt
  rw [UInt8.ofNat_toNat] at hd
  have hxl := x.toNat_lt
  by_cases h1 : 48 ≤ x.toNat ∧ x.toNat ≤ 57
  · rw [if_pos h1] at hd
    have g1 : (48 : Int) ≤ (x.toNat : Int) := by omega
    have g2 : (x.toNat : Int) ≤ 57 := by omega
    have g3 : ((x.toNat : Int) - 48) % 256 = (x.toNat : Int) - 48 := by omega
    have Hd := Lib.hid hd
    clear hd h1
    go_enter Tryd.func81, Tryd.ntmps81
    go_wp2_with fail
    go_ret
    exact ⟨by rw [Hd.out]; rfl, rfl⟩
  · rw [if_neg h1] at hd
    by_cases h2 : 97 ≤ x.toNat ∧ x.toNat ≤ 102
    · rw [if_pos h2] at hd
      have g1 : (48 : Int) ≤ (x.toNat : Int) := by omega
      have g2 : ¬ (x.toNat : Int) ≤ 57 := by omega
      have g3 : (97 : Int) ≤ (x.toNat : Int) := by omega
      have g4 : (x.toNat : Int) ≤ 102 := by omega
      have g5 : ((x.toNat : Int) - 97) % 256 = (x.toNat : Int) - 97 := by omega
      have Hd := Lib.hid hd
      clear hd h1 h2
      go_enter Tryd.func81, Tryd.ntmps81
      go_wp2_with fail
      go_ret
      refine ⟨?_, rfl⟩
      rw [Hd.out]
      refine congrArg (fun z => Ending.returned (.int .i64 z)) ?_
      show (x.toNat : Int) - 97 + 10 = _
      omega
    · rw [if_neg h2] at hd
      have Hd := Lib.hid hd
      by_cases g1 : (48 : Int) ≤ (x.toNat : Int)
      · have g2 : ¬ (x.toNat : Int) ≤ 57 := by omega
        by_cases g3 : (97 : Int) ≤ (x.toNat : Int)
        · have g4 : ¬ (x.toNat : Int) ≤ 102 := by omega
          clear hd h1 h2
          go_enter Tryd.func81, Tryd.ntmps81
          go_wp2_with fail
          go_ret
          exact ⟨by rw [Hd.out]; rfl, rfl⟩
        · clear hd h1 h2
          go_enter Tryd.func81, Tryd.ntmps81
          go_wp2_with fail
          go_ret
          exact ⟨by rw [Hd.out]; rfl, rfl⟩
      · have g3 : ¬ (97 : Int) ≤ (x.toNat : Int) := by omega
        clear hd h1 h2
        go_enter Tryd.func81, Tryd.ntmps81
        go_wp2_with fail
        go_ret
        exact ⟨by rw [Hd.out]; rfl, rfl⟩
set_option maxHeartbeats 4000000 in
theorem refUnhex_any (xs : List UInt8) (S : ByteArray) (hS : S = ⟨xs.toArray⟩) (ww : World) (hb : xs.length ≤ 140737488355328) : Calls Tryd.prog 48 #[.string S] ww fun e w' => UnhexAns xs ww e w' := by
  have hsz : S.size = xs.length := by rw [hS]; simp [ByteArray.size]
  obtain ⟨n, hn⟩ : ∃ n, n = xs.length := ⟨_, rfl⟩
  rw [← hn] at hsz hb
  have hno : unhexB xs = none → ∀ w', Only [] ww w' → UnhexAns xs ww (.returned (.tuple #[.slice none 0 0, .bool false])) w' := fun h w' ho => ⟨none, 0, [], false, rfl, Own.nil _ _ _, ho, .inr ⟨rfl, rfl, h⟩⟩
  have Hno := Lib.hid hno
  have HS := Lib.hid hS
  have Hn := Lib.hid hn
  clear hno hS hn
  go_enter Tryd.func48, Tryd.ntmps48
  go_wp2_with fail
  go_loopw [4, 5] (fun v i wr => ∃ (k : Nat) (p : Option Addr) (c : Nat) (ys : List UInt8), v = .slice p k c ∧ i = .int .i64 (2 * (k : Int)) ∧ 2 * k ≤ n ∧ Hid (ys.length = k) ∧ Hid (Own wr ww.heap.size 5 (.slice p k c) (u8s ys)) ∧ Hid (Only [] ww wr) ∧ Hid (unhexB xs = (unhexB (xs.drop (2 * k))).map (ys ++ ·))) (fun _ i _ => n - (intOf i).toNat)
  case atStart => exact ⟨0, _, _, [], rfl, rfl, by omega, Lib.hid rfl, Lib.hid (Own.ofRow (vs := []) (rest := []) (Nat.le_refl _) (Row.new ww 5 []) rfl (by omega)), Lib.hid (Only.alloc ww _), Lib.hid (by simp)⟩
  case round =>
    obtain ⟨k, p, c, ys, rfl, rfl, hk, Hl, O, Ho, He⟩ := hrel
    by_cases hlt : 2 * k < n
    · by_cases hodd : 2 * k + 1 = n
      · have hlast : unhexB xs = none := by
          have e : (xs.drop (2 * k)).length = 1 := by rw [List.length_drop, ← Hn.out]; omega
          rw [He.out]
          match xs.drop (2 * k), e with
          | [_], _ => rfl
        have hd : ((2 * (k : Int) + 1) == (n : Int)) = true := by simp; omega
        have Hlast := Lib.hid hlast
        clear hlast hodd
        go_wp2_with fail
        go_ret2
        exact Hno.out Hlast.out _ Ho.out
      · have hlt2 : 2 * k + 1 < n := by omega
        have hd : ((2 * (k : Int) + 1) == (n : Int)) = false := by simp; omega
        obtain ⟨a, ha⟩ : ∃ a, xs[2 * k]? = some a := ⟨_, List.getElem?_eq_getElem (by rw [← Hn.out]; exact hlt)⟩
        obtain ⟨b, hb'⟩ : ∃ b, xs[2 * k + 1]? = some b := ⟨_, List.getElem?_eq_getElem (by rw [← Hn.out]; exact hlt2)⟩
        have Hia : Hid (∀ w, (Instr.index 9 (.string S) (.int .i64 (2 * (k : Int)))).run Tryd.prog w = .ok (.int .u8 (a.toNat : Int)) w) := Lib.hid fun w => by
          have := run_index_str (P := Tryd.prog) w Tryd.underlying9 xs S HS.out (2 * k) a ha .i64
          push_cast at this; exact this
        have Hib : Hid (∀ w, (Instr.index 9 (.string S) (.int .i64 (2 * (k : Int) + 1))).run Tryd.prog w = .ok (.int .u8 (b.toNat : Int)) w) := Lib.hid fun w => by
          have := run_index_str (P := Tryd.prog) w Tryd.underlying9 xs S HS.out (2 * k + 1) b hb' .i64
          push_cast at this; exact this
        have hSa : ∀ h : 2 * k < S.size, S[2 * k]'h = a := by
          have e := HS.out; subst e
          intro h
          have h0 := (List.getElem?_eq_some_iff.1 ha).2
          show xs.toArray[2 * k]'_ = a
          simpa using h0
        have hSb : ∀ h : 2 * k + 1 < S.size, S[2 * k + 1]'h = b := by
          have e := HS.out; subst e
          intro h
          have h0 := (List.getElem?_eq_some_iff.1 hb').2
          show xs.toArray[2 * k + 1]'_ = b
          simpa using h0
        have HSa := Lib.hid hSa
        have HSb := Lib.hid hSb
        clear hSa hSb
        have hstep := unhexB_step xs k a b ha hb'
        have hda := dv_all a
        have hdb := dv_all b
        have hca := digit_any a
        have hcb := digit_any b
        generalize dv a = da at hstep hda hca
        generalize dv b = db at hstep hdb hcb
        have Hca := Lib.hid hca
        have Hcb := Lib.hid hcb
        have Hstep := Lib.hid hstep
        have hda1 := hda.1
        have hda2 := hda.2.1
        have hdb1 := hdb.1
        have hdb2 := hdb.2.1
        clear hca hcb hstep ha hb' hda hdb
        by_cases h1 : da < 0
        · have hnone : unhexB xs = none := by rw [He.out, Hstep.out, if_pos (.inl h1)]; rfl
          have Hnone := Lib.hid hnone
          clear hnone
          go_wp2_with fail
          rw [HSa.out]
          (with_reducible refine (Hca.out _).mono ?_)
          rintro e w1 ⟨rfl, hw1⟩
          have hw1' := hw1.symm
          subst hw1'
          clear hw1
          go_wp2_with fail
          go_ret2
          exact Hno.out Hnone.out _ Ho.out
        · by_cases h2 : db < 0
          · have hnone : unhexB xs = none := by rw [He.out, Hstep.out, if_pos (.inr h2)]; rfl
            have Hnone := Lib.hid hnone
            clear hnone
            go_wp2_with fail
            rw [HSa.out]
            (with_reducible refine (Hca.out _).mono ?_)
            rintro e w1 ⟨rfl, hw1⟩
            have hw1' := hw1.symm
            subst hw1'
            clear hw1
            go_wp2_with fail
            rw [HSb.out]
            (with_reducible refine (Hcb.out _).mono ?_)
            rintro e w1 ⟨rfl, hw1⟩
            have hw1' := hw1.symm
            subst hw1'
            clear hw1
            go_wp2_with fail
            go_ret2
            exact Hno.out Hnone.out _ Ho.out
          · have hbad : ¬ (da < 0 ∨ db < 0) := by omega
            obtain ⟨na, rfl⟩ : ∃ m : Nat, da = (m : Int) := ⟨da.toNat, by omega⟩
            obtain ⟨nb, rfl⟩ : ∃ m : Nat, db = (m : Int) := ⟨db.toNat, by omega⟩
            have hna : na < 16 := by omega
            have hnb : nb < 16 := by omega
            have he2 : unhexB xs = (unhexB (xs.drop (2 * (k + 1)))).map ((ys ++ [UInt8.ofNat (16 * na + nb)]) ++ ·) := by
              rw [He.out, Hstep.out, if_neg hbad]
              simp only [Int.toNat_natCast, Option.map_map]
              congr 1
              funext z; simp
            have hx : ((16 * na + nb : Nat) : Int) = ((UInt8.ofNat (16 * na + nb)).toNat : Int) := by rw [UInt8.toNat_ofNat']; omega
            have hx8 : IntKind.u8.wrap (16 * (na : Int) + (nb : Int)) = ((UInt8.ofNat (16 * na + nb)).toNat : Int) := by rw [← hx]; simp [IntKind.wrap, IntKind.bits, IntKind.signed]; omega
            generalize UInt8.ofNat (16 * na + nb) = x at he2 hx8
            have Hx8 := Lib.hid hx8
            have He2 := Lib.hid he2
            have hpl : ∀ i ∈ blk p, i < wr.heap.size := fun i hi => by
              cases p with
              | none => simp [blk] at hi
              | some a => simp [blk] at hi; subst hi; exact (O.out.lt _ rfl).2
            have hpo := O.out.blk
            clear hbad he2 hx hx8 He Hstep
            go_wp2_with fail
            rw [HSa.out]
            (with_reducible refine (Hca.out _).mono ?_)
            rintro e w1 ⟨rfl, hw1⟩
            have hw1' := hw1.symm
            subst hw1'
            clear hw1
            go_wp2_with fail
            rw [HSb.out]
            (with_reducible refine (Hcb.out _).mono ?_)
            rintro e w1 ⟨rfl, hw1⟩
            have hw1' := hw1.symm
            subst hw1'
            clear hw1
            go_wp2_with fail
            have hRr : ∀ a, Only (blk p) a a := fun a => Only.refl _ _
            have hRt : ∀ a b e, Only (blk p) a b → Only (blk p) b e → Only (blk p) a e := fun a b e h h2 => h.trans h2 (fun i hi _ => hi)
            have hRd : Only (blk p) wr wr.drew := (Only.drew _).mono (by simp)
            have hC0 : ∀ i ∈ [14], (fun (_ : Nat) (a : World) => Only [] wr a) i wr.drew := fun _ _ => Only.drew _
            -- <<r7
            refine wp_region_rg4 (Only (blk p)) (Dirt [(14, blk p)]) (fun (_ : Nat) (a : World) => Only [] wr a) [14] [[(4, none)], [(0, none)], [(5, none)], [(34, some 1), (35, some 0)], [(36, some 0)], [(37, some 0)], [(0, none)], [(5, none)], [(40, some 0)], [(39, some 2), (41, some 0)], [(42, some 0)], [(38, some 5), (43, some 0)], [(44, some 0)], [(45, some 0)], [(33, some 13), (46, some 0)], [(47, some 0)]] [(4, 0)] [none, none, none, none, some 4, none, none, none, none, none, none, none, none, none, none, none, none, none, none, none, none, none, none, none, none, none, none, none, none, none, none, none, none, some 33, some 34, some 35, some 36, some 37, some 38, some 39, some 40, some 41, some 42, some 43, some 44, some 45, some 46, some 47, none] (by kernel_rfl) rfl (by kernel_rfl) hRr hRt (fun _ _ => Only.refl _ _) hRd hC0 (by kernel_rfl) (by kernel_rfl) ?_
            -- 0: s33 := move t4
            apply rgd_ev
            · intro a w hR hC hf
              obtain ⟨e4, -⟩ := hf
              replace e4 : a.tmps.getD 4 undef = _ := e4
              refine rg_plain rfl fun K hK => ?_
              go_simp
              exact hK _ _ rfl ⟨hRr _, Only.refl _ _, fun _ _ _ _ h => h⟩
            -- 1: s34 := move t0
            apply rgd_ev
            · intro a w hR hC hf
              obtain ⟨e0, -⟩ := hf
              replace e0 : a.tmps.getD 0 undef = _ := e0
              refine rg_plain rfl fun K hK => ?_
              go_simp
              exact hK _ _ rfl ⟨hRr _, Only.refl _ _, fun _ _ _ _ h => h⟩
            -- 2: s35 := move t5
            apply rgd_ev
            · intro a w hR hC hf
              obtain ⟨e5, -⟩ := hf
              replace e5 : a.tmps.getD 5 undef = _ := e5
              refine rg_plain rfl fun K hK => ?_
              go_simp
              exact hK _ _ rfl ⟨hRr _, Only.refl _ _, fun _ _ _ _ h => h⟩
            -- 3: s36 := index 9 t34 t35
            apply rgd_ev
            · intro a w hR hC hf
              obtain ⟨e34, e35, -⟩ := hf
              replace e34 : a.tmps.getD 34 undef = _ := e34
              replace e35 : a.tmps.getD 35 undef = _ := e35
              refine rg_plain rfl fun K hK => ?_
              exact rg_index (x := .tmp 34) (y := .tmp 35) rfl e34 e35 (Hia.out _) (hK _ _ rfl ⟨hRr _, Only.refl _ _, fun _ _ _ _ h => h⟩)
            -- 4: s37 := call { value (Operand.func 41), args := #[t36], #[5] }
            apply rgd_ev
            · intro a w hR hC hf
              obtain ⟨e36, -⟩ := hf
              replace e36 : a.tmps.getD 36 undef = _ := e36
              refine rg_plain rfl fun K hK => ?_
              go_simp
              (with_reducible refine (Hca.out _).mono ?_)
              rintro e w' ⟨rfl, rfl⟩
              exact hK _ _ rfl ⟨hRr _, Only.refl _ _, fun _ _ _ _ h => h⟩
            -- 5: s38 := binOp Binmul 3 (const (16:i64)) t37 3
            apply rgd_ev
            · intro a w hR hC hf
              obtain ⟨e37, -⟩ := hf
              replace e37 : a.tmps.getD 37 undef = _ := e37
              refine rg_plain rfl fun K hK => ?_
              have hw := IntWalk.i64_in (16 * (na : Int)) (by omega)
              go_simp
              exact hK _ _ rfl ⟨hRr _, Only.refl _ _, fun _ _ _ _ h => h⟩
            -- 6: s39 := move t0
            apply rgd_ev
            · intro a w hR hC hf
              obtain ⟨e0, -⟩ := hf
              replace e0 : a.tmps.getD 0 undef = _ := e0
              refine rg_plain rfl fun K hK => ?_
              go_simp
              exact hK _ _ rfl ⟨hRr _, Only.refl _ _, fun _ _ _ _ h => h⟩
            -- 7: s40 := move t5
            apply rgd_ev
            · intro a w hR hC hf
              obtain ⟨e5, -⟩ := hf
              replace e5 : a.tmps.getD 5 undef = _ := e5
              refine rg_plain rfl fun K hK => ?_
              go_simp
              exact hK _ _ rfl ⟨hRr _, Only.refl _ _, fun _ _ _ _ h => h⟩
            -- 8: s41 := binOp Binadd 3 t40 (const (1:i64)) 3
            apply rgd_ev
            · intro a w hR hC hf
              obtain ⟨e40, -⟩ := hf
              replace e40 : a.tmps.getD 40 undef = _ := e40
              refine rg_plain rfl fun K hK => ?_
              have hw := IntWalk.i64_in (2 * (k : Int) + 1) (by omega)
              go_simp
              exact hK _ _ rfl ⟨hRr _, Only.refl _ _, fun _ _ _ _ h => h⟩
            -- 9: s42 := index 9 t39 t41
            apply rgd_ev
            · intro a w hR hC hf
              obtain ⟨e39, e41, -⟩ := hf
              replace e39 : a.tmps.getD 39 undef = _ := e39
              replace e41 : a.tmps.getD 41 undef = _ := e41
              refine rg_plain rfl fun K hK => ?_
              exact rg_index (x := .tmp 39) (y := .tmp 41) rfl e39 e41 (Hib.out _) (hK _ _ rfl ⟨hRr _, Only.refl _ _, fun _ _ _ _ h => h⟩)
            -- 10: s43 := call { value (Operand.func 41), args := #[t42], #[5] }
            apply rgd_ev
            · intro a w hR hC hf
              obtain ⟨e42, -⟩ := hf
              replace e42 : a.tmps.getD 42 undef = _ := e42
              refine rg_plain rfl fun K hK => ?_
              go_simp
              (with_reducible refine (Hcb.out _).mono ?_)
              rintro e w' ⟨rfl, rfl⟩
              exact hK _ _ rfl ⟨hRr _, Only.refl _ _, fun _ _ _ _ h => h⟩
            -- 11: s44 := binOp Binadd 3 t38 t43 3
            apply rgd_ev
            · intro a w hR hC hf
              obtain ⟨e38, e43, -⟩ := hf
              replace e38 : a.tmps.getD 38 undef = _ := e38
              replace e43 : a.tmps.getD 43 undef = _ := e43
              refine rg_plain rfl fun K hK => ?_
              have hw := IntWalk.i64_in (16 * (na : Int) + (nb : Int)) (by omega)
              go_simp
              exact hK _ _ rfl ⟨hRr _, Only.refl _ _, fun _ _ _ _ h => h⟩
            -- 12: s45 := convert 3 5 t44
            apply rgd_ev
            · intro a w hR hC hf
              obtain ⟨e44, -⟩ := hf
              replace e44 : a.tmps.getD 44 undef = _ := e44
              refine rg_plain rfl fun K hK => ?_
              have hx8 := Hx8.out
              go_simp
              exact hK _ _ rfl ⟨hRr _, Only.refl _ _, fun _ _ _ _ h => h⟩
            -- 13: s46 := buildSlice 22 1 #[(0, t45)]
            refine ⟨OwnB 5 [x] wr.heap.size, stands_own _ _ _ (by intro x hx hk; obtain rfl := List.mem_singleton.1 hx; exact hpl), fun a w hR hC hf => ?_, ?_⟩
            · obtain ⟨e45, -⟩ := hf
              replace e45 : a.tmps.getD 45 undef = _ := e45
              refine rg_plain rfl fun K hK => ?_
              have e45q : a.tmps[45]?.getD undef = .int .u8 (x.toNat : Int) := by simpa using e45
              go_simp
              exact hK _ _ ⟨_, 1, 1, rfl, rfl, Own.ofRow (vs := u8s [x]) (rest := []) hR.size (Row.new w _ (u8s [x])) rfl (by omega)⟩ ⟨(Only.alloc w _).mono (by simp), Only.alloc w _, fun i _ _ _ hc => hc.trans0 (Only.alloc w _)⟩
            -- 14: s47 := call { builtin append, args := #[t33, t46], #[22, 22] }
            refine ⟨SlB ww.heap.size (k + 1) (ys ++ [x]), stands_of (SlB.stable _ _ _) (by intro x hx hk; obtain rfl := List.mem_singleton.1 hx; exact Bool.noConfusion (hk.symm.trans (by kernel_rfl : _ = true))), fun a w hR hC hf => ?_, ?_⟩
            · obtain ⟨e33, e46, -⟩ := hf
              replace e33 : a.tmps.getD 33 undef = _ := e33
              replace e46 : OwnB 5 [x] wr.heap.size (a.tmps.getD 46 undef) w := e46
              refine rg_plain rfl fun K hK => ?_
              have hC14 := hC 14 (by simp) (by kernel_rfl)
              obtain ⟨q', n', k', eB, hlB, owB⟩ := e46
              obtain rfl : n' = 1 := hlB.symm
              have vB := owB.view
              obtain ⟨p'', c'', w'', hra, oA, hA, hpA⟩ := append_owned (P := Tryd.prog) (n := k) (m := 1) (bytes := 1) (c := k') (news := u8s [x]) (t := 22) (ty := 22) w Tryd.underlying22 infoU8s rfl (O.out.only0 hC14) vB.1 rfl vB.2.2.1 (fun v hv => u8s_one hv) (by omega) (by omega) (by have := Ho.out.size; have := hC14.size; omega)
              refine rg_append (s := .tmp 33) (x := .tmp 46) rfl e33 eB hra ?_
              exact hK _ _ ⟨p'', c'', rfl, by rw [u8s_append]; exact oA⟩ ⟨hA, hA, fun i hi hne ha _ => absurd (List.mem_singleton.1 hi) hne⟩
            -- 15: s4 := assign t47
            refine ⟨SlB ww.heap.size (k + 1) (ys ++ [x]), stands_of (SlB.stable _ _ _) (by intro x hx hk; obtain rfl := List.mem_singleton.1 hx; exact Bool.noConfusion (hk.symm.trans (by kernel_rfl : _ = true))), fun a w hR hC hf => ?_, ?_⟩
            · obtain ⟨e47, -⟩ := hf
              replace e47 : SlB ww.heap.size (k + 1) (ys ++ [x]) (a.tmps.getD 47 undef) w := e47
              refine rg_plain rfl fun K hK => ?_
              generalize hv47 : a.tmps.getD 47 undef = v47 at e47
              go_simp
              exact hK _ _ e47 ⟨hRr _, Only.refl _ _, fun _ _ _ _ h => h⟩
            intro f7 w7 hR7 hf hz7
            dsimp only [mergeT]
            obtain ⟨e4, -⟩ := hf
            replace e4 : SlB ww.heap.size (k + 1) (ys ++ [x]) (f7 4) w7 := e4
            -- r7>>
            obtain ⟨p', c', e4, o4⟩ := e4
            rw [e4]
            clear e4
            have O4 := Lib.hid o4
            have Ho4 := Lib.hid (Ho.out.transN hR7 (fun k hk => hpo k hk))
            clear hz7 hR7 hC0 hRt hRr hRd o4 O Ho hpl hpo
            go_wp2_with fail
            refine ⟨⟨k + 1, p', c', ys ++ [x], rfl, by go_num, by omega, Lib.hid (by rw [List.length_append, Hl.out]; rfl), O4, Ho4, He2⟩, by simp [intOf]; omega⟩
    · obtain rfl : n = 2 * k := by omega
      go_wp2_with fail
      go_ret2
      refine ⟨p, c, ys, true, by rw [Hl.out]; rfl, by rw [Hl.out]; exact O.out, Ho.out, .inl ⟨rfl, ?_⟩⟩
      rw [He.out, List.drop_of_length_le (by rw [← Hn.out]; exact Nat.le_refl _)]
      simp [unhexB]
end Go.Proofs.YtfoplbolbjcggaaDoor
