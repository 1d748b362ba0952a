/- The walk of the hash's sum. -/
import Derived.Test.YtfoplbolbjcggaaDoorShaSumMath
set_option linter.unusedVariables false
set_option maxRecDepth 100000
namespace Go.Proofs.YtfoplbolbjcggaaDoor
open Go.RowKit

set_option maxRecDepth 100000 in
set_option maxHeartbeats 20000000 in
theorem hashSum_any (ww : World) (F : List Nat) (B : Nat) (xs : List UInt8) (hw : Hs ww F B xs) (hb : xs.length ≤ 1152921504606846976) :
    Calls Tryd.prog 88 #[.pointer (some ⟨B, 0, none⟩)] ww fun e w' => e = .returned (.agg (u8s (shaB xs)).toArray) ∧ Only [] ww w' := by
  unfold Hs at hw
  obtain ⟨p, c0, rfl, r, o, hne⟩ := hw
  obtain ⟨N, hN⟩ : ∃ N, N = xs.length := ⟨_, rfl⟩
  rw [← hN] at r o hb
  obtain ⟨j0, hj0⟩ : ∃ j0, j0 = N / 64 := ⟨_, rfl⟩
  rw [← hj0] at r o
  have hans : shaB xs = outB (digN st0 ((N + 72) / 64) (xs ++ tailB N)) := by rw [hN]; rfl
  obtain ⟨Y, hY⟩ : ∃ Y, Y = xs ++ tailB N := ⟨_, rfl⟩
  rw [← hY] at hans
  obtain ⟨A, hA⟩ : ∃ A, A = shaB xs := ⟨_, rfl⟩
  rw [← hA] at hans ⊢
  clear hA
  obtain ⟨L, hL⟩ : ∃ L, L = xs.drop (64 * j0) := ⟨_, rfl⟩
  rw [← hL] at r o
  obtain ⟨s0, hs0⟩ : ∃ s, s = digN st0 j0 Y := ⟨_, rfl⟩
  rw [show digN st0 j0 xs = s0 by rw [hs0, hY, digN_app _ _ _ _ (by omega)]] at r
  have hLY : L ++ tailB N = Y.drop (64 * j0) := by rw [hL, hY, List.drop_append_of_le_length (by omega)]
  obtain ⟨l, hl⟩ : ∃ l, l = L.length := ⟨_, rfl⟩
  have hll : l = N % 64 := by rw [hl, hL, List.length_drop]; omega
  rw [← hl] at r o
  have hYl : Y.length = N + (tailB N).length := by rw [hY, List.length_append, hN]
  obtain ⟨ht1, ht2⟩ := tail_len N
  rw [← hYl] at ht1 ht2
  have hBl := r.lt
  have hBne : B ≠ ww.heap.size := by omega
  have hc8 := r.cell (hrow_8 _ _ _)
  have hc9 := r.cell (hrow_9 _ _ _)
  have R := Lib.hid r
  have O := Lib.hid o
  have Hans := Lib.hid hans
  have Hs0 := Lib.hid hs0
  have HLY := Lib.hid hLY
  have Hj0 := Lib.hid hj0
  have Hl := Lib.hid hl
  have Hll := Lib.hid hll
  have Ht1 := Lib.hid ht1
  have Ht2 := Lib.hid ht2
  have HN := Lib.hid hN
  clear r o hans hs0 hLY hj0 hl hll ht1 ht2 hYl hY hL hN
  -- the copy of what is left
  have hlN : l < 64 := by rw [Hll.out]; omega
  obtain ⟨w0, hw0⟩ : ∃ w0, w0 = ww.alloc (.cells (u8s (List.replicate 32 0)).toArray 122) := ⟨_, rfl⟩
  have ho0 : Only [] ww w0 := by rw [hw0]; exact Only.alloc _ _
  obtain ⟨p1, c1, w1, hr1, o1, h1, hp1⟩ := append_owned (P := Tryd.prog) (n := 0) (m := l) (c := c0) (bytes := 1) (q := p) (news := u8s L) (t := 22) (ty := 22) w0 Tryd.underlying22 infoU8s rfl (Own.nil w0 (ww.heap.size + 1) _) (O.out.rd.only0 ho0) (by rw [u8s_length, Hl.out]) O.out.nilp (fun v hv => u8s_one hv) (by omega) (by omega) (by rw [hw0]; simp)
  rw [Nat.zero_add] at hr1 o1
  rw [List.nil_append] at o1
  have ho1 : Only [] ww w1 := ho0.trans0 h1
  obtain ⟨p2, c2, w2, Hr2, o2, h2⟩ := push1 w1 (ww.heap.size + 1) p1 l c1 L 128 o1 (by omega) (by have := h1.size; rw [hw0] at this; simp at this; omega)
  have ho2 : Only [] ww w2 := ho1.transN h2 (fun k hk => by have := o1.blk k hk; omega)
  have Hr1 := Lib.hid hr1
  have rz : Row w2 ww.heap.size 122 (u8s (List.replicate 32 0)) := by
    have hne1 : ww.heap.size ∉ blk p1 := fun h => by have := o1.blk _ h; omega
    have h0 : Row w0 ww.heap.size 122 (u8s (List.replicate 32 0)) := by rw [hw0]; exact Row.new _ _ _
    exact (h0.only0 h1).only h2 hne1
  clear hr1 h1 hp1 h2 ho1 ho0
  subst hw0
  go_enter Tryd.func88, Tryd.ntmps88
  go_wp2_with (first | (at_builtin; refine wpl_append (s := .const (.slice none 0 0)) (x := .tmp 13) rfl rfl rfl rfl Hr1.out ?_) | (at_builtin; refine wpl_append (s := .tmp 15) (x := .tmp 16) rfl rfl rfl rfl Hr2.out ?_))
  have O2 := Lib.hid (o2)
  have Rz := Lib.hid rz
  have Ho2 := Lib.hid ho2
  have hBz : B ≠ ww.heap.size := by omega
  clear Hr1 Hr2 O rz o2 ho2 o1 hne hc8 hc9
  obtain ⟨zz, hzz⟩ : ∃ zz, zz = zeros N := ⟨_, rfl⟩
  have hz1 : 0 + (120 - (l + 1 + 0) % 64) % 64 = zz := by rw [hzz, Hll.out]; unfold zeros; omega
  have Hzz := Lib.hid hzz
  clear hzz
  go_loopw [3] (fun v wr => ∃ (k : Nat) (p : Option Addr) (c : Nat), v = .slice p (l + 1 + k) c ∧ Hid (k + (120 - (l + 1 + k) % 64) % 64 = zz) ∧ Hid (Own wr (ww.heap.size + 1) 5 (.slice p (l + 1 + k) c) (u8s (L ++ [128] ++ List.replicate k 0))) ∧ Hid (Row wr ww.heap.size 122 (u8s (List.replicate 32 0))) ∧ Hid (Only [] ww wr)) (fun v _ => match v with | .slice _ n _ => (120 - n % 64) % 64 | _ => 0)
  case atStart => exact ⟨0, p2, c2, rfl, Lib.hid hz1, Lib.hid (by simpa using O2.out), Rz, Ho2⟩
  case round =>
    clear Rz Ho2 O2 hz1
    obtain ⟨k, p, c, rfl, hk, O, Rz, Ho⟩ := hrel
    have hkz : k ≤ zz := by have := hk.out; omega
    have hzl : zz < 64 := by rw [Hzz.out]; unfold zeros; omega
    by_cases h56 : (l + 1 + k) % 64 = 56
    · have hd : (((l : Int) + 1 + (k : Int)) % 64 != 56) = false := by
        have : ((l : Int) + 1 + (k : Int)) % 64 = 56 := by omega
        rw [this]; rfl
      obtain rfl : k = zz := by have := hk.out; omega
      have hc9 := Ho.out.cell (R.out.cell (hrow_9 _ _ _)) (by simp)
      have hu1 : IntKind.u64.wrap (N : Int) = (N : Int) := by simp [IntKind.wrap, IntKind.bits, IntKind.signed]; omega
      obtain ⟨M, hM⟩ : ∃ M, M = 8 * N := ⟨_, rfl⟩
      have hu2 : IntKind.u64.wrap ((N : Int) * 8) = (M : Int) := by simp [IntKind.wrap, IntKind.bits, IntKind.signed]; omega
      have hMb : M < 18446744073709551616 := by omega
      have HM := Lib.hid hM
      clear hM hk
      go_wp2_with fail
      have hE : L ++ [128] ++ List.replicate k 0 ++ be64 M = Y.drop (64 * j0) := by
        rw [← HLY.out, HM.out]
        unfold tailB
        rw [← Hzz.out]; simp
      have hlE : (L ++ [128] ++ List.replicate k 0).length = l + 1 + k := by simp [← Hl.out]; omega
      generalize L ++ [128] ++ List.replicate k 0 = E at O hE hlE
      obtain ⟨e, he⟩ : ∃ e, e = l + 1 + k := ⟨_, rfl⟩
      rw [← he] at O hlE ⊢
      have hel : e ≤ 200 := by omega
      have HE := Lib.hid hE
      have HlE := Lib.hid hlE
      have hBt : (be64 M).length = 8 := rfl
      obtain ⟨T, hT⟩ : ∃ T, T = be64 M := ⟨_, rfl⟩
      rw [← hT] at hBt HE
      have HT := Lib.hid hT
      have He := Lib.hid he
      have HBt := Lib.hid hBt
      clear hE hlE hT he hBt hu1 hu2 hc9
      go_loopw [3, 5] (fun v i wr => ∃ (q : Nat) (p : Option Addr) (c : Nat), v = .slice p (e + q) c ∧ i = .int .i64 (56 - 8 * (q : Int)) ∧ q ≤ 8 ∧ Hid (Own wr (ww.heap.size + 1) 5 (.slice p (e + q) c) (u8s (E ++ T.take q))) ∧ Hid (Row wr ww.heap.size 122 (u8s (List.replicate 32 0))) ∧ Hid (Only [] ww wr)) (fun v i _ => (intOf i + 8).toNat)
      case atStart => exact ⟨0, p, c, rfl, rfl, by omega, Lib.hid (by simpa using O.out), Rz, Ho⟩
      case round =>
        clear O Rz Ho
        obtain ⟨q, p, c, rfl, rfl, hq, O, Rz, Ho⟩ := hrel
        by_cases hq8 : q < 8
        · obtain ⟨x, hx⟩ : ∃ x, T[q]? = some x := ⟨_, List.getElem?_eq_getElem (by rw [HBt.out]; exact hq8)⟩
          obtain ⟨p', c', w2, Hr, O', h'⟩ := push1 wr (ww.heap.size + 1) p (e + q) c _ x O.out (by omega) Rz.out.lt
          have hno : ∀ k ∈ blk p, ww.heap.size + 1 ≤ k := O.out.blk
          have O' := Lib.hid O'
          have hzb : ww.heap.size ∉ blk p := fun h => by have := hno _ h; omega
          have rz' := Rz.out.only h' hzb
          have hi1 : (0 : Int) ≤ 56 - 8 * (q : Int) := by omega
          have hxv : (M : Int) / 2 ^ (56 - 8 * q) % 256 = (x.toNat : Int) := be64_at M q x hq8 (by rw [← HT.out]; exact hx)
          have Hx := Lib.hid hx
          clear hx
          go_wp2_with (first | (at_builtin; refine wpl_append (s := .tmp 35) (x := .tmp 40) rfl rfl rfl rfl Hr.out ?_))
          refine ⟨⟨q + 1, p', c', by rw [Nat.add_assoc e], by congr 1; omega, by omega, Lib.hid ?_, Lib.hid rz', Lib.hid (Ho.out.transN h' (fun k hk => by have := hno k hk; omega))⟩, by simp [intOf]; omega⟩
          rw [List.take_add_one, Hx.out, ← Nat.add_assoc, ← List.append_assoc]
          exact O'.out
        · obtain rfl : q = 8 := by omega
          have rS := R.out.only0 Ho.out
          have hld := rS.loadMid (P := Tryd.prog) (o := 0) (us := u32s s0.l) Tryd.underlying197 infoSt (hrow_st _ _ _)
          obtain ⟨W1, hW1⟩ : ∃ W1, W1 = wr.alloc (.cells (List.replicate 8 (Value.int .u32 0)).toArray 197) := ⟨_, rfl⟩
          have oW1 : Only [] wr W1 := by rw [hW1]; exact Only.alloc _ _
          have r6 : Row W1 wr.heap.size 197 (List.replicate 8 (Value.int .u32 0)) := by rw [hW1]; exact Row.new _ _ _
          have hst := r6.storeAt (P := Tryd.prog) (ty := 197) (us := u32s s0.l) (by rw [u32s_length]; exact infoSt) (by rw [u32s_length]; rfl) (fun u hu => u32s_one hu)
          have r6' := r6.setRow (u32s s0.l)
          have oW2 : Only [wr.heap.size] W1 (W1.setRow wr.heap.size (u32s s0.l).toArray) := Only.setRow _ _ _
          have hsz := Rz.out.lt
          have hpl := O.out.lt
          have hg6 : wr.heap.size ∉ blk p := by
            cases p with
            | none => simp [blk]
            | some a => simp [blk]; have := (hpl _ rfl).2; omega
          have rz2 := (Rz.out.only0 oW1).only oW2 (by simp; omega)
          have oA := ((OwnA.ofOwn O.out).only0 oW1).only oW2 (fun k hk h => hg6 (by obtain rfl := List.mem_singleton.1 h; exact hk))
          have ho2 := (Ho.out.trans0 oW1).transN oW2 (by have := Ho.out.size; simpa using this)
          have e2 : E ++ T.take 8 = Y.drop (64 * j0) := by rw [List.take_of_length_le (by rw [HBt.out]; exact Nat.le_refl _)]; exact HE.out
          rw [e2] at oA
          have hg0 : ww.heap.size < wr.heap.size := hsz
          have Hst := Lib.hid hst
          have Hld := Lib.hid hld
          have H0 := Lib.hid (And.intro r6' (And.intro oA (And.intro rz2 ho2)))
          clear hst hld rS r6 r6' oW1 oW2 hsz hpl rz2 oA ho2 e2 O Rz Ho
          subst hW1
          go_wp2_with (first | ((with_reducible show wpList _ _ _ _ _ _); refine wpl_load (ty := 197) (x := .tmp 44) rfl rfl rfl Hld.out ?_) | ((with_reducible show wpList _ _ _ _ _ _); refine wpl_store (ty := 197) (x := .tmp 6) (y := .tmp 45) rfl rfl rfl rfl Hst.out ?_))
          dsimp only [Act.put]
          clear Hst Hld
          generalize (wr.alloc (.cells (List.replicate 8 (Value.int .u32 0)).toArray 197)).setRow wr.heap.size (u32s s0.l).toArray = w4 at H0 ⊢
          generalize wr.heap.size = g6 at H0 hg6 hg0 ⊢
          have hj0l : 64 * j0 ≤ Y.length := by
            have h1 := Ht2.out
            have h2 := Ht1.out
            have h3 := Hj0.out
            omega
          have hL0 : (Y.drop (64 * j0)).length = e + 8 := by rw [← HE.out, List.length_append, HlE.out, HBt.out]
          have hL1 : (e + 8) % 64 = 0 := by
            rw [List.length_drop] at hL0
            have h2 := Ht1.out
            omega
          have HL0 := Lib.hid hL0
          have HL1 := Lib.hid hL1
          clear hL0 hL1
          go_loopw [3] (fun v wr => ∃ (k lk : Nat) (sk : St) (Lk : List UInt8) (pk : Option Addr) (ck : Nat), v = .slice pk lk ck ∧ 64 * k ≤ Y.length ∧ Hid (Lk.length = lk) ∧ Hid (lk % 64 = 0) ∧ Hid (sk = digN st0 k Y) ∧ Hid (Lk = Y.drop (64 * k)) ∧ Hid (Row wr g6 197 (u32s sk.l)) ∧ Hid (OwnA wr (ww.heap.size + 1) 5 pk lk ck (u8s Lk)) ∧ g6 ∉ blk pk ∧ Hid (Row wr ww.heap.size 122 (u8s (List.replicate 32 0))) ∧ Hid (Only [] ww wr)) (fun v _ => match v with | .slice _ n _ => n | _ => 0)
          case atStart => exact ⟨j0, e + 8, s0, Y.drop (64 * j0), p, c, rfl, hj0l, HL0, HL1, Hs0, Lib.hid rfl, Lib.hid H0.out.1, Lib.hid H0.out.2.1, hg6, Lib.hid H0.out.2.2.1, Lib.hid H0.out.2.2.2⟩
          case round =>
            clear H0 HL0 HL1 hj0l hg6 hel HE HlE HT He HBt
            obtain ⟨k, lk, sk, Lk, pk, ck, rfl, hk, Hlk, Hlm, Hsk, HLk, R6, O, hnk, Rz, Ho⟩ := hrel
            by_cases h64 : 0 < lk
            · have h64' : 64 ≤ lk := by have := Hlm.out; omega
              have hi1 : (0 : Int) < (lk : Int) := by omega
              have hi2 : (64 : Int) ≤ (lk : Int) := by omega
              have hck : lk ≤ ck := O.out.2.1
              have hi3 : (64 : Int) ≤ (ck : Int) := by omega
              have hck0 : ck ≠ 0 := by omega
              obtain ⟨s1, hs1⟩ : ∃ s1, s1 = dig sk (Lk.take 64) := ⟨_, rfl⟩
              have hdig := fun w h => dig_any sk pk (Lk.take 64) ck w (by rw [List.length_take, Hlk.out]; omega) h
              rw [← hs1] at hdig
              have Hdig := Lib.hid hdig
              have hrdk := O.out.rd.take 64
              rw [u8s_take] at hrdk
              have Hrd : Hid (∀ w, Only [g6] wr w → Rd w pk (u8s (Lk.take 64))) := Lib.hid fun w h => hrdk.only h (fun a ha hb => hnk (by obtain rfl := List.mem_singleton.1 hb; rw [ha]; simp [blk]))
              have Hs1 := Lib.hid hs1
              clear hdig hrdk hs1
              go_wp2_with fail
              have hRr : ∀ a, Only [g6] a a := fun a => Only.refl _ _
              have hRt : ∀ a b e, Only [g6] a b → Only [g6] b e → Only [g6] a e := fun a b e h h2 => h.trans h2 (fun i hi _ => hi)
              have hRd : Only [g6] wr wr.drew := (Only.drew _).mono (by simp)
              have hC0 : ∀ i ∈ [4], (fun (_ : Nat) (a : World) => Row a g6 197 (u32s sk.l)) i wr.drew := fun _ _ => R6.out.only0 (Only.drew _)
              -- <<r13
              refine wp_region_rg4 (Only [g6]) (Dirt [(4, [g6])]) (fun (_ : Nat) (a : World) => Row a g6 197 (u32s sk.l)) [4] [[(6, none)], [(3, none)], [(52, some 0)], [(51, some 2), (53, some 0)], [(6, none), (54, some 0)]] [] [none, none, none, none, none, none, none, none, none, none, none, none, none, none, none, none, none, none, none, none, none, none, none, none, none, none, none, none, none, none, none, none, none, none, none, none, none, none, none, none, none, none, none, none, none, none, none, none, none, none, none, some 51, some 52, some 53, some 54, none, none, none, none, none, none, none, none, none, none, none, none, none, none, none, none, none, none, none, none, none, none, none, none, none, none, none, none, none, none, none, none, none] (by kernel_rfl) rfl (by kernel_rfl) hRr hRt (fun _ _ => Only.refl _ _) hRd hC0 (by kernel_rfl) (by kernel_rfl) ?_
              -- 0: s51 := load 63 t6
              apply rgd_ev
              · intro a w hR hC hf
                obtain ⟨e6, -⟩ := hf
                replace e6 : a.tmps.getD 6 undef = _ := e6
                refine rg_plain rfl fun K hK => ?_
                have hl := (hC 4 (by simp) (by kernel_rfl)).loadAt (P := Tryd.prog) Tryd.underlying197 (by rw [u32s_length]; exact infoSt)
                exact rg_load (x := .tmp 6) rfl e6 hl (hK _ _ rfl ⟨hRr _, Only.refl _ _, fun _ _ _ _ h => h⟩)
              -- 1: s52 := move t3
              apply rgd_ev
              · intro a w hR hC hf
                obtain ⟨e3, -⟩ := hf
                replace e3 : a.tmps.getD 3 undef = _ := e3
                refine rg_plain rfl fun K hK => ?_
                go_simp
                exact hK _ _ rfl ⟨hRr _, Only.refl _ _, fun _ _ _ _ h => h⟩
              -- 2: s53 := slice 22 t52 none (some (const (64:i64))) none
              apply rgd_ev
              · intro a w hR hC hf
                obtain ⟨e52, -⟩ := hf
                replace e52 : a.tmps.getD 52 undef = _ := e52
                refine rg_plain rfl fun K hK => ?_
                go_simp
                exact hK _ _ rfl ⟨hRr _, Only.refl _ _, fun _ _ _ _ h => h⟩
              -- 3: s54 := call { value (Operand.func 37), args := #[t51, t53], #[63, 22] }
              apply rgd_ev
              · intro a w hR hC hf
                obtain ⟨e51, e53, -⟩ := hf
                replace e51 : a.tmps.getD 51 undef = _ := e51
                replace e53 : a.tmps.getD 53 undef = _ := e53
                refine rg_plain rfl fun K hK => ?_
                go_simp
                (with_reducible refine (Hdig.out w (Hrd.out w hR)).mono ?_)
                rintro e w' ⟨rfl, ho⟩
                exact hK _ _ rfl ⟨ho.mono (by simp), ho, fun i hi hne ha h => h.only0 ho⟩
              -- 4: sNone := store 63 t6 t54
              refine ⟨fun _ a => Row a g6 197 (u32s s1.l), stands_of (fun _ _ _ h ho => h.only0 ho) (by intro x hx hk; obtain rfl := List.mem_singleton.1 hx; simp at hk), fun a w hR hC hf => ?_, ?_⟩
              · obtain ⟨e6, e54, -⟩ := hf
                replace e6 : a.tmps.getD 6 undef = _ := e6
                replace e54 : a.tmps.getD 54 undef = _ := e54
                refine rg_plain rfl fun K hK => ?_
                have hC4 := hC 4 (by simp) (by kernel_rfl)
                have hst := hC4.storeAt (P := Tryd.prog) (ty := 197) (us := u32s s1.l) (by rw [u32s_length]; exact infoSt) (by rw [u32s_length, u32s_length]; rfl) (fun u hu => u32s_one hu)
                have hoo : Only [g6] w (w.setRow g6 (u32s s1.l).toArray) := Only.setRow _ _ _
                refine rg_store (x := .tmp 6) (y := .tmp 54) rfl e6 e54 hst (hK _ _ ?_ ⟨hoo, hoo, fun i hi hne ha _ => absurd (List.mem_singleton.1 hi) hne⟩)
                exact hC4.setRow _
              intro f13 w13 hR13 hf hz13
              dsimp only [mergeT]
              -- r13>>
              obtain ⟨v4, r4⟩ := hz13 _ (List.mem_cons_self ..)
              go_wp2_with fail
              have hlen3 : lk = Y.length - 64 * k := by rw [← Hlk.out, HLk.out, List.length_drop]
              have hs3 : s1 = digN st0 (k + 1) Y := by rw [Hs1.out, Hsk.out, HLk.out]; exact dig_step k Y (by rw [← HLk.out, Hlk.out]; exact h64')
              have hL3 : Lk.drop 64 = Y.drop (64 * (k + 1)) := by rw [HLk.out]; exact left_step k Y
              obtain ⟨ocut, hblk⟩ := O.out.cut 64 h64' (by omega)
              rw [O.out.cutp 64]
              generalize (if ck = 64 then pk else pk.map (·.add 64)) = pk2 at ocut hblk ⊢
              have hnk2 : g6 ∉ blk pk2 := by rw [hblk]; exact hnk
              rw [u8s_drop] at ocut
              have ocut2 := ocut.only hR13 (fun x hx h => hnk2 (by obtain rfl := List.mem_singleton.1 h; exact hx))
              refine ⟨⟨k + 1, lk - 64, s1, Lk.drop 64, pk2, ck - 64, rfl, by omega, Lib.hid (by rw [List.length_drop, Hlk.out]), Lib.hid (by have := Hlm.out; omega), Lib.hid hs3, Lib.hid hL3, Lib.hid r4, Lib.hid ocut2, hnk2, Lib.hid (Rz.out.only hR13 (by simp; omega)), Lib.hid (Ho.out.transN hR13 (by simp; omega))⟩, ?_⟩
              show lk - 64 < lk
              omega
            · obtain rfl : lk = 0 := by omega
              have hlen3 : 0 = Y.length - 64 * k := by rw [← Hlk.out, HLk.out, List.length_drop]
              have hkk : k = (N + 72) / 64 := by have := Ht2.out; omega
              have hans : A = outB sk := by rw [Hans.out, Hsk.out, hkk]
              obtain ⟨W1, hW1⟩ : ∃ W1, W1 = wr.alloc (.cells #[.int .u8 0, .int .u8 0, .int .u8 0, .int .u8 0, .int .u8 0, .int .u8 0, .int .u8 0, .int .u8 0, .int .u8 0, .int .u8 0, .int .u8 0, .int .u8 0, .int .u8 0, .int .u8 0, .int .u8 0, .int .u8 0, .int .u8 0, .int .u8 0, .int .u8 0, .int .u8 0, .int .u8 0, .int .u8 0, .int .u8 0, .int .u8 0, .int .u8 0, .int .u8 0, .int .u8 0, .int .u8 0, .int .u8 0, .int .u8 0, .int .u8 0, .int .u8 0] 122) := ⟨_, rfl⟩
              have oW1 : Only [] wr W1 := by rw [hW1]; exact Only.alloc _ _
              have r7 : Row W1 wr.heap.size 122 (u8s (List.replicate 32 0)) := by rw [hW1]; exact Row.newOf _ _ _ _ (by rfl)
              have hld := (R6.out.only0 oW1).loadAt (P := Tryd.prog) Tryd.underlying197 (by rw [u32s_length]; exact infoSt)
              have hzg : ww.heap.size < wr.heap.size := Rz.out.lt
              have rz1 := Rz.out.only0 oW1
              have ho1 := Ho.out.trans0 oW1
              have H0 := Lib.hid (And.intro r7 (And.intro rz1 ho1))
              have HA := Lib.hid hans
              have Hld := Lib.hid hld
              clear hld rz1 ho1 r7 oW1 hans hkk hlen3 hnk O Rz Ho R6 Hlk HLk Hsk Hlm
              subst hW1
              go_wp2_with (first | ((with_reducible show wpList _ _ _ _ _ _); refine wpl_load (ty := 197) (x := .tmp 6) rfl rfl rfl Hld.out ?_))
              clear Hld
              generalize wr.alloc (.cells #[.int .u8 0, .int .u8 0, .int .u8 0, .int .u8 0, .int .u8 0, .int .u8 0, .int .u8 0, .int .u8 0, .int .u8 0, .int .u8 0, .int .u8 0, .int .u8 0, .int .u8 0, .int .u8 0, .int .u8 0, .int .u8 0, .int .u8 0, .int .u8 0, .int .u8 0, .int .u8 0, .int .u8 0, .int .u8 0, .int .u8 0, .int .u8 0, .int .u8 0, .int .u8 0, .int .u8 0, .int .u8 0, .int .u8 0, .int .u8 0, .int .u8 0, .int .u8 0] 122) = w4 at H0 ⊢
              generalize wr.heap.size = g7 at H0 hzg ⊢
              have HlA : Hid (A.length = 32) := Lib.hid (by rw [HA.out]; rfl)
              obtain ⟨Z, hZ⟩ : ∃ Z, Z = List.replicate 32 (0 : UInt8) := ⟨_, rfl⟩
              rw [← hZ] at H0
              have HZ : Hid (Z = List.replicate 32 (0 : UInt8)) := Lib.hid hZ
              clear hZ
              go_loopw [56] (fun i wr => ∃ (j : Nat), i = .int .i64 (j : Int) ∧ j ≤ 8 ∧ Hid (Row wr g7 122 (u8s (fill32 A (4 * j)))) ∧ Hid (Row wr ww.heap.size 122 (u8s Z)) ∧ Hid (Only [] ww wr)) (fun i _ => 8 - (intOf i).toNat)
              case atStart => exact ⟨0, rfl, by omega, Lib.hid (by have := H0.out.1; rw [HZ.out] at this; exact this), Lib.hid H0.out.2.1, Lib.hid H0.out.2.2⟩
              case round =>
                clear H0
                obtain ⟨j, rfl, hj, R7, Rz, Ho⟩ := hrel
                by_cases hlt : j < 8
                · obtain ⟨x, hx⟩ : ∃ x, sk.l[j]? = some x := ⟨_, List.getElem?_eq_getElem hlt⟩
                  obtain ⟨hb0, hb1, hb2, hb3⟩ := outB_at sk j x hx
                  rw [← HA.out] at hb0 hb1 hb2 hb3
                  have hgx : (u32s sk.l)[j]? = some (.int .u32 (x.toNat : Int)) := u32s_get hx
                  have hji : (j : Int) < 8 := by omega
                  have hlF := fill32_len A HlA.out (4 * j) (by omega)
                  have hcell : ∀ i, i < 32 → ∃ v, wr.cell? ⟨g7, i, none⟩ = some v := fun i hi => ⟨_, R7.out.cell (List.getElem?_eq_getElem (by rw [u8s_length, hlF]; exact hi))⟩
                  obtain ⟨v0, hc0⟩ := hcell (4 * j) (by omega)
                  obtain ⟨v1, hc1⟩ := hcell (4 * j + 1) (by omega)
                  obtain ⟨v2, hc2⟩ := hcell (4 * j + 2) (by omega)
                  obtain ⟨v3, hc3⟩ := hcell (4 * j + 3) (by omega)
                  have hf0 := R7.out.free (4 * j)
                  have hf1 := R7.out.free (4 * j + 1)
                  have hf2 := R7.out.free (4 * j + 2)
                  have hf3 := R7.out.free (4 * j + 3)
                  have ha0 : (0 : Int) ≤ 4 * (j : Int) := by omega
                  have hz0 : 4 * (j : Int) < 32 := by omega
                  have ht0 : (4 * (j : Int)).toNat = 4 * j := by omega
                  have ha1 : (0 : Int) ≤ 4 * (j : Int) + 1 := by omega
                  have hz1 : 4 * (j : Int) + 1 < 32 := by omega
                  have ht1 : (4 * (j : Int) + 1).toNat = 4 * j + 1 := by omega
                  have ha2 : (0 : Int) ≤ 4 * (j : Int) + 2 := by omega
                  have hz2 : 4 * (j : Int) + 2 < 32 := by omega
                  have ht2 : (4 * (j : Int) + 2).toNat = 4 * j + 2 := by omega
                  have ha3 : (0 : Int) ≤ 4 * (j : Int) + 3 := by omega
                  have hz3 : 4 * (j : Int) + 3 < 32 := by omega
                  have ht3 : (4 * (j : Int) + 3).toNat = 4 * j + 3 := by omega
                  clear hcell hlF
                  have hidx := run_index_agg (P := Tryd.prog) wr (t := 197) (e := 160) (u32s sk.l).toArray .i64 (j : Int) _ Tryd.underlying197 Tryd.underlying160 rfl (by kernel_rfl) (by omega) hji (by simpa using hgx)
                  have Hidx := Lib.hid hidx
                  clear hx hidx hgx
                  go_wp2_with (first | ((with_reducible show wpList _ _ _ _ _ _); refine wpl_index (ty := 197) (x := .tmp 55) (y := .tmp 56) rfl rfl rfl rfl Hidx.out ?_))
                  obtain ⟨e0, e1, e2, e3⟩ := byte_cells x
                  rw [e0, e1, e2, e3]
                  have r0 := R7.out.setCell (4 * j) (Go.Proofs.YtfoplbolbjcggaaDoor.u8 (UInt8.ofNat (x.toNat / 16777216)))
                  rw [u8s_set, fill32_set A HlA.out hb0] at r0
                  have r1 := r0.setCell (4 * j + 1) (Go.Proofs.YtfoplbolbjcggaaDoor.u8 (UInt8.ofNat (x.toNat / 65536)))
                  rw [u8s_set, fill32_set A HlA.out hb1] at r1
                  have r2 := r1.setCell (4 * j + 2) (Go.Proofs.YtfoplbolbjcggaaDoor.u8 (UInt8.ofNat (x.toNat / 256)))
                  rw [u8s_set, fill32_set A HlA.out hb2] at r2
                  have r3 := r2.setCell (4 * j + 3) (Go.Proofs.YtfoplbolbjcggaaDoor.u8 (UInt8.ofNat x.toNat))
                  rw [u8s_set, fill32_set A HlA.out hb3] at r3
                  have o : Only [g7] wr (World.setCell (World.setCell (World.setCell (World.setCell wr ⟨g7, 4 * j, none⟩ (Go.Proofs.YtfoplbolbjcggaaDoor.u8 (UInt8.ofNat (x.toNat / 16777216)))) ⟨g7, 4 * j + 1, none⟩ (Go.Proofs.YtfoplbolbjcggaaDoor.u8 (UInt8.ofNat (x.toNat / 65536)))) ⟨g7, 4 * j + 2, none⟩ (Go.Proofs.YtfoplbolbjcggaaDoor.u8 (UInt8.ofNat (x.toNat / 256)))) ⟨g7, 4 * j + 3, none⟩ (Go.Proofs.YtfoplbolbjcggaaDoor.u8 (UInt8.ofNat x.toNat))) :=
                    (((Only.setCell wr ⟨g7, 4 * j, none⟩ _).trans (Only.setCell _ ⟨g7, 4 * j + 1, none⟩ _) (fun i hi _ => hi)).trans (Only.setCell _ ⟨g7, 4 * j + 2, none⟩ _) (fun i hi _ => hi)).trans (Only.setCell _ ⟨g7, 4 * j + 3, none⟩ _) (fun i hi _ => hi)
                  refine ⟨⟨j + 1, by go_num, by omega, Lib.hid r3, Lib.hid (Rz.out.only o (by simp; omega)), Lib.hid (Ho.out.transN o (by simp; omega))⟩, by simp [intOf]; omega⟩
                · obtain rfl : j = 8 := by omega
                  have r7 := R7.out
                  have hfull : fill32 A (4 * 8) = A := by unfold fill32; rw [List.take_of_length_le (by rw [HlA.out]; exact Nat.le_refl _)]; simp
                  rw [hfull] at r7
                  have hsz : (Tryd.prog.info? 122).map (·.size) = some (u8s A).length := by rw [u8s_length, HlA.out]; kernel_rfl
                  have hld := r7.loadAt (P := Tryd.prog) Tryd.underlying122 hsz
                  have hst := Rz.out.storeAt (P := Tryd.prog) hsz (by rw [u8s_length, u8s_length, HlA.out, HZ.out]; simp) (fun u hu => u8s_one hu)
                  have hrow := Rz.out.setRow (u8s A)
                  have hos : Only [ww.heap.size] wr (wr.setRow ww.heap.size (u8s A).toArray) := Only.setRow _ _ _
                  have Hrow := Lib.hid hrow
                  have Hld := Lib.hid hld
                  have Hst := Lib.hid hst
                  have Hsz := Lib.hid hsz
                  clear hld hst hfull hsz hrow r7 Rz R7
                  go_wp2_with (first | ((with_reducible show wpList _ _ _ _ _ _); refine wpl_load (ty := 122) (x := .tmp 7) rfl rfl rfl Hld.out ?_) | ((with_reducible show wpList _ _ _ _ _ _); refine wpl_store (ty := 122) (x := .tmp 2) (y := .tmp 87) rfl rfl rfl rfl Hst.out ?_))
                  refine bodyPost_ret (results_cell_row (p := 2) rfl _ _ ww.heap.size 122 (u8s A).toArray (0, 0) _ (by rfl) Hrow.out Tryd.underlying122 rfl (by rw [List.size_toArray]; exact Hsz.out)) (by rfl) ?_
                  exact ⟨rfl, Ho.out.transN hos (by simp)⟩
    · have hd : (((l : Int) + 1 + (k : Int)) % 64 != 56) = true := by
        have : ((l : Int) + 1 + (k : Int)) % 64 ≠ 56 := by omega
        simpa using this
      obtain ⟨p', c', w2, Hr, O', h'⟩ := push1 wr (ww.heap.size + 1) p (l + 1 + k) c _ 0 O.out (by omega) Rz.out.lt
      have hno : ∀ k ∈ blk p, ww.heap.size + 1 ≤ k := O.out.blk
      have O' := Lib.hid O'
      have hzb : ww.heap.size ∉ blk p := fun h => by have := hno _ h; omega
      have rz' := Rz.out.only h' hzb
      go_wp2_with (first | (at_builtin; refine wpl_append (s := .tmp 22) (x := .tmp 23) rfl rfl rfl rfl Hr.out ?_))
      go_roundw
      case rel => exact ⟨k + 1, p', c', by rw [Nat.add_assoc (l + 1)], Lib.hid (by have := hk.out; omega), Lib.hid (by rw [← Nat.add_assoc, List.replicate_succ']; rw [← List.append_assoc]; exact O'.out), Lib.hid rz', Lib.hid (Ho.out.transN h' (fun k hk => by have := hno k hk; omega))⟩
      case measure => simp; omega
end Go.Proofs.YtfoplbolbjcggaaDoor
