/- The walk of rs.pieces. -/
import Derived.Test.YtlgcclhepegggaaDoorRsShards
set_option linter.unusedVariables false
set_option maxRecDepth 100000
namespace Go.Proofs.YtlgcclhepegggaaDoor
open Go.RowKit

/-- what pieces hands back -/
def PiecesEnd (w0 : World) (k m size : Nat) (L : List Sh) (a : Addr) (e : Ending) (w' : World) : Prop :=
  Only [] w0 w' ∧ ((goodL k m size L ∧ ∃ q c, e = .returned (.tuple #[.slice q k c, .nilIface]) ∧ Lists w' q (solveS (rowsOf k L k, valsOf L k)).2) ∨ (¬ goodL k m size L ∧ e = .returned (.tuple #[.slice none 0 0, ev a])))

set_option maxHeartbeats 8000000 in
theorem pieces_any (k m size n c : Nat) (p : Option Addr) (L : List Sh) (w0 : World) (a : Addr) (hE : ErrAt w0 1 a) (hl : legal (k : Int) (m : Int) = true) (hz : size ≤ 100000) (hn : L.length = n) (hnb : n ≤ 140737488351232) (hL : Shards w0 p L) :
    Calls Tryd.prog 54 #[.int .i64 (k : Int), .int .i64 (m : Int), .int .i64 (size : Int), .slice p n c] w0 (PiecesEnd w0 k m size L a) := by
  obtain ⟨l1, l2, l3⟩ := legal_iff.1 hl
  have HE := Lib.hid hE
  have HL := Lib.hid hL
  have Hn := Lib.hid hn
  unfold PiecesEnd ev
  clear hL hn hl
  by_cases hnk : n = k
  · have hnk' : ((n : Int) != (k : Int)) = false := by simp [hnk]
    have Hnk := Lib.hid hnk
    clear hE hnk
    go_enter Tryd.func54, Tryd.ntmps54
    go_wp2_with fail
    obtain ⟨w2, hw2⟩ : ∃ w2, w2 = ((w0.alloc (.cells #[.bool false, .bool false, .bool false, .bool false, .bool false, .bool false, .bool false, .bool false, .bool false, .bool false, .bool false, .bool false, .bool false, .bool false, .bool false, .bool false] 114)).alloc (.cells #[.slice none 0 0, .slice none 0 0] 116)) := ⟨_, rfl⟩
    rw [← hw2]
    have B2 : Build w0 w2 (w0.heap.size + 1) w0.heap.size k 0 0 0 none none 0 0 [] [] L := by
      have o1 := Only.alloc w0 (.cells #[.bool false, .bool false, .bool false, .bool false, .bool false, .bool false, .bool false, .bool false, .bool false, .bool false, .bool false, .bool false, .bool false, .bool false, .bool false, .bool false] 114)
      have o2 := Only.alloc (w0.alloc (.cells #[.bool false, .bool false, .bool false, .bool false, .bool false, .bool false, .bool false, .bool false, .bool false, .bool false, .bool false, .bool false, .bool false, .bool false, .bool false, .bool false] 114)) (.cells #[.slice none 0 0, .slice none 0 0] 116)
      rw [hw2]
      refine ⟨?_, ?_, Own.nil _ _ _, Own.nil _ _ _, Ea.nil _ _, Ea.nil _ _, ⟨by omega, by simp [blk], by simp [blk]⟩, ⟨by simp [blk], by simp [blk], by simp [blk]⟩, ⟨by omega, Nat.le_refl _⟩, o1.trans0 o2⟩
      · have := Row.newOf (w0.alloc (.cells #[.bool false, .bool false, .bool false, .bool false, .bool false, .bool false, .bool false, .bool false, .bool false, .bool false, .bool false, .bool false, .bool false, .bool false, .bool false, .bool false] 114)) 116 #[.slice none 0 0, .slice none 0 0] [.slice none 0 0, .slice none 0 0] rfl
        rwa [World.size_alloc] at this
      · rw [seenV_zero]
        exact (Row.newOf w0 114 _ _ rfl).only0 o2
    have HB := Lib.hid B2
    have hgs : w0.heap.size < w0.heap.size + 1 := by omega
    clear B2 hw2
    generalize w0.heap.size + 1 = B at *
    generalize hgg : w0.heap.size = gs at *
    have HB2 : Hid (Build w0 w2 B gs k 0 0 0 none none 0 0 [] [] L) := HB
    have Hgg := Lib.hid hgg
    clear HB hgg
    go_loopw [21] (fun i wr => ∃ (j : Nat) (qr qv : Option Addr) (cr cv : Nat) (rs vs : List Value), i = .int .i64 (j : Int) ∧ j ≤ n ∧ Hid (Build w0 wr B gs k j j j qr qv cr cv rs vs L) ∧ Hid (∀ t o, t < j → L[t]? = some o → okAt k m size L t o)) (fun i _ => n - (intOf i).toNat)
    case atStart => exact ⟨0, none, none, 0, 0, [], [], rfl, Nat.zero_le _, HB2, Lib.hid (fun t o h => by omega)⟩
    case round =>
      clear HB2
      obtain ⟨j, qr, qv, cr, cv, rs, vs, rfl, hj, HB, Hok⟩ := hrel
      by_cases hlt : j < n
      · have hji : (j : Int) < (n : Int) := by omega
        obtain ⟨o, ho⟩ : ∃ o, L[j]? = some o := ⟨_, List.getElem?_eq_getElem (by rw [Hn.out]; exact hlt)⟩
        obtain ⟨b, off, rfl, ok, hc0, hc1⟩ := (HL.out.only0 HB.out.only) j o ho
        have Ho := Lib.hid ho
        have okb := ok.1
        have Ok := Lib.hid ok
        have E3 := (HE.out.only0 HB.out.only).cell
        have E4 := (HE.out.only0 HB.out.only).lt.1
        clear ho ok
        obtain ⟨on, oq, oc, oxs⟩ := o
        dsimp only at hc0 hc1 okb
        by_cases h1 : on < 0
        · have Hbad : Hid (¬ goodL k m size L) := Lib.hid (fun h => by have h0 := (h.2 j _ Ho.out).1; dsimp only at h0; omega)
          go_wp2_with fail
          go_quiet (fail)
          go_wp2_with fail
          go_ret2
          exact ⟨(HB.out.only.trans0 (Only.alloc _ _)).trans0 (Only.drewN _ _), .inr ⟨Hbad.out, rfl⟩⟩
        · obtain ⟨nn, rfl⟩ : ∃ nn : Nat, on = (nn : Int) := ⟨on.toNat, by omega⟩
          by_cases h2 : (k : Int) + (m : Int) ≤ (nn : Int)
          · have Hbad : Hid (¬ goodL k m size L) := Lib.hid (fun h => by have h0 := (h.2 j _ Ho.out).2.1; dsimp only at h0; omega)
            go_wp2_with fail
            go_quiet (fail)
            go_wp2_with fail
            go_ret2
            exact ⟨(HB.out.only.trans0 (Only.alloc _ _)).trans0 (Only.drewN _ _), .inr ⟨Hbad.out, rfl⟩⟩
          · have hn16 : nn < 16 := by omega
            have hs := HB.out.sn.cell (seenV_get (L := L) (j := j) hn16)
            have hsf := HB.out.sn.free nn
            have hgl := HB.out.sn.lt
            have hni : (nn : Int) < 16 := by omega
            cases h3 : seenB L j nn with
            | true =>
              rw [h3] at hs
              have Hbad : Hid (¬ goodL k m size L) := Lib.hid (fun h => by
                obtain ⟨t, x, ht, hx, hxn⟩ := seenB_true.1 h3
                exact (h.2 j _ Ho.out).2.2.2 t x ht hx hxn)
              clear h3
              go_wp2_with fail
              go_quiet (fail)
              go_wp2_with fail
              go_ret2
              exact ⟨(HB.out.only.trans0 (Only.alloc _ _)).trans0 (Only.drewN _ _), .inr ⟨Hbad.out, rfl⟩⟩
            | false =>
              rw [h3] at hs
              have H3 := Lib.hid h3
              clear h3
              obtain ⟨ol, hol⟩ : ∃ ol, oxs.length = ol := ⟨_, rfl⟩
              rw [hol] at hc1
              have Hol := Lib.hid hol
              clear hol
              by_cases h4 : ol = size
              · subst h4
                go_wp2_with fail
                obtain ⟨wb, hwb⟩ : ∃ wb, wb = ((wr.setCell ⟨gs, nn, none⟩ (.bool true)).alloc (.cells #[.int .i64 (nn : Int), .slice oq ol oc] 80)) := ⟨_, rfl⟩
                rw [← hwb]
                have hxr : Row wb wr.heap.size 80 [.int .i64 (nn : Int), .slice oq ol oc] := by
                  have := Row.newOf (wr.setCell ⟨gs, nn, none⟩ (.bool true)) 80 #[.int .i64 (nn : Int), .slice oq ol oc] [.int .i64 (nn : Int), .slice oq ol oc] rfl
                  rw [World.size_setCell] at this
                  rw [hwb]; exact this
                have hbb : Build w0 wb B gs k (j + 1) j j qr qv cr cv rs vs L := by
                  rw [hwb]
                  exact (HB.out.seen Ho.out rfl hn16).only0 (Only.alloc _ _)
                have gxr := HB.out.st.lt
                have gxq := ownBlk HB.out.own1
                have gxv := ownBlk HB.out.own2
                generalize wr.heap.size = gx at *
                have HX := Lib.hid hxr
                have HBb := Lib.hid hbb
                have Gxq := Lib.hid gxq
                have Gxv := Lib.hid gxv
                clear hxr hbb hwb hs hsf hc0 hc1 E3 E4 HB gxq gxv
                have hj16 : j < 1000 := by have := Hnk.out; omega
                have cB0 := HBb.out.st.cell (i := 0) rfl
                have cX0 := HX.out.cell (i := 0) rfl
                have hRr : ∀ a, Only (B :: blk qr) a a := fun a => Only.refl _ _
                have hRt : ∀ a b e, Only (B :: blk qr) a b → Only (B :: blk qr) b e → Only (B :: blk qr) a e := fun a b e h h2 => h.trans h2 (fun i hi _ => hi)
                have hRd : Only (B :: blk qr) wb wb.drew := (Only.drew _).mono (by simp)
                have hC0 : ∀ i ∈ [7, 9], (fun (i : Nat) (a : World) => (i = 7 → Only [] wb a) ∧ (i = 9 → Row a B 116 [.slice qr j cr, .slice qv j cv])) i wb.drew := fun _ _ => ⟨fun _ => Only.drew _, fun _ => HBb.out.st.only0 (Only.drew _)⟩
                have nX : gx ∉ B :: blk qr := by
                  simp only [List.mem_cons, not_or]
                  exact ⟨by omega, fun hm => by have := (Gxq.out gx hm).2; omega⟩
                have hlq : ∀ x ∈ blk qr, x < wb.heap.size := fun x hx => (ownBlk HBb.out.own1 x hx).2
                have hlB : ∀ x ∈ [B], x < wb.heap.size := by have := HBb.out.st.lt; simpa using this
                have hlB2 : ∀ x ∈ [B], x < wb.heap.size ∧ x ∉ blk qr := fun x hx => ⟨hlB x hx, by obtain rfl := List.mem_singleton.1 hx; exact HBb.out.n1.2.1⟩
                -- <<P11
                refine wp_region_rg4 (Only (B :: blk qr)) (Dirt [(7, blk qr), (9, [B])]) (fun (i : Nat) (a : World) => (i = 7 → Only [] wb a) ∧ (i = 9 → Row a B 116 [.slice qr j cr, .slice qv j cv])) [7, 9] [[(11, none)], [(53, some 0)], [(0, none)], [(13, none)], [(56, some 0)], [(55, some 2), (57, some 0)], [(58, some 0)], [(54, some 5), (59, some 0)], [(11, none)], [(61, some 0), (60, some 1)]] [] [none, none, none, none, none, none, none, none, none, none, none, none, none, none, none, none, none, none, none, none, none, none, none, none, none, none, none, none, none, none, none, none, none, none, none, none, none, none, none, none, none, none, none, none, none, none, none, none, none, none, none, none, none, some 53, some 54, some 55, some 56, some 57, some 58, some 59, some 60, some 61, none, none, none, none, none, none, none, none, none, none, none] (by kernel_rfl) rfl (by kernel_rfl) hRr hRt (fun _ _ => Only.refl _ _) hRd hC0 (by kernel_rfl) (by kernel_rfl) ?_
                -- 0: s53 := fieldAddr 116 t11 0
                apply rgd_ev
                · intro a w hR hC hf
                  obtain ⟨e11, -⟩ := hf
                  replace e11 : a.tmps.getD 11 undef = _ := e11
                  refine rg_plain rfl fun K hK => ?_
                  go_simp
                  exact hK _ _ rfl ⟨hRr _, Only.refl _ _, fun _ _ _ _ h => h⟩
                -- 1: s54 := load 64 t53
                apply rgd_ev
                · intro a w hR hC hf
                  obtain ⟨e53, -⟩ := hf
                  replace e53 : a.tmps.getD 53 undef = _ := e53
                  refine rg_plain rfl fun K hK => ?_
                  have h1 := ((hC 7 (by simp) (by kernel_rfl)).1 rfl).cell cB0 (by simp)
                  go_simp
                  exact hK _ _ rfl ⟨hRr _, Only.refl _ _, fun _ _ _ _ h => h⟩
                -- 2: s55 := move t0
                apply rgd_ev
                · intro a w hR hC hf
                  obtain ⟨e0, -⟩ := hf
                  replace e0 : a.tmps.getD 0 undef = _ := e0
                  refine rg_plain rfl fun K hK => ?_
                  go_simp
                  exact hK _ _ rfl ⟨hRr _, Only.refl _ _, fun _ _ _ _ h => h⟩
                -- 3: s56 := fieldAddr 80 t13 0
                apply rgd_ev
                · intro a w hR hC hf
                  obtain ⟨e13, -⟩ := hf
                  replace e13 : a.tmps.getD 13 undef = _ := e13
                  refine rg_plain rfl fun K hK => ?_
                  go_simp
                  exact hK _ _ rfl ⟨hRr _, Only.refl _ _, fun _ _ _ _ h => h⟩
                -- 4: s57 := load 3 t56
                apply rgd_ev
                · intro a w hR hC hf
                  obtain ⟨e56, -⟩ := hf
                  replace e56 : a.tmps.getD 56 undef = _ := e56
                  refine rg_plain rfl fun K hK => ?_
                  have h4 := hR.cell cX0 nX
                  go_simp
                  exact hK _ _ rfl ⟨hRr _, Only.refl _ _, fun _ _ _ _ h => h⟩
                -- 5: s58 := call { value (Operand.func 50), args := #[t55, t57], #[3, 3] }
                refine ⟨IsNewB (rowB k nn) k wb.heap.size, stands_of (IsNewB.stable (by simp)) (two_dirt (Z := fun x => Stable (Only x.2) (IsNewB _ _ _)) (fun _ => IsNewB.stable hlq) (fun _ => IsNewB.stable hlB)), fun a w hR hC hf => ?_, ?_⟩
                · obtain ⟨e55, e57, -⟩ := hf
                  replace e55 : a.tmps.getD 55 undef = _ := e55
                  replace e57 : a.tmps.getD 57 undef = _ := e57
                  refine rg_plain rfl fun K hK => ?_
                  go_simp
                  (with_reducible refine (row_any k nn (by omega) (by omega) w).mono ?_)
                  rintro e w' ⟨g, rfl, hg, r, ho⟩
                  exact hK _ _ ⟨rowB_len _ _, g, rfl, Nat.le_trans hR.size hg, r⟩ ⟨ho.mono (by simp), ho, fun i _ _ _ hc => ⟨fun e => (hc.1 e).trans0 ho, fun e => (hc.2 e).only0 ho⟩⟩
                -- 6: s59 := buildSlice 64 1 #[(0, t58)]
                refine ⟨SlB (rowB k nn) k wb.heap.size, stands_of (SlB.stable (by simp)) (two_dirt (Z := fun x => Stable (Only x.2) (SlB _ _ _)) (fun _ => SlB.stable hlq) (fun _ => SlB.stable hlB)), fun a w hR hC hf => ?_, ?_⟩
                · obtain ⟨e58, -⟩ := hf
                  replace e58 : IsNewB (rowB k nn) k wb.heap.size (a.tmps.getD 58 undef) w := e58
                  refine rg_plain rfl fun K hK => ?_
                  obtain ⟨hl, g, e58, hg, rg⟩ := e58
                  have e58' : (a.tmps[58]?).getD undef = .slice (some ⟨g, 0, none⟩) k k := by rw [← e58]; simp
                  go_simp
                  have oA := Only.alloc w (.cells #[.slice (some ⟨g, 0, none⟩) k k] 27)
                  exact hK _ _ ⟨w.heap.size, g, rfl, hR.size, Row.newOf _ _ _ _ rfl, hg, rg.only0 oA⟩ ⟨oA.mono (by simp), oA, fun i _ _ _ hc => ⟨fun e => (hc.1 e).trans0 oA, fun e => (hc.2 e).only0 oA⟩⟩
                -- 7: s60 := call { builtin append, args := #[t54, t59], #[64, 64] }
                refine ⟨AppB (rowB k nn) k w0.heap.size wb.heap.size j (blk qr) rs, stands_of (AppB.stable (by simp)) (two_dirt (Z := fun x => Stable (Only x.2) (AppB _ _ _ _ _ _ _)) (fun h => by simp at h) (fun _ => AppB.stable hlB2)), fun a w hR hC hf => ?_, ?_⟩
                · obtain ⟨e54, e59, -⟩ := hf
                  replace e54 : a.tmps.getD 54 undef = _ := e54
                  replace e59 : SlB (rowB k nn) k wb.heap.size (a.tmps.getD 59 undef) w := e59
                  refine rg_plain rfl fun K hK => ?_
                  have hC7 := (hC 7 (by simp) (by kernel_rfl)).1 rfl
                  obtain ⟨h, g, e59, hh, rh, hg, rg⟩ := e59
                  obtain ⟨p'', c'', w'', hra, oA, hA, hpA⟩ := append_owned (P := Tryd.prog) (bytes := 24) (c := 1) (q := some ⟨h, 0, none⟩) (m := 1) (news := [.slice (some ⟨g, 0, none⟩) k k]) (t := 64) (ty := 64) w Tryd.underlying64 infoSl rfl (HBb.out.own1.only0 hC7) rh.rd0 rfl (by simp) (fun v hv => by obtain rfl := List.mem_singleton.1 hv; rfl) (by omega) (by omega) (Nat.le_trans HBb.out.only.size hC7.size)
                  refine rg_append (s := .tmp 54) (x := .tmp 59) rfl e54 e59 hra ?_
                  refine hK _ _ ⟨p'', c'', g, rfl, oA, fun x hx => ?_, hg, fun hm => ?_, rg.only hA (fun hm => by have := hlq g hm; omega)⟩ ⟨hA.mono (fun x hx => List.mem_cons_of_mem _ hx), hA, fun i _ hne _ hc => ⟨fun e => absurd e hne, fun e => (hc.2 e).only hA HBb.out.n1.2.1⟩⟩
                  · rcases hpA with rfl | ⟨g', rfl, hg'⟩
                    · exact .inl hx
                    · simp [blk] at hx; subst hx; exact .inr (Nat.le_trans hR.size hg')
                  · rcases hpA with rfl | ⟨g', rfl, hg'⟩
                    · have := hlq g hm; omega
                    · simp [blk] at hm; have := rg.lt; omega
                -- 8: s61 := fieldAddr 116 t11 0
                apply rgd_ev
                · intro a w hR hC hf
                  obtain ⟨e11, -⟩ := hf
                  replace e11 : a.tmps.getD 11 undef = _ := e11
                  refine rg_plain rfl fun K hK => ?_
                  go_simp
                  exact hK _ _ rfl ⟨hRr _, Only.refl _ _, fun _ _ _ _ h => h⟩
                -- 9: sNone := store 64 t61 t60
                refine ⟨AppZ (rowB k nn) k w0.heap.size wb.heap.size j B (blk qr) rs (.slice qv j cv), stands_of AppZ.stable0 (two_dirt (Z := fun x => Stable (Only x.2) (AppZ _ _ _ _ _ _ _ _ _)) (fun h => Bool.noConfusion (h.symm.trans (by kernel_rfl : _ = true))) (fun h => by simp at h)), fun a w hR hC hf => ?_, ?_⟩
                · obtain ⟨e61, e60, -⟩ := hf
                  replace e61 : a.tmps.getD 61 undef = _ := e61
                  replace e60 : AppB (rowB k nn) k w0.heap.size wb.heap.size j (blk qr) rs (a.tmps.getD 60 undef) w := e60
                  refine rg_plain rfl fun K hK => ?_
                  have hC9 := (hC 9 (by simp) (by kernel_rfl)).2 rfl
                  obtain ⟨q', c', g, eV, ow, hb, hg, hg2, rg⟩ := e60
                  have h9c := hC9.cell (i := 0) rfl
                  have h9f := hC9.free 0
                  go_simp
                  have hst : Only [B] w (w.setCell ⟨B, 0, none⟩ (.slice q' (j + 1) c')) := Only.setCell w ⟨B, 0, none⟩ _
                  have hgB : B < wb.heap.size := hlB B (by simp)
                  refine hK undef _ ⟨q', c', g, hC9.setCell 0 _, ow.only hst ?_, hb, hg, hg2, rg.only hst (by simp; omega)⟩ ⟨hst.mono (by simp), hst, ?_⟩
                  · intro x hx hm
                    obtain rfl : x = B := by simpa using hm
                    rcases hb _ (blkOwn hx) with h | h
                    · exact HBb.out.n1.2.1 h
                    · omega
                  · intro i hi hne ha _
                    simp only [List.mem_cons, List.not_mem_nil, or_false] at hi
                    rcases hi with rfl | rfl
                    · exact Bool.noConfusion (ha.symm.trans (by kernel_rfl : _ = true))
                    · exact absurd rfl hne
                intro f11 w11 hR11 hf hz11
                dsimp only [mergeT]
                -- P11>>
                obtain ⟨v9, q', c', g, st9, ow9, hb9, hg9, hg9b, rg9⟩ := hz11 _ (List.mem_cons_self ..)
                have b11 := HBb.out.row Ho.out (by omega) hR11 st9 ow9 hb9 hg9 hg9b rg9
                have HB11 := Lib.hid b11
                have cX1 := (HX.out.only hR11 nX).cell (i := 1) rfl
                have gv2 := hR11.size
                clear b11 st9 ow9 hb9 hg9 hg9b rg9 hz11 hR11 hRr hRt hRd hC0 hlq hlB hlB2 cB0 cX0 nX HX HBb
                have cB1 := HB11.out.st.cell (i := 1) rfl
                obtain ⟨q3, c3, w5, Hr, own5, o5, hb5⟩ := append_one HB11.out.own2 (.slice oq ol oc) rfl (by omega) HB11.out.only.size
                have st5 := HB11.out.st.only o5 HB11.out.n1.2.2
                have cB5 := st5.cell (i := 1) rfl
                have fB5 := st5.free 1
                have hst5 : Only [B] w5 (w5.setCell ⟨B, 1, none⟩ (.slice q3 (j + 1) c3)) := Only.setCell w5 ⟨B, 1, none⟩ _
                have hbB : B ∉ blk q3 := fun hm => by
                  rcases hb5 B hm with h | h
                  · exact HB11.out.n1.2.2 h
                  · have := HB11.out.st.lt; omega
                have own6 : Own (w5.setCell ⟨B, 1, none⟩ (.slice q3 (j + 1) c3)) w0.heap.size 27 (.slice q3 (j + 1) c3) (vs ++ [.slice oq ol oc]) := own5.only hst5 (fun x hx hm => by obtain rfl := List.mem_singleton.1 hm; exact hbB (blkOwn hx))
                have st6 := st5.setCell 1 (.slice q3 (j + 1) c3)
                have hon : Only (B :: blk qv) w11 (w5.setCell ⟨B, 1, none⟩ (.slice q3 (j + 1) c3)) := (o5.mono (fun x hx => List.mem_cons_of_mem _ hx)).trans hst5 (by simp)
                have hok2 := (Ok.out)
                have okw0 : Sh.Ok w0 ⟨(nn : Int), oq, oc, oxs⟩ := by
                  obtain ⟨b', off', e', ok', -, -⟩ := HL.out j _ Ho.out
                  exact ok'
                have ow6' : Own (w5.setCell ⟨B, 1, none⟩ (.slice q3 (j + 1) c3)) w0.heap.size 27 (.slice q3 (j + 1) c3) (vs ++ [.slice oq oxs.length oc]) := by rw [Hol.out]; exact own6
                have b12 := HB11.out.val Ho.out okw0 hon st6 ow6' hb5
                have HB12 := Lib.hid b12
                have Hok2 : Hid (∀ t o, t < j + 1 → L[t]? = some o → okAt k m ol L t o) := Lib.hid (fun t o ht h => by
                  by_cases e : t < j
                  · exact Hok.out t o e h
                  · obtain rfl : t = j := by omega
                    rw [Ho.out] at h
                    obtain rfl := Option.some.inj h
                    refine ⟨by show (0 : Int) ≤ (nn : Int); omega, by show (nn : Int) < _; omega, Hol.out, fun i x hi hx hxn => ?_⟩
                    have := seenB_true.2 ⟨i, x, hi, hx, hxn⟩
                    rw [H3.out] at this; cases this)
                clear own5 o5 hb5 st5 own6 st6 hon hok2 okw0 ow6' b12 hst5 hbB gv2 Hok Ok okb
                go_wp2_with (first | (at_builtin; refine wpl_append (s := .tmp 63) (x := .tmp 66) rfl rfl rfl rfl Hr.out ?_))
                exact ⟨⟨j + 1, q', q3, c', c3, _, _, by go_num, by omega, HB12, Hok2⟩, by simp [intOf]; omega⟩
              · have h4' : ((ol : Int) != (size : Int)) = true := by simp; omega
                have Hbad : Hid (¬ goodL k m size L) := Lib.hid (fun h => by have h0 := (h.2 j _ Ho.out).2.2.1; dsimp only at h0; rw [Hol.out] at h0; exact h4 h0)
                clear h4
                go_wp2_with fail
                go_quiet (fail)
                go_wp2_with fail
                go_ret2
                exact ⟨(HB.out.only.trans0 (Only.alloc _ _)).trans0 (Only.drewN _ _), .inr ⟨Hbad.out, rfl⟩⟩
      · have hnk2 := Hnk.out
        obtain rfl : j = n := by omega
        have hji : ¬ (j : Int) < (j : Int) := by omega
        have hgood : goodL k m size L := ⟨by rw [Hn.out, hnk2], fun t o ht => Hok.out t o (by have := (List.getElem?_eq_some_iff.1 ht).1; rw [Hn.out] at this; exact this) ht⟩
        have hB2 : Build w0 wr B gs k k k k qr qv cr cv rs vs L := by have := HB.out; rw [hnk2] at this; exact this
        obtain ⟨gr, gv, rr, rv, -, -, S, lgr, lgv⟩ := hB2.sys (by omega)
        have hsv := solve_any wr B gr gv cr cv k size rs vs rr rv _ _ S (goodL_shape hgood) (by omega) hz
        have Hgood := Lib.hid hgood
        have Ho := Lib.hid HB.out.only
        have Hlg : Hid (w0.heap.size ≤ gr ∧ w0.heap.size ≤ gv) := Lib.hid ⟨lgr, lgv⟩
        clear hgood hB2 S lgr lgv HB Hok hnk2
        obtain ⟨Z, hZ⟩ : ∃ Z, Z = solveS (rowsOf k L k, valsOf L k) := ⟨_, rfl⟩
        rw [← hZ] at hsv
        have HZ := Lib.hid hZ
        clear hZ
        unfold SysIs at hsv
        go_wp2_with fail
        refine hsv.mono ?_
        rintro e w9 ⟨rfl, rs3, vs3, S9, o9⟩
        have c9 := S9.st.cell (i := 1) rfl
        have Ho9 := Lib.hid (Ho.out.transN o9 (by simpa using Hlg.out))
        have HS9 := Lib.hid S9
        clear hsv S9 o9
        go_wp2_with fail
        go_ret2
        exact ⟨Ho9.out, .inl ⟨Hgood.out, _, _, rfl, by have h := HS9.out.lists; rw [HZ.out] at h; exact h⟩⟩
  · have hnk' : ((n : Int) != (k : Int)) = true := by simp; omega
    have hE' := hE.cell
    have Hnk : Hid (¬ goodL k m size L) := Lib.hid (fun h => hnk (by rw [← Hn.out, h.1]))
    clear hE hnk
    go_enter Tryd.func54, Tryd.ntmps54
    go_wp2_with fail
    go_quiet (fail)
    go_wp2_with fail
    go_ret2
    exact ⟨Only.drewN _ _, .inr ⟨Hnk.out, rfl⟩⟩
end Go.Proofs.YtlgcclhepegggaaDoor
