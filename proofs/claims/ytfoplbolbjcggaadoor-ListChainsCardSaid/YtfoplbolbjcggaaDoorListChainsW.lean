/- The walk of bollardlaw20.ListChains. -/
import Derived.Test.YtfoplbolbjcggaaDoorListChain
import Derived.Test.YtfoplbolbjcggaaDoorListPagesW
import Derived.Laws.StructEq
set_option linter.unusedVariables false
set_option maxRecDepth 100000
namespace Go.Proofs.YtfoplbolbjcggaaDoor
open Go.RowKit

theorem tokAt0 (es : List En) : tokAt es 0 = [] := rfl
set_option maxHeartbeats 16000000 in
theorem listChains_any (p : Option Addr) (ks : List Bs) (n c : Nat) (pf dl tk : Bs) (M : Int) (w0 : World) (hn : ks.length = n) (hnc : n ≤ c) (hb : n ≤ 140737488351232) (hbk : ∀ k ∈ ks, k.length ≤ 140737488351232) (hp : p = none → n = 0 ∧ c = 0) (hx : Rd w0 p (strs ks)) (hpl : pf.length ≤ 140737488351232) (hdl : dl.length ≤ 140737488351232) (htl : tk.length ≤ 140737488351232) (mx : Int) (hmx : w0.cell? ⟨18, 0, none⟩ = some (.int .i64 mx)) :
    Calls Tryd.prog 7 #[.agg #[.slice p n c, .string (str pf), .string (str dl), .string (str tk), .int .i64 M]] w0 fun e w' => e = .returned (.bool true) ∧ Only [] w0 w' := by
  obtain ⟨w1, hw1⟩ : ∃ w1, w1 = w0.alloc (.cells #[.slice p n c, .string (str pf), .string (str dl), .string (str tk), .int .i64 M] 35) := ⟨_, rfl⟩
  have o1 : Only [] w0 w1 := by rw [hw1]; exact Only.alloc _ _
  have r1 : Row w1 w0.heap.size 35 [.slice p n c, .string (str pf), .string (str dl), .string (str tk), .int .i64 M] := by rw [hw1]; exact Row.newOf _ _ _ _ rfl
  have hal := alive20_any mx w1 (o1.cell hmx (by simp))
  have HO1 := Lib.hid o1
  have HR1 := Lib.hid r1
  have Hw1 := Lib.hid hw1
  have Hbu : Hid (∀ w, Only [] w0 w → Calls Tryd.prog 22 #[.agg #[.slice p n c, .string (str pf), .string (str dl), .string (str tk), .int .i64 M]] w fun e w' => ∃ q m k, e = .returned (bkV q m k) ∧ (buck ks).length = m ∧ OwnK w' w.heap.size 59 5 (.slice q m k) m ((buck ks).flatMap obCells) ∧ Only [] w w') :=
    Lib.hid (fun w ho => bucket_any p ks n c (str pf) (str dl) (str tk) M w hn hnc hb hbk hp (hx.only0 ho))
  have hok := buck_ok ks
  have HBl := Lib.hid hok.len
  have HBs := Lib.hid hok.sorted
  have HBk : Hid (∀ o ∈ buck ks, o.key ≠ [] ∧ o.key.length ≤ 200) := Lib.hid (fun o ho => hok.key ho)
  have Hmx := Lib.hid hmx
  clear o1 r1 hw1 hok hmx hx hbk hn hp
  obtain ⟨jm, hjm, hjv⟩ := mod100 M
  obtain ⟨m1, hm1⟩ : ∃ m1 : Nat, (jm : Int) + 1 = (m1 : Int) := ⟨jm + 1, by omega⟩
  have hm1' : 1 ≤ m1 ∧ m1 ≤ 100 := by omega
  go_enter Tryd.func7, Tryd.ntmps7
  go_wp2_with fail
  rw [← Hw1.out]
  refine hal.mono ?_
  clear hal Hw1
  rintro e wA ⟨rfl, oA⟩
  have hrA := HR1.out.only0 oA
  have hbA := Hbu.out wA (HO1.out.trans0 oA)
  have k0 := hrA.cell (i := 0) rfl
  have k1 := hrA.cell (i := 1) rfl
  have k2 := hrA.cell (i := 2) rfl
  have k3 := hrA.cell (i := 3) rfl
  have k4 := hrA.cell (i := 4) rfl
  have HOA := Lib.hid (HO1.out.trans0 oA)
  have HRA := Lib.hid hrA
  clear oA hrA
  go_wp2_with fail
  refine hbA.mono ?_
  clear hbA k0 k1 k2 k3 k4
  rintro e wB ⟨q, m, k, rfl, hlB, ownB, oB⟩
  obtain ⟨w2, hw2⟩ : ∃ w2, w2 = wB.alloc (.cells #[.string aaa, .int .i64 0, .int .i64 0, .slice q m k, .slice none 0 0] 39) := ⟨_, rfl⟩
  have o2 : Only [] wB w2 := by rw [hw2]; exact Only.alloc _ _
  have r2 : Row w2 wB.heap.size 39 [.string aaa, .int .i64 0, .int .i64 0, .slice q m k, .slice none 0 0] := by rw [hw2]; exact Row.newOf _ _ _ _ rfl
  have oB2 := oB.trans0 o2
  have hr2 := HRA.out.only0 oB2
  have ho2 := HOA.out.trans0 oB2
  have hre := refEntries_any aaa 0 0 (.slice none 0 0) rfl q (buck ks) m k pf dl w2 hlB (by have := HBl.out; omega) ownB.view.2.2.2.1 (ownB.view.2.2.1.only0 o2) HBs.out (fun o ho => by have := (HBk.out o ho).2; omega) hpl hdl
  rw [← entries_doc HBs.out] at hre
  obtain ⟨es, hes⟩ : ∃ es, entries pf dl (buck ks) = es := ⟨_, rfl⟩
  rw [hes] at hre
  have k1 := hr2.cell (i := 1) rfl
  have k2 := hr2.cell (i := 2) rfl
  have b0 := r2.cell (i := 0) rfl
  have b1 := r2.cell (i := 1) rfl
  have b2 := r2.cell (i := 2) rfl
  have b3 := r2.cell (i := 3) rfl
  have b4 := r2.cell (i := 4) rfl
  have HO2 := Lib.hid ho2
  have HR2 := Lib.hid hr2
  have HB2 := Lib.hid r2
  have Hown := Lib.hid (ownB.only0 o2)
  have HlB := Lib.hid hlB
  have Hes := Lib.hid hes
  have Hw2 := Lib.hid hw2
  unfold bkV' at hre
  unfold bkV
  clear hlB ownB oB o2 r2 oB2 hr2 ho2 hw2 hes
  go_upto_region 5 with (fail)
  rw [← Hw2.out]
  go_wp2_with fail
  refine hre.mono ?_
  clear hre k1 k2 b0 b1 b2 b3 b4 Hw2
  rintro e we ⟨qe, me, ke, rfl, hle, owne, oe⟩
  have hml : me ≤ 1000 := by
    have h1 := entries_len pf dl (buck ks)
    have h2 := HBl.out
    rw [Hes.out] at h1
    omega
  have HOe := Lib.hid (HO2.out.trans0 oe)
  have HRe := Lib.hid (HR2.out.only0 oe)
  have HBe := Lib.hid (HB2.out.only0 oe)
  have Howne := Lib.hid (Hown.out.only0 oe)
  have Hle := Lib.hid hle
  have Hpe := Lib.hid owne.view.2.2.1
  have Hnm : Hid (∀ e ∈ es, e.name ≠ []) := Lib.hid (fun e he => by rw [← Hes.out] at he; obtain ⟨o, ho, h⟩ := (entries_mem HBs.out _).1 he; exact (ent_name h).2 (HBk.out o ho).1)
  have Hjv := Lib.hid hjv
  have Hm1 := Lib.hid hm1
  clear hle owne oe HO2 HR2 HB2 Hown HOA HRA HR1 hjv hm1 hjm
  go_wp2_with fail
  go_loopw [6, 7, 31] (fun s6 s7 s31 wr => ∃ a r : Nat, s6 = .string (str (tokAt es a)) ∧ s7 = .int .i64 (a : Int) ∧ s31 = .int .i64 (r : Int) ∧ r ≤ a ∧ (a < me ∨ a = 0) ∧ Hid (Only [] we wr)) (fun _ _ s31 _ => me + 1 - (intOf s31).toNat)
  case atStart => exact ⟨0, 0, rfl, rfl, rfl, Nat.le_refl _, .inr rfl, Lib.hid (Only.refl _ _)⟩
  case round =>
    obtain ⟨a, r, rfl, rfl, rfl, hra, ham, HO⟩ := hrel
    have hr1 : (r : Int) < (me : Int) + 1 := by omega
    have hale : a ≤ me := by omega
    have hkr := HRe.out.only0 HO.out
    have hbr := HBe.out.only0 HO.out
    have hown := Howne.out.only0 HO.out
    have hpg := page_chain aaa 0 0 (.slice none 0 0) rfl q (buck ks) m k pf dl a m1 mx wr HlB.out (by have := HBl.out; have := HlB.out; omega) hown.view.2.2.2.1 hown.view.2.2.1 HBs.out HBk.out hpl hdl ((HOe.out.trans0 HO.out).cell Hmx.out (by simp)) (by rw [Hes.out, Hle.out]; exact hale) hm1'.1 hm1'.2
    rw [Hes.out, Hle.out] at hpg
    have k1 := hkr.cell (i := 1) rfl
    have k2 := hkr.cell (i := 2) rfl
    have b0 := hbr.cell (i := 0) rfl
    have b1 := hbr.cell (i := 1) rfl
    have b2 := hbr.cell (i := 2) rfl
    have b3 := hbr.cell (i := 3) rfl
    have b4 := hbr.cell (i := 4) rfl
    unfold bkV' at hpg
    clear hkr hbr hown
    go_wp2_with fail
    refine hpg.mono ?_
    clear hpg k1 k2 b0 b1 b2 b3 b4
    rintro e wC ⟨q2, m2, j2, rfl, hl2, own2, oC⟩
    obtain ⟨nx, hnx⟩ : ∃ nx, (if a + m1 < me then tokAt es (a + m1) else []) = nx := ⟨_, rfl⟩
    rw [hnx]
    obtain ⟨w3, hw3⟩ : ∃ w3, w3 = wC.alloc (.cells #[.slice q2 m2 j2, .string (str nx)] 43) := ⟨_, rfl⟩
    have o3 : Only [] wC w3 := by rw [hw3]; exact Only.alloc _ _
    have r3 : Row w3 wC.heap.size 43 [.slice q2 m2 j2, .string (str nx)] := by rw [hw3]; exact Row.newOf _ _ _ _ rfl
    have HO3r := Lib.hid (oC.trans0 o3)
    have HO3 := Lib.hid ((HO.out.trans0 oC).trans0 o3)
    have HP3 := Lib.hid (own2.view.2.2.1.only0 o3)
    have Hl2 := Lib.hid hl2
    have hm2 : ¬ (m1 : Int) < (m2 : Int) := by
      rw [List.length_take] at hl2; omega
    have hm2d : decide (m1 < m2) = false := decide_eq_false (by omega)
    have hz2 : m2 = 0 → me = 0 ∧ a = 0 := fun h => by
      have h1 := Hle.out
      rw [List.length_take, List.length_drop] at hl2; omega
    have p0 := r3.cell (i := 0) rfl
    have Hnx := Lib.hid hnx
    have HR3' := Lib.hid r3
    have Hw3 := Lib.hid hw3
    unfold pgV
    clear hl2 own2 oC o3 r3 hw3 hnx
    go_upto_region 11 with (fail)
    rw [← Hw3.out]
    clear Hw3
    have HR3 : Hid (Row w3 wC.heap.size 43 [.slice q2 m2 j2, .string (str (if a + m1 < me then tokAt es (a + m1) else []))]) := Lib.hid (by rw [Hnx.out]; exact HR3'.out)
    clear Hnx HR3'
    by_cases hz : m2 = 0
    · obtain ⟨hme, ha0⟩ := hz2 hz
      have hzz : ((m2 : Int) == 0) = true := by simp [hz]
      have hpre : ¬ (a : Int) < (me : Int) := by omega
      clear hz2 hme ha0 hz
      go_upto_region 13 with (fail)
      clear hzz
      clear hpre
      go_wp2_with fail
      obtain ⟨wo, rfl⟩ : ∃ wo : World, wo = wr := ⟨_, rfl⟩
      go_loopw [7, 68] (fun s7 s68 wl => ∃ i : Nat, s7 = .int .i64 ((a + i : Nat) : Int) ∧ s68 = .int .i64 (i : Int) ∧ i ≤ m2 ∧ Hid (Only [] w3 wl)) (fun _ s68 _ => m2 - (intOf s68).toNat)
      case atStart => exact ⟨0, rfl, rfl, Nat.zero_le _, Lib.hid (Only.refl _ _)⟩
      case round =>
        obtain ⟨i, rfl, rfl, him, HOl⟩ := hrel
        by_cases hlt : i < m2
        · obtain ⟨e, he⟩ : ∃ e, ((es.drop a).take m1)[i]? = some e := ⟨_, List.getElem?_eq_getElem (by rw [Hl2.out]; exact hlt)⟩
          have he2 : es[a + i]? = some e := by
            rw [List.getElem?_take] at he
            split at he
            · rwa [List.getElem?_drop] at he
            · cases he
          have hrp := HP3.out.only0 HOl.out
          have hre := (Hpe.out.only0 HO3.out).only0 HOl.out
          have hne : ∀ l : List En, (∃ (j : Nat) (x : En), l[j]? = some x) → l.flatMap enCells ≠ [] := fun l ⟨j, x, hj⟩ e' => by have := flat_get enCells 5 enCells_len l j x 0 hj (by omega); rw [e'] at this; cases this
          obtain ⟨b1, f1, rfl, -⟩ := hrp.lt (hne _ ⟨_, _, he⟩)
          obtain ⟨b2, f2, rfl, -⟩ := hre.lt (hne _ ⟨_, _, he2⟩)
          have x0 := rd_elem enCells_len hrp he (r := 0) rfl
          have x1 := rd_elem enCells_len hrp he (r := 1) rfl
          have x2 := rd_elem enCells_len hrp he (r := 2) rfl
          have x3 := rd_elem enCells_len hrp he (r := 3) rfl
          have x4 := rd_elem enCells_len hrp he (r := 4) rfl
          rw [Addr.add_lit, ← Nat.add_assoc] at x0 x1 x2 x3 x4
          rw [Nat.add_zero] at x0
          obtain ⟨wt, hwt⟩ : ∃ wt, wt = wr.alloc (.cells #[.string (str e.name), .bool e.pre, .int .i64 e.size, .string (str e.etag), .int .i64 e.time] 61) := ⟨_, rfl⟩
          have ot : Only [] wr wt := by rw [hwt]; exact Only.alloc _ _
          have rt : Row wt wr.heap.size 61 (enCells e) := by rw [hwt]; exact Row.newOf _ _ _ _ rfl
          have hret := hre.only0 ot
          have z0 := rt.cell (i := 0) rfl
          have z1 := rt.cell (i := 1) rfl
          have z2 := rt.cell (i := 2) rfl
          have z3 := rt.cell (i := 3) rfl
          have z4 := rt.cell (i := 4) rfl
          have y0 := rd_elem enCells_len hret he2 (r := 0) rfl
          have y1 := rd_elem enCells_len hret he2 (r := 1) rfl
          have y2 := rd_elem enCells_len hret he2 (r := 2) rfl
          have y3 := rd_elem enCells_len hret he2 (r := 3) rfl
          have y4 := rd_elem enCells_len hret he2 (r := 4) rfl
          rw [Addr.add_lit, ← Nat.add_assoc] at y0 y1 y2 y3 y4
          rw [Nat.add_zero] at y0
          have hai : a + i < me := by rw [← Hle.out]; exact (List.getElem?_eq_some_iff.1 he2).1
          have hge : decide ((me : Int) ≤ ((a + i : Nat) : Int)) = false := decide_eq_false (by omega)
          have HOt := Lib.hid (HOl.out.trans0 ot)
          have Hwt := Lib.hid hwt
          obtain ⟨ai, hai2⟩ : ∃ ai, a + i = ai := ⟨_, rfl⟩
          have Hai := Lib.hid hai2
          rw [hai2] at y0 y1 y2 y3 y4 hai hge ⊢
          clear ot rt hret hrp hre hne he he2 hwt hai2
          go_upto_region 16 with (fail)
          rw [← Hwt.out]
          clear Hwt x0 x1 x2 x3 x4
          go_quiet (fail)
          go_wp2_with fail
          refine ⟨⟨i + 1, by rw [← Nat.add_assoc, Hai.out]; go_num, by go_num, by omega, Lib.hid (HOt.out.trans0 (Only.drewN _ _))⟩, ?_⟩
          show m2 - ((i : Int) + 1).toNat < m2 - ((i : Int)).toNat
          omega
        · obtain rfl : i = m2 := by omega
          have p1 := (HR3.out.only0 HOl.out).cell (i := 1) rfl
          by_cases hc : a + m1 < me
          · rw [if_pos hc] at p1
            have hi : i = m1 := by
              have h1 := Hl2.out
              have h2 := Hle.out
              rw [List.length_take, List.length_drop] at h1
              omega
            subst hi
            have hne := tokAt_ne (es := es) Hnm.out (a := a + i) (by omega) (by rw [Hle.out]; omega)
            have hd1 : (str (tokAt es (a + i))).toList.isEmpty = false := by rw [str_toList]; cases h : tokAt es (a + i) with | nil => exact absurd h hne | cons x l => rfl
            have hd2 : ¬ (str (tokAt es (a + i))).toList = [] := by rw [str_toList]; exact hne
            obtain ⟨tb, htb⟩ : ∃ tb, tb = str (tokAt es (a + i)) := ⟨_, rfl⟩
            have Htb := Lib.hid htb
            rw [← htb] at p1 hd1 hd2
            clear htb hne
            go_wp2_with fail
            refine ⟨⟨a + i, r + 1, by rw [Htb.out], rfl, by go_num, by omega, .inl hc, Lib.hid ((HO.out.trans0 HO3r.out).trans0 HOl.out)⟩, ?_⟩
            show me + 1 - ((r : Int) + 1).toNat < me + 1 - ((r : Int)).toNat
            omega
          · rw [if_neg hc] at p1
            have hi : a + i = me := by
              have h1 := Hl2.out
              have h2 := Hle.out
              rw [List.length_take, List.length_drop] at h1
              omega
            have HOf := Lib.hid (((HOe.out.trans0 HO.out).trans0 HO3r.out).trans0 HOl.out)
            have hde : (str []).toList = [] := str_toList []
            rw [hi]
            clear hc
            go_wp2_with fail
            go_ret
            exact ⟨rfl, HOf.out⟩
    · have hzz : ((m2 : Int) == 0) = false := by simp [hz]
      have hpre : True := trivial
      clear hz2 hz
      go_upto_region 13 with (fail)
      clear hzz
      clear hpre
      go_wp2_with fail
      obtain ⟨wo, rfl⟩ : ∃ wo : World, wo = wr := ⟨_, rfl⟩
      go_loopw [7, 68] (fun s7 s68 wl => ∃ i : Nat, s7 = .int .i64 ((a + i : Nat) : Int) ∧ s68 = .int .i64 (i : Int) ∧ i ≤ m2 ∧ Hid (Only [] w3 wl)) (fun _ s68 _ => m2 - (intOf s68).toNat)
      case atStart => exact ⟨0, rfl, rfl, Nat.zero_le _, Lib.hid (Only.refl _ _)⟩
      case round =>
        obtain ⟨i, rfl, rfl, him, HOl⟩ := hrel
        by_cases hlt : i < m2
        · obtain ⟨e, he⟩ : ∃ e, ((es.drop a).take m1)[i]? = some e := ⟨_, List.getElem?_eq_getElem (by rw [Hl2.out]; exact hlt)⟩
          have he2 : es[a + i]? = some e := by
            rw [List.getElem?_take] at he
            split at he
            · rwa [List.getElem?_drop] at he
            · cases he
          have hrp := HP3.out.only0 HOl.out
          have hre := (Hpe.out.only0 HO3.out).only0 HOl.out
          have hne : ∀ l : List En, (∃ (j : Nat) (x : En), l[j]? = some x) → l.flatMap enCells ≠ [] := fun l ⟨j, x, hj⟩ e' => by have := flat_get enCells 5 enCells_len l j x 0 hj (by omega); rw [e'] at this; cases this
          obtain ⟨b1, f1, rfl, -⟩ := hrp.lt (hne _ ⟨_, _, he⟩)
          obtain ⟨b2, f2, rfl, -⟩ := hre.lt (hne _ ⟨_, _, he2⟩)
          have x0 := rd_elem enCells_len hrp he (r := 0) rfl
          have x1 := rd_elem enCells_len hrp he (r := 1) rfl
          have x2 := rd_elem enCells_len hrp he (r := 2) rfl
          have x3 := rd_elem enCells_len hrp he (r := 3) rfl
          have x4 := rd_elem enCells_len hrp he (r := 4) rfl
          rw [Addr.add_lit, ← Nat.add_assoc] at x0 x1 x2 x3 x4
          rw [Nat.add_zero] at x0
          obtain ⟨wt, hwt⟩ : ∃ wt, wt = wr.alloc (.cells #[.string (str e.name), .bool e.pre, .int .i64 e.size, .string (str e.etag), .int .i64 e.time] 61) := ⟨_, rfl⟩
          have ot : Only [] wr wt := by rw [hwt]; exact Only.alloc _ _
          have rt : Row wt wr.heap.size 61 (enCells e) := by rw [hwt]; exact Row.newOf _ _ _ _ rfl
          have hret := hre.only0 ot
          have z0 := rt.cell (i := 0) rfl
          have z1 := rt.cell (i := 1) rfl
          have z2 := rt.cell (i := 2) rfl
          have z3 := rt.cell (i := 3) rfl
          have z4 := rt.cell (i := 4) rfl
          have y0 := rd_elem enCells_len hret he2 (r := 0) rfl
          have y1 := rd_elem enCells_len hret he2 (r := 1) rfl
          have y2 := rd_elem enCells_len hret he2 (r := 2) rfl
          have y3 := rd_elem enCells_len hret he2 (r := 3) rfl
          have y4 := rd_elem enCells_len hret he2 (r := 4) rfl
          rw [Addr.add_lit, ← Nat.add_assoc] at y0 y1 y2 y3 y4
          rw [Nat.add_zero] at y0
          have hai : a + i < me := by rw [← Hle.out]; exact (List.getElem?_eq_some_iff.1 he2).1
          have hge : decide ((me : Int) ≤ ((a + i : Nat) : Int)) = false := decide_eq_false (by omega)
          have HOt := Lib.hid (HOl.out.trans0 ot)
          have Hwt := Lib.hid hwt
          obtain ⟨ai, hai2⟩ : ∃ ai, a + i = ai := ⟨_, rfl⟩
          have Hai := Lib.hid hai2
          rw [hai2] at y0 y1 y2 y3 y4 hai hge ⊢
          clear ot rt hret hrp hre hne he he2 hwt hai2
          go_upto_region 16 with (fail)
          rw [← Hwt.out]
          clear Hwt x0 x1 x2 x3 x4
          go_quiet (fail)
          go_wp2_with fail
          refine ⟨⟨i + 1, by rw [← Nat.add_assoc, Hai.out]; go_num, by go_num, by omega, Lib.hid (HOt.out.trans0 (Only.drewN _ _))⟩, ?_⟩
          show m2 - ((i : Int) + 1).toNat < m2 - ((i : Int)).toNat
          omega
        · obtain rfl : i = m2 := by omega
          have p1 := (HR3.out.only0 HOl.out).cell (i := 1) rfl
          by_cases hc : a + m1 < me
          · rw [if_pos hc] at p1
            have hi : i = m1 := by
              have h1 := Hl2.out
              have h2 := Hle.out
              rw [List.length_take, List.length_drop] at h1
              omega
            subst hi
            have hne := tokAt_ne (es := es) Hnm.out (a := a + i) (by omega) (by rw [Hle.out]; omega)
            have hd1 : (str (tokAt es (a + i))).toList.isEmpty = false := by rw [str_toList]; cases h : tokAt es (a + i) with | nil => exact absurd h hne | cons x l => rfl
            have hd2 : ¬ (str (tokAt es (a + i))).toList = [] := by rw [str_toList]; exact hne
            obtain ⟨tb, htb⟩ : ∃ tb, tb = str (tokAt es (a + i)) := ⟨_, rfl⟩
            have Htb := Lib.hid htb
            rw [← htb] at p1 hd1 hd2
            clear htb hne
            go_wp2_with fail
            refine ⟨⟨a + i, r + 1, by rw [Htb.out], rfl, by go_num, by omega, .inl hc, Lib.hid ((HO.out.trans0 HO3r.out).trans0 HOl.out)⟩, ?_⟩
            show me + 1 - ((r : Int) + 1).toNat < me + 1 - ((r : Int)).toNat
            omega
          · rw [if_neg hc] at p1
            have hi : a + i = me := by
              have h1 := Hl2.out
              have h2 := Hle.out
              rw [List.length_take, List.length_drop] at h1
              omega
            have HOf := Lib.hid (((HOe.out.trans0 HO.out).trans0 HO3r.out).trans0 HOl.out)
            have hde : (str []).toList = [] := str_toList []
            rw [hi]
            clear hc
            go_wp2_with fail
            go_ret
            exact ⟨rfl, HOf.out⟩
end Go.Proofs.YtfoplbolbjcggaaDoor
