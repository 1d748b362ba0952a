/- The walk of bollardref20.Entries. -/
import Derived.Test.YtfoplbolbjcggaaDoorCommonW
import Derived.Test.YtfoplbolbjcggaaDoorEntSeqW
import Derived.BigQuiet
import Derived.Deep.QuietTactic
set_option linter.unusedVariables false
set_option maxRecDepth 100000
namespace Go.Proofs.YtfoplbolbjcggaaDoor
open Go.RowKit

theorem insAt_eq {es : List En} {en : En} {a : Nat} (ha : a ≤ es.length) (h1 : ∀ i e, i < a → es[i]? = some e → lt e.name en.name) (h2 : ∀ e, es[a]? = some e → ¬ lt e.name en.name) : insAt es en = a := by
  have hs : es = es.take a ++ es.drop a := (List.take_append_drop a es).symm
  unfold insAt
  conv => lhs; rw [hs]
  rw [takeWhile_app _ _ _ (fun x hx => by
    obtain ⟨i, hi⟩ := List.getElem?_of_mem hx
    have hia : i < a := by have := (List.getElem?_eq_some_iff.1 hi).1; rw [List.length_take] at this; omega
    rw [List.getElem?_take, if_pos hia] at hi
    exact decide_eq_true (h1 i x hia hi))]
  have hd : (es.drop a).takeWhile (fun x => decide (lt x.name en.name)) = [] := by
    cases hda : es.drop a with
    | nil => rfl
    | cons x l =>
      have hx : es[a]? = some x := by
        have : (es.drop a)[0]? = some x := by rw [hda]; rfl
        rwa [List.getElem?_drop, Nat.add_zero] at this
      rw [List.takeWhile_cons, decide_eq_false (h2 x hx)]
      rfl
  rw [hd, List.append_nil, List.length_take]
  omega
structure ReI (w0 : World) (es : List En) (q : Option Addr) (m k : Nat) (w : World) : Prop where
  own : OwnK w w0.heap.size 61 5 (.slice q m k) m (es.flatMap enCells)
  len : es.length = m
  only : Only [] w0 w
theorem ReI.step {w0 w w' : World} {es : List En} {q : Option Addr} {m k : Nat} (h : ReI w0 es q m k w) (ho : Only [] w w') : ReI w0 es q m k w' := ⟨h.own.only0 ho, h.len, h.only.trans0 ho⟩
set_option maxHeartbeats 16000000 in
theorem refEntries_any (nm : ByteArray) (tt dd : Int) (u : Value) (hu : u.oneCell' = true) (p : Option Addr) (os : List Ob) (n c : Nat) (pf dl : Bs) (w0 : World) (hn : os.length = n) (hb : n ≤ 1000) (hp : p = none → n = 0 ∧ c = 0) (hx : Rd w0 p (os.flatMap obCells)) (hs : SortedK os) (hk : ∀ o ∈ os, o.key.length ≤ 4294967280) (hpl : pf.length ≤ 140737488351232) (hdl : dl.length ≤ 140737488351232) :
    Calls Tryd.prog 27 #[bkV' nm tt dd p n c u, .string (str pf), .string (str dl)] w0 fun e w' => ∃ q m k, e = .returned (.slice q m k) ∧ (entriesD pf dl os).length = m ∧ OwnK w' w0.heap.size 61 5 (.slice q m k) m ((entriesD pf dl os).flatMap enCells) ∧ Only [] w0 w' := by
  obtain ⟨w1, hw1⟩ : ∃ w1, w1 = w0.alloc (.cells #[.string nm, .int .i64 tt, .int .i64 dd, .slice p n c, u] 39) := ⟨_, rfl⟩
  obtain ⟨w2, hw2⟩ : ∃ w2, w2 = w1.alloc (.cells #[] 61) := ⟨_, rfl⟩
  have o1 : Only [] w0 w1 := by rw [hw1]; exact Only.alloc _ _
  have o2 : Only [] w1 w2 := by rw [hw2]; exact Only.alloc _ _
  have s1 : w1.heap.size = w0.heap.size + 1 := by rw [hw1]; simp
  have r1 : Row w2 w0.heap.size 39 [.string nm, .int .i64 tt, .int .i64 dd, .slice p n c, u] := by
    have : Row w1 w0.heap.size 39 [.string nm, .int .i64 tt, .int .i64 dd, .slice p n c, u] := by rw [hw1]; exact Row.newOf _ _ _ _ rfl
    exact this.only0 o2
  have own2 : OwnK w2 w0.heap.size 61 5 (.slice (some ⟨w0.heap.size + 1, 0, none⟩) 0 0) 0 [] := by
    rw [hw2, ← s1]; exact OwnK.new (K := 5) (n := 0) [] o1.size rfl (by omega)
  have HI0 : Hid (ReI w0 (entriesD pf dl (os.take 0)) (some ⟨w0.heap.size + 1, 0, none⟩) 0 0 w2) := Lib.hid ⟨own2, rfl, o1.trans0 o2⟩
  have c3 := r1.cell (i := 3) rfl
  have Hw1 := Lib.hid hw1
  have Hw2 := Lib.hid hw2
  have Hn := Lib.hid hn
  have Hx := Lib.hid hx
  have Hks := Lib.hid hk
  have HSo := Lib.hid hs
  unfold bkV'
  clear o1 o2 s1 r1 own2 hw1 hw2 hn hx hk hs
  go_enter Tryd.func27, Tryd.ntmps27
  go_upto_region 2 with (fail)
  rw [← Hw1.out, ← Hw2.out]
  clear Hw1 Hw2
  go_wp2_with fail
  clear c3
  go_loopw [7, 18] (fun s a wr => ∃ (j : Nat) (q : Option Addr) (m k : Nat), a = .int .i64 (j : Int) ∧ s = .slice q m k ∧ j ≤ n ∧ Hid (ReI w0 (entriesD pf dl (os.take j)) q m k wr)) (fun _ a _ => n - (intOf a).toNat)
  case atStart => exact ⟨0, _, 0, 0, rfl, rfl, by omega, HI0⟩
  case round =>
    clear HI0
    obtain ⟨j, q, m, k, rfl, rfl, hj, HI⟩ := hrel
    by_cases hlt : j < n
    · obtain ⟨o, ho⟩ : ∃ o, os[j]? = some o := ⟨_, List.getElem?_eq_getElem (by rw [Hn.out]; exact hlt)⟩
      have hrd := Hx.out.only0 HI.out.only
      obtain ⟨pa, rfl⟩ : ∃ pa, p = some pa := by
        cases p with
        | none => have := (hp rfl).1; omega
        | some a => exact ⟨a, rfl⟩
      have d0 := rd_elem obCells_len hrd ho (r := 0) rfl
      have d1 := rd_elem obCells_len hrd ho (r := 1) rfl
      have d2 := rd_elem obCells_len hrd ho (r := 2) rfl
      have d3 := rd_elem obCells_len hrd ho (r := 3) rfl
      have d4 := rd_elem obCells_len hrd ho (r := 4) rfl
      obtain ⟨b, off, hpa, -⟩ := hrd.lt (fun e => by have := flat_get obCells 5 obCells_len os j o 0 ho (by omega); rw [e] at this; cases this)
      obtain rfl := Option.some.inj hpa
      rw [Addr.add_lit, ← Nat.add_assoc] at d0 d1 d2 d3 d4
      rw [Nat.add_zero] at d0
      clear hpa
      obtain ⟨wa, hwa⟩ : ∃ wa, wa = wr.alloc (.cells #[.string (str o.key), .int .i64 o.size, .string (str o.etag), .int .i64 (o.time : Int), .slice none 0 0] 59) := ⟨_, rfl⟩
      have oa : Only [] wr wa := by rw [hwa]; exact Only.alloc _ _
      have ra : Row wa wr.heap.size 59 (obCells o) := by rw [hwa]; exact Row.newOf _ _ _ _ rfl
      have HIa := Lib.hid (HI.out.step oa)
      have Hra := Lib.hid ra
      have Hwa := Lib.hid hwa
      have Hkl : Hid (o.key.length ≤ 4294967280) := Lib.hid (Hks.out o (List.mem_of_getElem? ho))
      have Hsc : Hid (entriesD pf dl (os.take (j + 1)) = stepO (entOf pf dl o) insD (entriesD pf dl (os.take j))) := Lib.hid (entriesD_succ ho)
      have Hbef : Hid (∀ x ∈ entriesD pf dl (os.take j), ∀ en, entOf pf dl o = some en → lt x.name en.name ∨ (x = en ∧ en.pre = true)) := Lib.hid (fun x hx en hen => by
        have hst : SortedK (os.take j) := List.Pairwise.sublist (List.take_sublist _ _) HSo.out
        rw [← entries_doc hst, entries_mem hst] at hx
        obtain ⟨o', ho', hx'⟩ := hx
        obtain ⟨i, hi⟩ := List.getElem?_of_mem ho'
        have hij : i < j := by have := (List.getElem?_eq_some_iff.1 hi).1; rw [List.length_take] at this; omega
        rw [List.getElem?_take, if_pos hij] at hi
        obtain ⟨hi1, hi2⟩ := List.getElem?_eq_some_iff.1 hi
        obtain ⟨hj1, hj2⟩ := List.getElem?_eq_some_iff.1 ho
        have hlt := List.pairwise_iff_getElem.1 HSo.out i j hi1 hj1 hij
        rw [hi2, hj2] at hlt
        rcases ent_lt hlt hx' hen with h1 | ⟨h1, h2⟩
        · exact .inl h1
        · exact .inr ⟨h1, h1 ▸ h2⟩)
      clear hrd oa ra hwa ho HI
      go_upto_region 5 with (fail)
      rw [← Hwa.out]
      clear Hwa d0 d1 d2 d3 d4
      have z0 := Hra.out.cell (i := 0) rfl
      have z1 := Hra.out.cell (i := 1) rfl
      have z2 := Hra.out.cell (i := 2) rfl
      have z3 := Hra.out.cell (i := 3) rfl
      have hksz : (str o.key).size = o.key.length := str_size o.key
      have hpsz : (str pf).size = pf.length := str_size pf
      by_cases hpp : pf <+: o.key
      · obtain ⟨rs, hrs⟩ := hpp
        have hkl2 : o.key.length = pf.length + rs.length := by rw [← hrs, List.length_append]
        have hl1 : ¬ (o.key.length : Int) < (pf.length : Int) := by omega
        have hl2 : (pf.length : Int) ≤ (o.key.length : Int) := by omega
        have heq1 : ((str o.key).extract 0 pf.length).toList = (str pf).toList := by
          rw [str_ext, List.drop_zero, ← hrs, List.take_left' rfl]
        obtain ⟨we, hwe⟩ : ∃ we, we = wa.alloc (.cells #[.string (str o.key), .bool false, .int .i64 o.size, .string (str o.etag), .int .i64 (o.time : Int)] 61) := ⟨_, rfl⟩
        have oe : Only [] wa we := by rw [hwe]; exact Only.alloc _ _
        have re : Row we wa.heap.size 61 (enCells (enK o)) := by rw [hwe]; exact Row.newOf _ _ _ _ rfl
        have hcm := common_any pf rs dl we (by have := Hkl.out; omega) hdl
        rw [hrs] at hcm
        have HIe := Lib.hid (HIa.out.step oe)
        have Hre := Lib.hid re
        have Hra2 := Lib.hid (Hra.out.only0 oe)
        have Hpp : Hid (pf <+: o.key) := Lib.hid ⟨rs, hrs⟩
        have Hwe := Lib.hid hwe
        clear hwe oe re hrs hkl2
        go_upto_region 7 with (fail)
        rw [← Hwe.out]
        clear Hwe z0 z1 z2 z3
        have z0 := Hra2.out.cell (i := 0) rfl
        go_wp2_with fail
        refine hcm.mono ?_
        clear hcm z0
        rintro e wc ⟨rfl, oc⟩
        have HIc := Lib.hid (HIe.out.step oc)
        have Hrc := Lib.hid (Hre.out.only0 oc)
        have hEw : w0.heap.size ≤ wa.heap.size := HIa.out.only.size
        clear oc
        unfold commAns
        have z0 := True.intro
        have z1 := True.intro
        have z2 := True.intro
        have z3 := True.intro
        cases hc : comm pf dl o.key with
        | none =>
          obtain ⟨en, hen⟩ : ∃ en, enK o = en := ⟨_, rfl⟩
          have Hen : Hid (entOf pf dl o = some en) := Lib.hid (by unfold entOf; rw [if_pos Hpp.out, hc]; exact congrArg some hen)
          rw [hen] at Hrc
          have Hz0 := Hrc
          obtain ⟨wz, hwz⟩ : ∃ wz, wz = wc := ⟨_, rfl⟩
          subst hwz
          have HIz := HIc
          clear hc hen
          go_upto_region 10 with (fail)
          clear z0 z1 z2 z3
          have Hstp : Hid (entriesD pf dl (os.take (j + 1)) = insD (entriesD pf dl (os.take j)) en) := Lib.hid (by rw [Hsc.out, Hen.out]; rfl)
          have Hall : Hid (∀ x ∈ entriesD pf dl (os.take j), lt x.name en.name ∨ (x = en ∧ en.pre = true)) := Lib.hid (fun x hx => Hbef.out x hx en Hen.out)
          have hm3 : m ≤ 1000 := by have h1 := HIz.out.len; have h2 := entriesD_len pf dl (os.take j); rw [List.length_take] at h2; omega
          have Hm3 := Lib.hid hm3
          clear Hsc Hbef
          generalize entriesD pf dl (os.take j) = es at *
          go_wp2_with fail
          go_loopw [13] (fun v wl => ∃ (a : Nat), v = .int .i64 (a : Int) ∧ a ≤ m ∧ Hid (∀ i e, i < a → es[i]? = some e → lt e.name en.name) ∧ Hid (Only [] wz wl)) (fun v _ => m + 1 - (intOf v).toNat)
          case atStart => exact ⟨0, rfl, Nat.zero_le _, Lib.hid (fun i e h => absurd h (Nat.not_lt_zero _)), Lib.hid (Only.refl _ _)⟩
          case round =>
            obtain ⟨a, rfl, ha, Hlow, Hwl⟩ := hrel
            by_cases ham : a < m
            · obtain ⟨ea, hea⟩ : ∃ ea, es[a]? = some ea := ⟨_, List.getElem?_eq_getElem (by rw [HIz.out.len]; exact ham)⟩
              obtain ⟨g, hg, -, -⟩ := HIz.out.own.at (by omega)
              subst hg
              have hrd := (HIz.out.own.only0 Hwl.out).view.2.2.1
              have x0 := rd_elem enCells_len hrd hea (r := 0) rfl
              have x1 := rd_elem enCells_len hrd hea (r := 1) rfl
              have x2 := rd_elem enCells_len hrd hea (r := 2) rfl
              have x3 := rd_elem enCells_len hrd hea (r := 3) rfl
              have x4 := rd_elem enCells_len hrd hea (r := 4) rfl
              rw [Addr.add_lit, Nat.zero_add] at x0 x1 x2 x3 x4
              rw [Nat.add_zero] at x0
              have y := Hz0.out.only0 Hwl.out
              have y0 := y.cell (i := 0) rfl
              have y1 := y.cell (i := 1) rfl
              have y2 := y.cell (i := 2) rfl
              have y3 := y.cell (i := 3) rfl
              have y4 := y.cell (i := 4) rfl
              have ham1 : (a : Int) < (m : Int) := by omega
              have ha0 : (0 : Int) ≤ (a : Int) := by omega
              have hcl := str_ltb ea.name en.name
              by_cases hl : lt ea.name en.name
              · rw [decide_eq_true hl] at hcl
                have Hlow2 : Hid (∀ i e, i < a + 1 → es[i]? = some e → lt e.name en.name) := Lib.hid (fun i e hi he => by
                  rcases Nat.lt_or_eq_of_le (Nat.lt_succ_iff.1 hi) with h1 | rfl
                  · exact Hlow.out i e h1 he
                  · rw [hea] at he; obtain rfl := Option.some.inj he; exact hl)
                clear hl hea hrd y
                go_wp2_with fail
                go_quiet (fail)
                go_wp2_with fail
                refine ⟨⟨a + 1, by go_num, by omega, Hlow2, Lib.hid (Hwl.out.trans0 (Only.drewN _ _))⟩, ?_⟩
                show m + 1 - ((a : Int) + 1).toNat < m + 1 - ((a : Int)).toNat
                omega
              · have hee : ea = en := by
                  rcases Hall.out ea (List.mem_of_getElem? hea) with h1 | h1
                  · exact absurd h1 hl
                  · exact h1.1
                rw [decide_eq_false hl] at hcl
                have Hs2 : Hid (insD es en = es) := Lib.hid (by
                  have hia : insAt es en = a := insAt_eq (by rw [HIz.out.len]; exact ha) Hlow.out (fun e he => by rw [hea] at he; obtain rfl := Option.some.inj he; exact hl)
                  unfold insD
                  rw [hia, if_pos (by rw [hea, hee])])
                subst hee
                clear hl hea hrd y
                go_wp2_with fail
                go_quiet (fail)
                go_wp2_with fail
                go_quiet (fail)
                go_wp2_with fail
                refine ⟨⟨j + 1, _, m, k, by go_num, rfl, by omega, Lib.hid (by rw [Hstp.out, Hs2.out]; exact (HIz.out.step Hwl.out).step (Only.drewN _ _))⟩, ?_⟩
                show n - ((j : Int) + 1).toNat < n - ((j : Int)).toNat
                omega
            · obtain rfl : a = m := by omega
              have ham1 : ¬ (a : Int) < (a : Int) := by omega
              have Hs2 : Hid (insD es en = es.take a ++ en :: es.drop a) := Lib.hid (by
                have hia : insAt es en = a := insAt_eq (by rw [HIz.out.len]; exact Nat.le_refl _) Hlow.out (fun e he => by have := (List.getElem?_eq_some_iff.1 he).1; rw [HIz.out.len] at this; omega)
                unfold insD
                rw [hia, if_neg]
                rw [List.getElem?_eq_none (by rw [HIz.out.len]; exact Nat.le_refl _)]
                simp)
              go_wp2_with fail
              go_quiet (fail)
              obtain ⟨wx1, hwx1⟩ : ∃ x, x = wr.drewN nq := ⟨_, rfl⟩
              rw [← hwx1]
              have ox1 : Only [] wr wx1 := by rw [hwx1]; exact Only.drewN _ _
              clear hwx1
              go_wp2_with fail
              go_quiet (fail)
              obtain ⟨wx, hwx⟩ : ∃ x, x = wx1.drewN nq := ⟨_, rfl⟩
              rw [← hwx]
              have ox2 : Only [] wx1 wx := by rw [hwx]; exact Only.drewN _ _
              clear hwx
              have hIx := (HIz.out.step Hwl.out).step (ox1.trans0 ox2)
              have hv := hIx.own.view
              have Hrd : Hid (Rd wx q (es.flatMap enCells)) := Lib.hid hv.2.2.1
              have Hlen : Hid (es.length = a) := Lib.hid hIx.len
              have Hmk' : Hid ((a : Int) ≤ (k : Int)) := Lib.hid (by have := hv.2.2.2.2.1; omega)
              have Hmm : Hid ((a : Int) ≤ (a : Int)) := Lib.hid (by omega)
              have Hqm : Hid (q = none → a = 0 ∧ k = 0) := Lib.hid (fun h => by have := hv.2.2.2.1 h; omega)
              have Hz : Hid (Row wx wa.heap.size 61 (enCells en)) := Lib.hid ((Hz0.out.only0 Hwl.out).only0 (ox1.trans0 ox2))
              obtain ⟨r, hr⟩ : ∃ r, (if k = a then q else q.map fun x => x.add (a * 5)) = r := ⟨_, rfl⟩
              have Hcut := Lib.hid hr
              have Hra3 : Hid (r = none → 0 = 0 ∧ k - a = 0) := Lib.hid (fun h => by
                have hq0 : q = none := by
                  rw [← hr] at h
                  split at h
                  · exact h
                  · simpa using h
                have := hv.2.2.2.1 hq0
                omega)
              have HIx := Lib.hid hIx
              clear hIx hv hr ox1 ox2 Hwl
              go_upto_region 14 with (fail)
              have hRr : ∀ x, Below wx.heap.size x x := fun x => Below.refl _ _
              have hRt : ∀ x b e, Below wx.heap.size x b → Below wx.heap.size b e → Below wx.heap.size x e := fun x b e h h2 => h.trans h2
              have hRd : Below wx.heap.size wx wx.drew := (Only.drew _).below
              have hRs : ∀ j w, DirtR [(7, Below wx.heap.size), (11, Below wx.heap.size)] j w w := DirtR.refl (by
                intro x hx w
                simp only [List.mem_cons, List.not_mem_nil, or_false] at hx
                rcases hx with rfl | rfl <;> exact Below.refl _ _)
              generalize hA : a = pl at *
              -- <<RE1
              refine wp_region_rg5 (Below wx.heap.size) (DirtR [(7, Below wx.heap.size), (11, Below wx.heap.size)]) [[], [(7, none)], [(13, none)], [(86, some 1), (87, some 0)], [(85, some 3), (88, some 0)], [(10, none)], [(90, some 0)], [(89, some 2), (91, some 0)], [(7, none)], [(13, none)], [(93, some 1), (94, some 0)], [(92, some 3), (95, some 0)], [(96, some 0)]] [(7, 0)] [none, none, none, none, none, none, none, some 7, none, none, none, none, none, none, none, none, none, none, none, none, none, none, none, none, none, none, none, none, none, none, none, none, none, none, none, none, none, none, none, none, none, none, none, none, none, none, none, none, none, none, none, none, none, none, none, none, none, none, none, none, none, none, none, none, none, none, none, none, none, none, none, none, none, none, none, none, none, none, none, none, none, none, none, none, none, some 85, some 86, some 87, some 88, some 89, some 90, some 91, some 92, some 93, some 94, some 95, some 96, none, none] (by kernel_rfl) rfl (by kernel_rfl) hRr hRt hRs hRd (by kernel_rfl) ?_
              -- 0: s85 := buildSlice 41 0 #[]
              refine ⟨Sl0K 61 5 wx.heap.size, stands5_of Sl0K.stable (by intro x hx hk; simp only [List.mem_cons, List.not_mem_nil, or_false] at hx; rcases hx with rfl | rfl <;> exact Bool.noConfusion (hk.symm.trans (by kernel_rfl : _ = true))), fun a w hR hf => ?_, ?_⟩
              · refine rg_plain rfl fun K hK => ?_
                go_simp
                refine hK _ _ ⟨_, rfl, OwnK.new (K := 5) (n := 0) [] hR.size rfl (by omega)⟩ ⟨(Only.alloc w _).below.mono hR.size, Only.alloc w _⟩
              -- 1: s86 := move t7
              apply rgu_ev
              · intro a w hR hf
                obtain ⟨e7, -⟩ := hf
                replace e7 : a.tmps.getD 7 undef = _ := e7
                refine rg_plain rfl fun K hK => ?_
                go_simp
                exact hK _ _ rfl ⟨hRr _, hRs _ _⟩
              -- 2: s87 := move t13
              apply rgu_ev
              · intro a w hR hf
                obtain ⟨e13, -⟩ := hf
                replace e13 : a.tmps.getD 13 undef = _ := e13
                refine rg_plain rfl fun K hK => ?_
                go_simp
                exact hK _ _ rfl ⟨hRr _, hRs _ _⟩
              -- 3: s88 := slice 41 t86 none (some t87) none
              apply rgu_ev
              · intro a w hR hf
                obtain ⟨e86, e87, -⟩ := hf
                replace e86 : a.tmps.getD 86 undef = _ := e86
                replace e87 : a.tmps.getD 87 undef = _ := e87
                refine rg_plain rfl fun K hK => ?_
                have h3 := Hmk'.out
                go_simp
                exact hK _ _ rfl ⟨hRr _, hRs _ _⟩
              -- 4: s89 := call { builtin append, args := #[t85, t88], #[41, 41] }
              refine ⟨SlK enCells 61 5 wx.heap.size pl (es.take pl), stands5_of SlK.stable (by intro x hx hk; simp only [List.mem_cons, List.not_mem_nil, or_false] at hx; rcases hx with rfl | rfl <;> exact Bool.noConfusion (hk.symm.trans (by kernel_rfl : _ = true))), fun a w hR hf => ?_, ?_⟩
              · obtain ⟨e85, e88, -⟩ := hf
                replace e85 : Sl0K 61 5 wx.heap.size (a.tmps.getD 85 undef) w := e85
                replace e88 : a.tmps.getD 88 undef = _ := e88
                refine rg_plain rfl fun K hK => ?_
                obtain ⟨q0, e85, o85⟩ := e85
                obtain ⟨p', c', w', hra, oA, hA⟩ := appendK (P := Tryd.prog) (bytes := 56) (c := k) (q := q) (m := pl) (news := (es.take pl).flatMap enCells) (t := 41) (ty := 41) w Tryd.underlying41 Tryd.infoEn rfl (by omega) o85 (rd_take enCells_len (Hrd.out.only0 (Only.ofBelow hR)) pl) (by rw [flat_length enCells 5 enCells_len, List.length_take, Hlen.out, Nat.min_self]) Hqm.out (fun u hu => flat_one enCells enCells_one hu) (by have := Hm3.out; omega) (by have := Hm3.out; omega) hR.size
                rw [Nat.zero_add, List.nil_append] at oA
                rw [Nat.zero_add] at hra
                refine rg_append (s := .tmp 85) (x := .tmp 88) rfl e85 e88 hra ?_
                have hA0 : Only [] w w' := appendK_only0 (P := Tryd.prog) (K := 5) (bytes := 56) (c := k) (q := q) (m := pl) (news := (es.take pl).flatMap enCells) (ty := 41) w Tryd.underlying41 Tryd.infoEn rfl (by omega) o85 (rd_take enCells_len (Hrd.out.only0 (Only.ofBelow hR)) pl) (by rw [flat_length enCells 5 enCells_len, List.length_take, Hlen.out, Nat.min_self]) Hqm.out (fun u hu => flat_one enCells enCells_one hu) (by have := Hm3.out; omega) (by have := Hm3.out; omega) hra
                exact hK _ _ (SlK.ofApp oA rfl (by rw [List.length_take, Hlen.out, Nat.min_self])) ⟨hA0.below.mono hR.size, hA0⟩
              -- 5: s90 := load 61 t10
              apply rgu_ev
              · intro a w hR hf
                obtain ⟨e10, -⟩ := hf
                replace e10 : a.tmps.getD 10 undef = _ := e10
                refine rg_plain rfl fun K hK => ?_
                have hz := Hz.out.only0 (Only.ofBelow hR)
                have z0 := hz.cell (i := 0) rfl
                have z1 := hz.cell (i := 1) rfl
                have z2 := hz.cell (i := 2) rfl
                have z3 := hz.cell (i := 3) rfl
                have z4 := hz.cell (i := 4) rfl
                go_simp
                exact hK _ _ rfl ⟨hRr _, hRs _ _⟩
              -- 6: s91 := buildSlice 41 1 #[(0, t90)]
              refine ⟨SlK enCells 61 5 wx.heap.size 1 [en], stands5_of SlK.stable (by intro x hx hk; simp only [List.mem_cons, List.not_mem_nil, or_false] at hx; rcases hx with rfl | rfl <;> exact Bool.noConfusion (hk.symm.trans (by kernel_rfl : _ = true))), fun a w hR hf => ?_, ?_⟩
              · obtain ⟨e90, -⟩ := hf
                replace e90 : a.tmps.getD 90 undef = _ := e90
                refine rg_plain rfl fun K hK => ?_
                have e90' := e90
                rw [Array.getD_eq_getD_getElem?] at e90'
                go_simp
                refine hK _ _ ⟨_, _, rfl, rfl, OwnK.new (K := 5) (n := 1) (enCells en) hR.size rfl (by omega)⟩ ⟨(Only.alloc w _).below.mono hR.size, Only.alloc w _⟩
              -- 7: s92 := call { builtin append, args := #[t89, t91], #[41, 41] }
              refine ⟨SlK enCells 61 5 wx.heap.size (pl + 1) (es.take pl ++ [en]), stands5_of SlK.stable (by intro x hx hk; simp only [List.mem_cons, List.not_mem_nil, or_false] at hx; rcases hx with rfl | rfl <;> exact Bool.noConfusion (hk.symm.trans (by kernel_rfl : _ = true))), fun a w hR hf => ?_, ?_⟩
              · obtain ⟨e89, e91, -⟩ := hf
                replace e89 : SlK enCells 61 5 wx.heap.size pl (es.take pl) (a.tmps.getD 89 undef) w := e89
                replace e91 : SlK enCells 61 5 wx.heap.size 1 [en] (a.tmps.getD 91 undef) w := e91
                refine rg_plain rfl fun K hK => ?_
                obtain ⟨q1, c1, e89, l89, o89⟩ := e89
                obtain ⟨q2, c2, e91, l91, o91⟩ := e91
                have v91 := o91.view
                obtain ⟨p', c', w', hra, oA, hA⟩ := appendK (P := Tryd.prog) (bytes := 56) (c := c2) (q := q2) (m := 1) (news := enCells en) (t := 41) (ty := 41) w Tryd.underlying41 Tryd.infoEn rfl (by omega) o89 v91.2.2.1 rfl v91.2.2.2.1 (fun u hu => enCells_one _ u hu) (by have := Hm3.out; omega) (by have := Hm3.out; omega) hR.size
                refine rg_append (s := .tmp 89) (x := .tmp 91) rfl e89 e91 hra ?_
                have hB : Below wx.heap.size w w' := hA.belowOf hR.size (fun x hx => (o89.view.2.2.2.2.2.2 x hx).1)
                exact hK _ _ (SlK.ofApp oA (by rw [List.flatMap_append]; rfl) (by rw [List.length_append, l89]; rfl)) ⟨hB, hB⟩
              -- 8: s93 := move t7
              apply rgu_ev
              · intro a w hR hf
                obtain ⟨e7, -⟩ := hf
                replace e7 : a.tmps.getD 7 undef = _ := e7
                refine rg_plain rfl fun K hK => ?_
                go_simp
                exact hK _ _ rfl ⟨hRr _, hRs _ _⟩
              -- 9: s94 := move t13
              apply rgu_ev
              · intro a w hR hf
                obtain ⟨e13, -⟩ := hf
                replace e13 : a.tmps.getD 13 undef = _ := e13
                refine rg_plain rfl fun K hK => ?_
                go_simp
                exact hK _ _ rfl ⟨hRr _, hRs _ _⟩
              -- 10: s95 := slice 41 t93 (some t94) none none
              apply rgu_ev
              · intro a w hR hf
                obtain ⟨e93, e94, -⟩ := hf
                replace e93 : a.tmps.getD 93 undef = _ := e93
                replace e94 : a.tmps.getD 94 undef = _ := e94
                refine rg_plain rfl fun K hK => ?_
                have h101 := Hmm.out
                have h102 := Hmk'.out
                have h103 := Hcut.out
                go_simp
                exact hK _ _ rfl ⟨hRr _, hRs _ _⟩
              -- 11: s96 := call { builtin append, args := #[t92, t95], #[41, 41] }
              refine ⟨SlK enCells 61 5 wx.heap.size (pl + 1) (es.take pl ++ en :: es.drop pl), stands5_of SlK.stable (by intro x hx hk; simp only [List.mem_cons, List.not_mem_nil, or_false] at hx; rcases hx with rfl | rfl <;> exact Bool.noConfusion (hk.symm.trans (by kernel_rfl : _ = true))), fun a w hR hf => ?_, ?_⟩
              · obtain ⟨e92, e95, -⟩ := hf
                replace e92 : SlK enCells 61 5 wx.heap.size (pl + 1) (es.take pl ++ [en]) (a.tmps.getD 92 undef) w := e92
                replace e95 : a.tmps.getD 95 undef = _ := e95
                refine rg_plain rfl fun K hK => ?_
                obtain ⟨q1, c1, e92, l92, o92⟩ := e92
                obtain ⟨p', c', w', hra, oA, hA⟩ := appendK (P := Tryd.prog) (bytes := 56) (c := k - pl) (q := r) (m := 0) (news := (es.drop pl).flatMap enCells) (t := 41) (ty := 41) w Tryd.underlying41 Tryd.infoEn rfl (by omega) o92 (by rw [← Hcut.out]; exact rd_cut enCells_len (Hrd.out.only0 (Only.ofBelow hR)) pl k (fun _ => by rw [Hlen.out]; exact Nat.le_refl _)) (by rw [flat_length enCells 5 enCells_len, List.length_drop, Hlen.out, Nat.sub_self]) Hra3.out (fun u hu => flat_one enCells enCells_one hu) (by have := Hm3.out; omega) (by have := Hm3.out; omega) hR.size
                rw [Nat.add_zero] at hra oA
                refine rg_append (s := .tmp 92) (x := .tmp 95) rfl e92 e95 hra ?_
                have hB : Below wx.heap.size w w' := hA.belowOf hR.size (fun x hx => (o92.view.2.2.2.2.2.2 x hx).1)
                exact hK _ _ (SlK.ofApp oA (by rw [← List.flatMap_append, List.append_assoc]; rfl) (by rw [List.length_append, List.length_cons, List.length_take, List.length_drop, Hlen.out]; omega)) ⟨hB, hB⟩
              -- 12: s7 := assign t96
              refine ⟨SlK enCells 61 5 wx.heap.size (pl + 1) (es.take pl ++ en :: es.drop pl), stands5_of SlK.stable (by intro x hx hk; simp only [List.mem_cons, List.not_mem_nil, or_false] at hx; rcases hx with rfl | rfl <;> exact Bool.noConfusion (hk.symm.trans (by kernel_rfl : _ = true))), fun a w hR hf => ?_, ?_⟩
              · obtain ⟨e96, -⟩ := hf
                replace e96 : SlK enCells 61 5 wx.heap.size (pl + 1) (es.take pl ++ en :: es.drop pl) (a.tmps.getD 96 undef) w := e96
                refine rg_plain rfl fun K hK => ?_
                generalize hv96 : a.tmps.getD 96 undef = v96 at e96
                go_simp
                exact hK _ _ e96 ⟨hRr _, hRs _ _⟩
              intro f w hR hf
              dsimp only [mergeT]
              obtain ⟨e7, -⟩ := hf
              replace e7 : SlK enCells 61 5 wx.heap.size (pl + 1) (es.take pl ++ en :: es.drop pl) (f 7) w := e7
              -- RE1>>
              obtain ⟨q', c', h7, hl', hown'⟩ := e7
              rw [h7]
              have HIn : Hid (ReI w0 (es.take pl ++ en :: es.drop pl) q' (pl + 1) c' w) := Lib.hid ⟨hown'.weaken HIx.out.only.size, hl', HIx.out.only.trans0 (Only.ofBelow hR)⟩
              clear hown' hl' h7 hR hRr hRt hRd hRs hA
              go_wp2_with fail
              refine ⟨⟨j + 1, q', pl + 1, c', by go_num, rfl, by omega, Lib.hid (by rw [Hstp.out, Hs2.out]; exact HIn.out)⟩, ?_⟩
              show n - ((j : Int) + 1).toNat < n - ((j : Int)).toNat
              omega
        | some cc =>
          obtain ⟨en, hen⟩ : ∃ en, enC cc = en := ⟨_, rfl⟩
          have Hen : Hid (entOf pf dl o = some en) := Lib.hid (by unfold entOf; rw [if_pos Hpp.out, hc]; exact congrArg some hen)
          have hst := Hrc.out.storeEn (e' := enC cc)
          have hrow := Hrc.out.setRow (enCells (enC cc))
          have oS := Only.setRow wc wa.heap.size (enCells (enC cc)).toArray
          have hO : Only [] w0 (wc.setRow wa.heap.size (enCells (enC cc)).toArray) := HIc.out.only.transN oS (fun t ht => by obtain rfl := List.mem_singleton.1 ht; exact hEw)
          have hown := HIc.out.own.only oS (fun x hx hm => by
            have h1 := (HIa.out.own.view.2.2.2.2.2.2 x (ownBlkF hx)).2
            have h2 := List.mem_singleton.1 hm
            omega)
          obtain ⟨wz, hwz⟩ : ∃ wz, wz = wc.setRow wa.heap.size (enCells (enC cc)).toArray := ⟨_, rfl⟩
          rw [← hwz] at hst hrow hO hown
          unfold enV enC at hst
          rw [hen] at hrow
          have Hst := Lib.hid hst
          have Hz0 := Lib.hid hrow
          have HIz := Lib.hid (ReI.mk hown HIc.out.len hO)
          clear hst hrow oS hO hown hwz hc hen
          go_upto_region 10 with (first | ((with_reducible show wpList _ _ _ _ _ _); refine wpl_store (ty := 61) (x := .tmp 10) (y := .tmp 56) rfl rfl rfl rfl Hst.out ?_))
          clear z0 z1 z2 z3
          have Hstp : Hid (entriesD pf dl (os.take (j + 1)) = insD (entriesD pf dl (os.take j)) en) := Lib.hid (by rw [Hsc.out, Hen.out]; rfl)
          have Hall : Hid (∀ x ∈ entriesD pf dl (os.take j), lt x.name en.name ∨ (x = en ∧ en.pre = true)) := Lib.hid (fun x hx => Hbef.out x hx en Hen.out)
          have hm3 : m ≤ 1000 := by have h1 := HIz.out.len; have h2 := entriesD_len pf dl (os.take j); rw [List.length_take] at h2; omega
          have Hm3 := Lib.hid hm3
          clear Hsc Hbef
          generalize entriesD pf dl (os.take j) = es at *
          go_wp2_with fail
          go_loopw [13] (fun v wl => ∃ (a : Nat), v = .int .i64 (a : Int) ∧ a ≤ m ∧ Hid (∀ i e, i < a → es[i]? = some e → lt e.name en.name) ∧ Hid (Only [] wz wl)) (fun v _ => m + 1 - (intOf v).toNat)
          case atStart => exact ⟨0, rfl, Nat.zero_le _, Lib.hid (fun i e h => absurd h (Nat.not_lt_zero _)), Lib.hid (Only.refl _ _)⟩
          case round =>
            obtain ⟨a, rfl, ha, Hlow, Hwl⟩ := hrel
            by_cases ham : a < m
            · obtain ⟨ea, hea⟩ : ∃ ea, es[a]? = some ea := ⟨_, List.getElem?_eq_getElem (by rw [HIz.out.len]; exact ham)⟩
              obtain ⟨g, hg, -, -⟩ := HIz.out.own.at (by omega)
              subst hg
              have hrd := (HIz.out.own.only0 Hwl.out).view.2.2.1
              have x0 := rd_elem enCells_len hrd hea (r := 0) rfl
              have x1 := rd_elem enCells_len hrd hea (r := 1) rfl
              have x2 := rd_elem enCells_len hrd hea (r := 2) rfl
              have x3 := rd_elem enCells_len hrd hea (r := 3) rfl
              have x4 := rd_elem enCells_len hrd hea (r := 4) rfl
              rw [Addr.add_lit, Nat.zero_add] at x0 x1 x2 x3 x4
              rw [Nat.add_zero] at x0
              have y := Hz0.out.only0 Hwl.out
              have y0 := y.cell (i := 0) rfl
              have y1 := y.cell (i := 1) rfl
              have y2 := y.cell (i := 2) rfl
              have y3 := y.cell (i := 3) rfl
              have y4 := y.cell (i := 4) rfl
              have ham1 : (a : Int) < (m : Int) := by omega
              have ha0 : (0 : Int) ≤ (a : Int) := by omega
              have hcl := str_ltb ea.name en.name
              by_cases hl : lt ea.name en.name
              · rw [decide_eq_true hl] at hcl
                have Hlow2 : Hid (∀ i e, i < a + 1 → es[i]? = some e → lt e.name en.name) := Lib.hid (fun i e hi he => by
                  rcases Nat.lt_or_eq_of_le (Nat.lt_succ_iff.1 hi) with h1 | rfl
                  · exact Hlow.out i e h1 he
                  · rw [hea] at he; obtain rfl := Option.some.inj he; exact hl)
                clear hl hea hrd y
                go_wp2_with fail
                go_quiet (fail)
                go_wp2_with fail
                refine ⟨⟨a + 1, by go_num, by omega, Hlow2, Lib.hid (Hwl.out.trans0 (Only.drewN _ _))⟩, ?_⟩
                show m + 1 - ((a : Int) + 1).toNat < m + 1 - ((a : Int)).toNat
                omega
              · have hee : ea = en := by
                  rcases Hall.out ea (List.mem_of_getElem? hea) with h1 | h1
                  · exact absurd h1 hl
                  · exact h1.1
                rw [decide_eq_false hl] at hcl
                have Hs2 : Hid (insD es en = es) := Lib.hid (by
                  have hia : insAt es en = a := insAt_eq (by rw [HIz.out.len]; exact ha) Hlow.out (fun e he => by rw [hea] at he; obtain rfl := Option.some.inj he; exact hl)
                  unfold insD
                  rw [hia, if_pos (by rw [hea, hee])])
                subst hee
                clear hl hea hrd y
                go_wp2_with fail
                go_quiet (fail)
                go_wp2_with fail
                go_quiet (fail)
                go_wp2_with fail
                refine ⟨⟨j + 1, _, m, k, by go_num, rfl, by omega, Lib.hid (by rw [Hstp.out, Hs2.out]; exact (HIz.out.step Hwl.out).step (Only.drewN _ _))⟩, ?_⟩
                show n - ((j : Int) + 1).toNat < n - ((j : Int)).toNat
                omega
            · obtain rfl : a = m := by omega
              have ham1 : ¬ (a : Int) < (a : Int) := by omega
              have Hs2 : Hid (insD es en = es.take a ++ en :: es.drop a) := Lib.hid (by
                have hia : insAt es en = a := insAt_eq (by rw [HIz.out.len]; exact Nat.le_refl _) Hlow.out (fun e he => by have := (List.getElem?_eq_some_iff.1 he).1; rw [HIz.out.len] at this; omega)
                unfold insD
                rw [hia, if_neg]
                rw [List.getElem?_eq_none (by rw [HIz.out.len]; exact Nat.le_refl _)]
                simp)
              go_wp2_with fail
              go_quiet (fail)
              obtain ⟨wx1, hwx1⟩ : ∃ x, x = wr.drewN nq := ⟨_, rfl⟩
              rw [← hwx1]
              have ox1 : Only [] wr wx1 := by rw [hwx1]; exact Only.drewN _ _
              clear hwx1
              go_wp2_with fail
              go_quiet (fail)
              obtain ⟨wx, hwx⟩ : ∃ x, x = wx1.drewN nq := ⟨_, rfl⟩
              rw [← hwx]
              have ox2 : Only [] wx1 wx := by rw [hwx]; exact Only.drewN _ _
              clear hwx
              have hIx := (HIz.out.step Hwl.out).step (ox1.trans0 ox2)
              have hv := hIx.own.view
              have Hrd : Hid (Rd wx q (es.flatMap enCells)) := Lib.hid hv.2.2.1
              have Hlen : Hid (es.length = a) := Lib.hid hIx.len
              have Hmk' : Hid ((a : Int) ≤ (k : Int)) := Lib.hid (by have := hv.2.2.2.2.1; omega)
              have Hmm : Hid ((a : Int) ≤ (a : Int)) := Lib.hid (by omega)
              have Hqm : Hid (q = none → a = 0 ∧ k = 0) := Lib.hid (fun h => by have := hv.2.2.2.1 h; omega)
              have Hz : Hid (Row wx wa.heap.size 61 (enCells en)) := Lib.hid ((Hz0.out.only0 Hwl.out).only0 (ox1.trans0 ox2))
              obtain ⟨r, hr⟩ : ∃ r, (if k = a then q else q.map fun x => x.add (a * 5)) = r := ⟨_, rfl⟩
              have Hcut := Lib.hid hr
              have Hra3 : Hid (r = none → 0 = 0 ∧ k - a = 0) := Lib.hid (fun h => by
                have hq0 : q = none := by
                  rw [← hr] at h
                  split at h
                  · exact h
                  · simpa using h
                have := hv.2.2.2.1 hq0
                omega)
              have HIx := Lib.hid hIx
              clear hIx hv hr ox1 ox2 Hwl
              go_upto_region 14 with (fail)
              have hRr : ∀ x, Below wx.heap.size x x := fun x => Below.refl _ _
              have hRt : ∀ x b e, Below wx.heap.size x b → Below wx.heap.size b e → Below wx.heap.size x e := fun x b e h h2 => h.trans h2
              have hRd : Below wx.heap.size wx wx.drew := (Only.drew _).below
              have hRs : ∀ j w, DirtR [(7, Below wx.heap.size), (11, Below wx.heap.size)] j w w := DirtR.refl (by
                intro x hx w
                simp only [List.mem_cons, List.not_mem_nil, or_false] at hx
                rcases hx with rfl | rfl <;> exact Below.refl _ _)
              generalize hA : a = pl at *
              -- <<RE2
              refine wp_region_rg5 (Below wx.heap.size) (DirtR [(7, Below wx.heap.size), (11, Below wx.heap.size)]) [[], [(7, none)], [(13, none)], [(86, some 1), (87, some 0)], [(85, some 3), (88, some 0)], [(10, none)], [(90, some 0)], [(89, some 2), (91, some 0)], [(7, none)], [(13, none)], [(93, some 1), (94, some 0)], [(92, some 3), (95, some 0)], [(96, some 0)]] [(7, 0)] [none, none, none, none, none, none, none, some 7, none, none, none, none, none, none, none, none, none, none, none, none, none, none, none, none, none, none, none, none, none, none, none, none, none, none, none, none, none, none, none, none, none, none, none, none, none, none, none, none, none, none, none, none, none, none, none, none, none, none, none, none, none, none, none, none, none, none, none, none, none, none, none, none, none, none, none, none, none, none, none, none, none, none, none, none, none, some 85, some 86, some 87, some 88, some 89, some 90, some 91, some 92, some 93, some 94, some 95, some 96, none, none] (by kernel_rfl) rfl (by kernel_rfl) hRr hRt hRs hRd (by kernel_rfl) ?_
              -- 0: s85 := buildSlice 41 0 #[]
              refine ⟨Sl0K 61 5 wx.heap.size, stands5_of Sl0K.stable (by intro x hx hk; simp only [List.mem_cons, List.not_mem_nil, or_false] at hx; rcases hx with rfl | rfl <;> exact Bool.noConfusion (hk.symm.trans (by kernel_rfl : _ = true))), fun a w hR hf => ?_, ?_⟩
              · refine rg_plain rfl fun K hK => ?_
                go_simp
                refine hK _ _ ⟨_, rfl, OwnK.new (K := 5) (n := 0) [] hR.size rfl (by omega)⟩ ⟨(Only.alloc w _).below.mono hR.size, Only.alloc w _⟩
              -- 1: s86 := move t7
              apply rgu_ev
              · intro a w hR hf
                obtain ⟨e7, -⟩ := hf
                replace e7 : a.tmps.getD 7 undef = _ := e7
                refine rg_plain rfl fun K hK => ?_
                go_simp
                exact hK _ _ rfl ⟨hRr _, hRs _ _⟩
              -- 2: s87 := move t13
              apply rgu_ev
              · intro a w hR hf
                obtain ⟨e13, -⟩ := hf
                replace e13 : a.tmps.getD 13 undef = _ := e13
                refine rg_plain rfl fun K hK => ?_
                go_simp
                exact hK _ _ rfl ⟨hRr _, hRs _ _⟩
              -- 3: s88 := slice 41 t86 none (some t87) none
              apply rgu_ev
              · intro a w hR hf
                obtain ⟨e86, e87, -⟩ := hf
                replace e86 : a.tmps.getD 86 undef = _ := e86
                replace e87 : a.tmps.getD 87 undef = _ := e87
                refine rg_plain rfl fun K hK => ?_
                have h3 := Hmk'.out
                go_simp
                exact hK _ _ rfl ⟨hRr _, hRs _ _⟩
              -- 4: s89 := call { builtin append, args := #[t85, t88], #[41, 41] }
              refine ⟨SlK enCells 61 5 wx.heap.size pl (es.take pl), stands5_of SlK.stable (by intro x hx hk; simp only [List.mem_cons, List.not_mem_nil, or_false] at hx; rcases hx with rfl | rfl <;> exact Bool.noConfusion (hk.symm.trans (by kernel_rfl : _ = true))), fun a w hR hf => ?_, ?_⟩
              · obtain ⟨e85, e88, -⟩ := hf
                replace e85 : Sl0K 61 5 wx.heap.size (a.tmps.getD 85 undef) w := e85
                replace e88 : a.tmps.getD 88 undef = _ := e88
                refine rg_plain rfl fun K hK => ?_
                obtain ⟨q0, e85, o85⟩ := e85
                obtain ⟨p', c', w', hra, oA, hA⟩ := appendK (P := Tryd.prog) (bytes := 56) (c := k) (q := q) (m := pl) (news := (es.take pl).flatMap enCells) (t := 41) (ty := 41) w Tryd.underlying41 Tryd.infoEn rfl (by omega) o85 (rd_take enCells_len (Hrd.out.only0 (Only.ofBelow hR)) pl) (by rw [flat_length enCells 5 enCells_len, List.length_take, Hlen.out, Nat.min_self]) Hqm.out (fun u hu => flat_one enCells enCells_one hu) (by have := Hm3.out; omega) (by have := Hm3.out; omega) hR.size
                rw [Nat.zero_add, List.nil_append] at oA
                rw [Nat.zero_add] at hra
                refine rg_append (s := .tmp 85) (x := .tmp 88) rfl e85 e88 hra ?_
                have hA0 : Only [] w w' := appendK_only0 (P := Tryd.prog) (K := 5) (bytes := 56) (c := k) (q := q) (m := pl) (news := (es.take pl).flatMap enCells) (ty := 41) w Tryd.underlying41 Tryd.infoEn rfl (by omega) o85 (rd_take enCells_len (Hrd.out.only0 (Only.ofBelow hR)) pl) (by rw [flat_length enCells 5 enCells_len, List.length_take, Hlen.out, Nat.min_self]) Hqm.out (fun u hu => flat_one enCells enCells_one hu) (by have := Hm3.out; omega) (by have := Hm3.out; omega) hra
                exact hK _ _ (SlK.ofApp oA rfl (by rw [List.length_take, Hlen.out, Nat.min_self])) ⟨hA0.below.mono hR.size, hA0⟩
              -- 5: s90 := load 61 t10
              apply rgu_ev
              · intro a w hR hf
                obtain ⟨e10, -⟩ := hf
                replace e10 : a.tmps.getD 10 undef = _ := e10
                refine rg_plain rfl fun K hK => ?_
                have hz := Hz.out.only0 (Only.ofBelow hR)
                have z0 := hz.cell (i := 0) rfl
                have z1 := hz.cell (i := 1) rfl
                have z2 := hz.cell (i := 2) rfl
                have z3 := hz.cell (i := 3) rfl
                have z4 := hz.cell (i := 4) rfl
                go_simp
                exact hK _ _ rfl ⟨hRr _, hRs _ _⟩
              -- 6: s91 := buildSlice 41 1 #[(0, t90)]
              refine ⟨SlK enCells 61 5 wx.heap.size 1 [en], stands5_of SlK.stable (by intro x hx hk; simp only [List.mem_cons, List.not_mem_nil, or_false] at hx; rcases hx with rfl | rfl <;> exact Bool.noConfusion (hk.symm.trans (by kernel_rfl : _ = true))), fun a w hR hf => ?_, ?_⟩
              · obtain ⟨e90, -⟩ := hf
                replace e90 : a.tmps.getD 90 undef = _ := e90
                refine rg_plain rfl fun K hK => ?_
                have e90' := e90
                rw [Array.getD_eq_getD_getElem?] at e90'
                go_simp
                refine hK _ _ ⟨_, _, rfl, rfl, OwnK.new (K := 5) (n := 1) (enCells en) hR.size rfl (by omega)⟩ ⟨(Only.alloc w _).below.mono hR.size, Only.alloc w _⟩
              -- 7: s92 := call { builtin append, args := #[t89, t91], #[41, 41] }
              refine ⟨SlK enCells 61 5 wx.heap.size (pl + 1) (es.take pl ++ [en]), stands5_of SlK.stable (by intro x hx hk; simp only [List.mem_cons, List.not_mem_nil, or_false] at hx; rcases hx with rfl | rfl <;> exact Bool.noConfusion (hk.symm.trans (by kernel_rfl : _ = true))), fun a w hR hf => ?_, ?_⟩
              · obtain ⟨e89, e91, -⟩ := hf
                replace e89 : SlK enCells 61 5 wx.heap.size pl (es.take pl) (a.tmps.getD 89 undef) w := e89
                replace e91 : SlK enCells 61 5 wx.heap.size 1 [en] (a.tmps.getD 91 undef) w := e91
                refine rg_plain rfl fun K hK => ?_
                obtain ⟨q1, c1, e89, l89, o89⟩ := e89
                obtain ⟨q2, c2, e91, l91, o91⟩ := e91
                have v91 := o91.view
                obtain ⟨p', c', w', hra, oA, hA⟩ := appendK (P := Tryd.prog) (bytes := 56) (c := c2) (q := q2) (m := 1) (news := enCells en) (t := 41) (ty := 41) w Tryd.underlying41 Tryd.infoEn rfl (by omega) o89 v91.2.2.1 rfl v91.2.2.2.1 (fun u hu => enCells_one _ u hu) (by have := Hm3.out; omega) (by have := Hm3.out; omega) hR.size
                refine rg_append (s := .tmp 89) (x := .tmp 91) rfl e89 e91 hra ?_
                have hB : Below wx.heap.size w w' := hA.belowOf hR.size (fun x hx => (o89.view.2.2.2.2.2.2 x hx).1)
                exact hK _ _ (SlK.ofApp oA (by rw [List.flatMap_append]; rfl) (by rw [List.length_append, l89]; rfl)) ⟨hB, hB⟩
              -- 8: s93 := move t7
              apply rgu_ev
              · intro a w hR hf
                obtain ⟨e7, -⟩ := hf
                replace e7 : a.tmps.getD 7 undef = _ := e7
                refine rg_plain rfl fun K hK => ?_
                go_simp
                exact hK _ _ rfl ⟨hRr _, hRs _ _⟩
              -- 9: s94 := move t13
              apply rgu_ev
              · intro a w hR hf
                obtain ⟨e13, -⟩ := hf
                replace e13 : a.tmps.getD 13 undef = _ := e13
                refine rg_plain rfl fun K hK => ?_
                go_simp
                exact hK _ _ rfl ⟨hRr _, hRs _ _⟩
              -- 10: s95 := slice 41 t93 (some t94) none none
              apply rgu_ev
              · intro a w hR hf
                obtain ⟨e93, e94, -⟩ := hf
                replace e93 : a.tmps.getD 93 undef = _ := e93
                replace e94 : a.tmps.getD 94 undef = _ := e94
                refine rg_plain rfl fun K hK => ?_
                have h101 := Hmm.out
                have h102 := Hmk'.out
                have h103 := Hcut.out
                go_simp
                exact hK _ _ rfl ⟨hRr _, hRs _ _⟩
              -- 11: s96 := call { builtin append, args := #[t92, t95], #[41, 41] }
              refine ⟨SlK enCells 61 5 wx.heap.size (pl + 1) (es.take pl ++ en :: es.drop pl), stands5_of SlK.stable (by intro x hx hk; simp only [List.mem_cons, List.not_mem_nil, or_false] at hx; rcases hx with rfl | rfl <;> exact Bool.noConfusion (hk.symm.trans (by kernel_rfl : _ = true))), fun a w hR hf => ?_, ?_⟩
              · obtain ⟨e92, e95, -⟩ := hf
                replace e92 : SlK enCells 61 5 wx.heap.size (pl + 1) (es.take pl ++ [en]) (a.tmps.getD 92 undef) w := e92
                replace e95 : a.tmps.getD 95 undef = _ := e95
                refine rg_plain rfl fun K hK => ?_
                obtain ⟨q1, c1, e92, l92, o92⟩ := e92
                obtain ⟨p', c', w', hra, oA, hA⟩ := appendK (P := Tryd.prog) (bytes := 56) (c := k - pl) (q := r) (m := 0) (news := (es.drop pl).flatMap enCells) (t := 41) (ty := 41) w Tryd.underlying41 Tryd.infoEn rfl (by omega) o92 (by rw [← Hcut.out]; exact rd_cut enCells_len (Hrd.out.only0 (Only.ofBelow hR)) pl k (fun _ => by rw [Hlen.out]; exact Nat.le_refl _)) (by rw [flat_length enCells 5 enCells_len, List.length_drop, Hlen.out, Nat.sub_self]) Hra3.out (fun u hu => flat_one enCells enCells_one hu) (by have := Hm3.out; omega) (by have := Hm3.out; omega) hR.size
                rw [Nat.add_zero] at hra oA
                refine rg_append (s := .tmp 92) (x := .tmp 95) rfl e92 e95 hra ?_
                have hB : Below wx.heap.size w w' := hA.belowOf hR.size (fun x hx => (o92.view.2.2.2.2.2.2 x hx).1)
                exact hK _ _ (SlK.ofApp oA (by rw [← List.flatMap_append, List.append_assoc]; rfl) (by rw [List.length_append, List.length_cons, List.length_take, List.length_drop, Hlen.out]; omega)) ⟨hB, hB⟩
              -- 12: s7 := assign t96
              refine ⟨SlK enCells 61 5 wx.heap.size (pl + 1) (es.take pl ++ en :: es.drop pl), stands5_of SlK.stable (by intro x hx hk; simp only [List.mem_cons, List.not_mem_nil, or_false] at hx; rcases hx with rfl | rfl <;> exact Bool.noConfusion (hk.symm.trans (by kernel_rfl : _ = true))), fun a w hR hf => ?_, ?_⟩
              · obtain ⟨e96, -⟩ := hf
                replace e96 : SlK enCells 61 5 wx.heap.size (pl + 1) (es.take pl ++ en :: es.drop pl) (a.tmps.getD 96 undef) w := e96
                refine rg_plain rfl fun K hK => ?_
                generalize hv96 : a.tmps.getD 96 undef = v96 at e96
                go_simp
                exact hK _ _ e96 ⟨hRr _, hRs _ _⟩
              intro f w hR hf
              dsimp only [mergeT]
              obtain ⟨e7, -⟩ := hf
              replace e7 : SlK enCells 61 5 wx.heap.size (pl + 1) (es.take pl ++ en :: es.drop pl) (f 7) w := e7
              -- RE2>>
              obtain ⟨q', c', h7, hl', hown'⟩ := e7
              rw [h7]
              have HIn : Hid (ReI w0 (es.take pl ++ en :: es.drop pl) q' (pl + 1) c' w) := Lib.hid ⟨hown'.weaken HIx.out.only.size, hl', HIx.out.only.trans0 (Only.ofBelow hR)⟩
              clear hown' hl' h7 hR hRr hRt hRd hRs hA
              go_wp2_with fail
              refine ⟨⟨j + 1, q', pl + 1, c', by go_num, rfl, by omega, Lib.hid (by rw [Hstp.out, Hs2.out]; exact HIn.out)⟩, ?_⟩
              show n - ((j : Int) + 1).toNat < n - ((j : Int)).toNat
              omega
      · have Hs2 : Hid (entriesD pf dl (os.take (j + 1)) = entriesD pf dl (os.take j)) := Lib.hid (by rw [Hsc.out]; unfold entOf; rw [if_neg hpp]; rfl)
        by_cases hlen : o.key.length < pf.length
        · have hl1 : (o.key.length : Int) < (pf.length : Int) := by omega
          clear hpp hlen Hsc
          go_wp2_with fail
          refine ⟨⟨j + 1, q, m, k, by go_num, rfl, by omega, Lib.hid (by rw [Hs2.out]; exact HIa.out)⟩, ?_⟩
          show n - ((j : Int) + 1).toNat < n - ((j : Int)).toNat
          omega
        · have hl1 : ¬ (o.key.length : Int) < (pf.length : Int) := by omega
          have hl2 : (pf.length : Int) ≤ (o.key.length : Int) := by omega
          have hse : (str o.key).extract 0 pf.length = str (o.key.take pf.length) := by rw [str_ext, List.drop_zero]
          have hne : ¬ ((str o.key).extract 0 pf.length).toList = (str pf).toList := by
            rw [hse, str_toList, str_toList]
            exact fun e => hpp (by rw [← e]; exact List.take_prefix _ _)
          have hne2 : (((str o.key).extract 0 pf.length).toList == (str pf).toList) = false := beq_false_of_ne hne
          clear hpp hlen Hsc hse
          go_wp2_with fail
          refine ⟨⟨j + 1, q, m, k, by go_num, rfl, by omega, Lib.hid (by rw [Hs2.out]; exact HIa.out)⟩, ?_⟩
          show n - ((j : Int) + 1).toNat < n - ((j : Int)).toNat
          omega
    · obtain rfl : j = n := by omega
      have HT : Hid (os.take j = os) := Lib.hid (List.take_of_length_le (by rw [Hn.out]; exact Nat.le_refl _))
      go_wp2_with fail
      go_ret
      have h := HI.out
      rw [HT.out] at h
      exact ⟨q, m, k, rfl, h.len, h.own, h.only⟩
end Go.Proofs.YtfoplbolbjcggaaDoor
