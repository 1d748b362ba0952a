/- The walk of the laws' bucket: good keys, in order. -/
import Derived.Test.YtfoplbolbjcggaaDoorBuckMath
import Derived.Deep.DeepCutAuto
import Derived.Deep.Cut
set_option linter.unusedVariables false
set_option maxRecDepth 100000
namespace Go.Proofs.YtfoplbolbjcggaaDoor
open Go.RowKit

def strs (ks : List Bs) : List Value := ks.map fun k => .string (str k)
def aaa : ByteArray := ⟨#[97, 97, 97]⟩
def bkCells (q : Option Addr) (m k : Nat) : List Value := [.string aaa, .int .i64 0, .int .i64 0, .slice q m k, .slice none 0 0]
def bkV (q : Option Addr) (m k : Nat) : Value := .agg #[.string aaa, .int .i64 0, .int .i64 0, .slice q m k, .slice none 0 0]
structure BkI (w0 : World) (os : List Ob) (q : Option Addr) (m k : Nat) (w : World) : Prop where
  bk : Row w (w0.heap.size + 1 + 1) 39 (bkCells q m k)
  rs : Row w (w0.heap.size + 1) 39 [.string ⟨#[]⟩, .int .i64 0, .int .i64 0, .slice none 0 0, .slice none 0 0]
  own : OwnK w (w0.heap.size + 3) 59 5 (.slice q m k) m (os.flatMap obCells)
  len : os.length = m
  only : Only [] w0 w

/-- the bucket with its new objects -/
def InsS (X base n : Nat) (os : List Ob) : Value → World → Prop := fun _ a => ∃ q c, Row a X 39 (bkCells q n c) ∧ OwnK a base 59 5 (.slice q n c) n (os.flatMap obCells) ∧ os.length = n
theorem InsS.stable {X base n : Nat} {os : List Ob} : Stable (Only []) (InsS X base n os) := fun _ _ _ ⟨q, c, h1, h2, h3⟩ ho => ⟨q, c, h1.only0 ho, h2.only0 ho, h3⟩
theorem BkI.step {w0 w w' : World} {os : List Ob} {q : Option Addr} {m k : Nat} (h : BkI w0 os q m k w) (ho : Only [] w w') : BkI w0 os q m k w' := ⟨h.bk.only0 ho, h.rs.only0 ho, h.own.only0 ho, h.len, h.only.trans0 ho⟩
set_option maxHeartbeats 16000000 in
theorem bucket_any (p : Option Addr) (ks : List Bs) (n c : Nat) (pf dl tk : ByteArray) (most : Int) (w0 : World) (hn : ks.length = n) (hnc : n ≤ c) (hb : n ≤ 140737488351232) (hbk : ∀ k ∈ ks, k.length ≤ 140737488351232) (hp : p = none → n = 0 ∧ c = 0) (hx : Rd w0 p (strs ks)) :
    Calls Tryd.prog 22 #[.agg #[.slice p n c, .string pf, .string dl, .string tk, .int .i64 most]] w0 fun e w' => ∃ q m k, e = .returned (bkV q m k) ∧ (buck ks).length = m ∧ OwnK w' w0.heap.size 59 5 (.slice q m k) m ((buck ks).flatMap obCells) ∧ Only [] w0 w' := by
  have Hn := Lib.hid hn
  have Hp := Lib.hid hp
  have Hx := Lib.hid hx
  have Hbk := Lib.hid hbk
  clear hn hp hx hbk
  obtain ⟨w1, hw1⟩ : ∃ w1, w1 = w0.alloc (.cells #[.slice p n c, .string pf, .string dl, .string tk, .int .i64 most] 35) := ⟨_, rfl⟩
  obtain ⟨w2, hw2⟩ : ∃ w2, w2 = w1.alloc (.cells #[.string ⟨#[]⟩, .int .i64 0, .int .i64 0, .slice none 0 0, .slice none 0 0] 39) := ⟨_, rfl⟩
  obtain ⟨w3, hw3⟩ : ∃ w3, w3 = w2.alloc (.cells #[.string ⟨#[97, 97, 97]⟩, .int .i64 0, .int .i64 0, .slice none 0 0, .slice none 0 0] 39) := ⟨_, rfl⟩
  have o1 : Only [] w0 w1 := by rw [hw1]; exact Only.alloc _ _
  have o2 : Only [] w1 w2 := by rw [hw2]; exact Only.alloc _ _
  have o3 : Only [] w2 w3 := by rw [hw3]; exact Only.alloc _ _
  have s1 : w1.heap.size = w0.heap.size + 1 := by rw [hw1]; simp
  have s2 : w2.heap.size = w0.heap.size + 1 + 1 := by rw [hw2]; simp [s1]
  have s3 : w3.heap.size = w0.heap.size + 3 := by rw [hw3]; simp [s2]
  have r2 : Row w3 (w0.heap.size + 1) 39 [.string ⟨#[]⟩, .int .i64 0, .int .i64 0, .slice none 0 0, .slice none 0 0] := by
    have : Row w2 w1.heap.size 39 [.string ⟨#[]⟩, .int .i64 0, .int .i64 0, .slice none 0 0, .slice none 0 0] := by rw [hw2]; exact Row.newOf _ _ _ _ rfl
    rw [s1] at this
    exact this.only0 o3
  have r3 : Row w3 (w0.heap.size + 1 + 1) 39 (bkCells none 0 0) := by
    have : Row w3 w2.heap.size 39 (bkCells none 0 0) := by rw [hw3]; exact Row.newOf _ _ _ _ rfl
    rwa [s2] at this
  have HI0 : Hid (BkI w0 (bucks ks 0) none 0 0 w3) := Lib.hid ⟨r3, r2, OwnK.nil _ _ _ _, rfl, (o1.trans0 o2).trans0 o3⟩
  have Hw1 := Lib.hid hw1
  have Hw2 := Lib.hid hw2
  have Hw3 := Lib.hid hw3
  clear o1 o2 o3 s1 s2 s3 r2 r3 hw1 hw2 hw3
  go_enter Tryd.func22, Tryd.ntmps22
  go_wp2_with fail
  rw [← Hw1.out, ← Hw2.out, ← Hw3.out]
  clear Hw1 Hw2 Hw3
  go_loopw [12] (fun a wr => ∃ (j : Nat) (q : Option Addr) (m k : Nat), a = .int .i64 (j : Int) ∧ j ≤ n ∧ Hid (BkI w0 (bucks ks j) q m k wr)) (fun a _ => n - (intOf a).toNat)
  case atStart => exact ⟨0, none, 0, 0, rfl, by omega, HI0⟩
  case round =>
    clear HI0
    obtain ⟨j, q, m, k, rfl, hj, HI⟩ := hrel
    by_cases hlt : j < n
    · obtain ⟨ky, hky⟩ : ∃ ky, ks[j]? = some ky := ⟨_, List.getElem?_eq_getElem (by rw [Hn.out]; exact hlt)⟩
      have hcell : ∃ a, p = some a ∧ wr.cell? (a.add j) = some (.string (str ky)) := by
        have hrd := Hx.out.only0 HI.out.only
        have hj' : (strs ks)[j]? = some (.string (str ky)) := by unfold strs; rw [List.getElem?_map, hky]; rfl
        rcases hrd with h | ⟨b, off, rfl, h⟩
        · rw [h] at hj'; cases hj'
        · exact ⟨_, rfl, (by rw [Addr.add_lit]; exact h j _ hj')⟩
      obtain ⟨a, rfl, hcell⟩ := hcell
      have hgk := goodKey_any ky ky.length rfl (Hbk.out ky (List.mem_of_getElem? hky)) wr
      have Hky := Lib.hid hky
      clear hky
      go_wp2_with fail
      refine hgk.mono ?_
      clear hgk
      rintro e wg ⟨rfl, og⟩
      have HIg : Hid (BkI w0 (bucks ks j) q m k wg) := Lib.hid (HI.out.step og)
      have Hstep : Hid (bucks ks (j + 1) = buckStep (bucks ks j) j ky) := Lib.hid (by
        show (match ks[j]? with | some k => buckStep (bucks ks j) j k | none => bucks ks j) = _
        rw [Hky.out])
      have Hok : Hid (BuckOk (bucks ks j)) := Lib.hid (bucks_ok ks j)
      clear og HI
      by_cases hgood : goodK ky = true ∧ j ≤ 300
      · have hj3 : ¬ (300 : Int) < (j : Int) := by omega
        have Hgd := Lib.hid hgood
        rw [hgood.1]
        clear hgood
        have hbk := HIg.out.bk
        have b3 := hbk.cell (i := 3) rfl
        have hcl := HIg.out.own.view
        have hmk : m ≤ k := hcl.2.2.2.2.1
        have hml : m ≤ 128 := by rw [← HIg.out.len]; exact Hok.out.len
        clear hbk hcl
        go_wp2_with fail
        obtain ⟨os, hos⟩ : ∃ os, bucks ks j = os := ⟨_, rfl⟩
        rw [hos] at HIg Hok Hstep
        clear hos
        go_loopw [6] (fun v wr => ∃ (a : Nat), v = .int .i64 (a : Int) ∧ a ≤ m ∧ Hid (plc os ky m = plc os ky a) ∧ Hid (wr = wg)) (fun v _ => (intOf v).toNat)
        case atStart => exact ⟨m, rfl, Nat.le_refl _, Lib.hid rfl, Lib.hid rfl⟩
        case round =>
          obtain ⟨a, rfl, ha, Hpl, Hwe⟩ := hrel
          have e := Hwe.out
          subst e
          clear Hwe
          have b3 := HIg.out.bk.cell (i := 3) rfl
          have Hrd : Hid (Rd wr q (os.flatMap obCells)) := Lib.hid HIg.out.own.view.2.2.1
          have elem : ∀ (i : Nat) (o : Ob), os[i]? = some o → ∃ b, q = some b ∧ wr.cell? (b.add (i * 5)) = some (.string (str o.key)) := fun i o ho => by
            have hg := flat_get obCells 5 obCells_len os i o 0 ho (by omega)
            have h := Hrd.out
            rcases h with h | ⟨b, off, rfl, h⟩
            · rw [h] at hg; cases hg
            · exact ⟨_, rfl, by rw [Addr.add_lit]; exact h _ _ hg⟩
          have Helem := Lib.hid elem
          clear elem
          by_cases hcont : ∃ o, 0 < a ∧ os[a - 1]? = some o ∧ lt ky o.key
          · obtain ⟨o, h0, ho, hlo⟩ := hcont
            obtain ⟨a, rfl⟩ : ∃ b, a = b + 1 := ⟨a - 1, by omega⟩
            rw [Nat.add_sub_cancel] at ho
            obtain ⟨g, rfl, hc0⟩ := Helem.out a o ho
            have hcc := str_eqb o.key ky
            have hcl := str_ltb o.key ky
            rw [decide_eq_false (lt_asymm hlo)] at hcl
            rw [decide_eq_false (fun e => lt_irrefl ky (by rw [e] at hlo; exact hlo))] at hcc
            have Hpl2 : Hid (plc os ky m = plc os ky a) := Lib.hid (by rw [Hpl.out]; show (match os[a]? with | some o => if lt ky o.key then plc os ky a else a + 1 | none => 0) = _; rw [ho]; simp only; rw [if_pos hlo])
            clear hlo ho h0 Hpl
            generalize str o.key = so at *
            go_wp2_with fail
            refine ⟨⟨a, by go_num, by omega, Hpl2, Lib.hid (by first | rfl | trivial)⟩, by simp [intOf]⟩
          · have Hp : Hid (plc os ky m = a) := Lib.hid (by
              rw [Hpl.out]
              cases a with
              | zero => rfl
              | succ a =>
                obtain ⟨o, ho⟩ : ∃ o, os[a]? = some o := ⟨_, List.getElem?_eq_getElem (by have := HIg.out.len; omega)⟩
                show (match os[a]? with | some o => if lt ky o.key then plc os ky a else a + 1 | none => 0) = _
                rw [ho]
                simp only
                rw [if_neg (fun h => hcont ⟨o, by omega, ho, h⟩)])
            clear Hpl
            rcases Nat.eq_zero_or_pos a with h0 | h0
            · subst h0
              clear hcont
              by_cases h128 : m = 128
              · have hm : ((m : Int) == 128) = true := by simp [h128]
                have Hs2 : Hid (buckStep os j ky = os) := Lib.hid (by
                  unfold buckStep
                  rw [if_pos Hgd.out, if_pos (.inr (HIg.out.len.trans h128))])
                clear h128
                go_wp2_with fail
                refine ⟨⟨j + 1, q, m, k, by go_num, by omega, Lib.hid (by rw [Hstep.out, Hs2.out]; exact HIg.out)⟩, by simp [intOf]; omega⟩
              · have hm : ((m : Int) == 128) = false := by simp; omega
                have Hins : Hid (buckStep os j ky = os.take 0 ++ mkOb ky j :: os.drop 0) := Lib.hid (by
                  unfold buckStep
                  rw [if_pos Hgd.out, HIg.out.len, Hp.out, if_neg]
                  rintro (h | h)
                  · exact absurd h.2 (by omega)
                  · exact h128 h)
                go_upto_region 10 with (fail)
                clear Hp h128 Helem
                have hkz : (str ky).size = ky.length := str_size ky
                obtain ⟨wo, hwo⟩ : ∃ wo, wo = wr.alloc (.cells #[.string (str ky), .int .i64 (ky.length : Int), .string ⟨#[101]⟩, .int .i64 (j : Int), .slice none 0 0] 59) := ⟨_, rfl⟩
                have oo : Only [] wr wo := by rw [hwo]; exact Only.alloc _ _
                have HIo : Hid (BkI w0 os q m k wo) := Lib.hid (HIg.out.step oo)
                have Hz : Hid (Row wo wr.heap.size 59 (obCells (mkOb ky j))) := Lib.hid (by rw [hwo]; exact Row.newOf _ _ _ _ rfl)
                have hXw := HIg.out.bk.lt
                have hzw : wr.heap.size < wo.heap.size := by rw [hwo]; simp
                have hv := HIo.out.own.view
                have HQb : Hid (∀ x ∈ blk q, w0.heap.size + 3 ≤ x) := Lib.hid (fun x hx => (hv.2.2.2.2.2.2 x hx).1)
                have Hrd2 : Hid (Rd wo q (os.flatMap obCells)) := Lib.hid hv.2.2.1
                have Hqn : Hid (∀ x, q = some x → x.block ∉ [w0.heap.size + 1 + 1]) := Lib.hid (fun x hx hm => by
                  have h1 := HQb.out x.block (by rw [hx]; simp [blk])
                  have h2 := List.mem_singleton.1 hm
                  omega)
                have Hlen : Hid (os.length = m) := Lib.hid HIo.out.len
                have Ham : Hid (0 ≤ m) := Lib.hid (by omega)
                have Hak : Hid (((0 : Nat) : Int) ≤ (k : Int)) := Lib.hid (by omega)
                have Hqa : Hid (q = none → 0 = 0 ∧ k = 0) := Lib.hid (fun h => by have := hv.2.2.2.1 h; omega)
                have Hqm : Hid (q = none → m = 0 ∧ k = 0) := Lib.hid (fun h => by have := hv.2.2.2.1 h; omega)
                have HzX : Hid (wr.heap.size ∉ [w0.heap.size + 1 + 1]) := Lib.hid (fun hm => by have := List.mem_singleton.1 hm; omega)
                have HXb : Hid (w0.heap.size + 1 + 1 < wo.heap.size) := Lib.hid (by omega)
                have Ham' : Hid (((0 : Nat) : Int) ≤ (m : Int)) := Lib.hid (by omega)
                have Hmk' : Hid ((m : Int) ≤ (k : Int)) := Lib.hid (by omega)
                obtain ⟨r, hr⟩ : ∃ r, (if k = 0 then q else q.map fun x => x.add (0 * 5)) = r := ⟨_, rfl⟩
                have Hcut := Lib.hid hr
                have Hra : Hid (r = none → m - 0 = 0 ∧ k - 0 = 0) := Lib.hid (fun h => by
                  have hq0 : q = none := by
                    rw [← hr] at h
                    split at h
                    · exact h
                    · simpa using h
                  have := hv.2.2.2.1 hq0
                  omega)
                have Hcl : Hid (k = 0 → os.length ≤ 0) := Lib.hid (fun h => by have := Hlen.out; omega)
                have Hwo := Lib.hid hwo
                clear hwo oo hv hr
                go_upto_region 11 with (fail)
                rw [← Hwo.out]
                clear Hwo
                have hRr : ∀ a, Trb [w0.heap.size + 1 + 1] wo.heap.size a a := Trb.refl _ _
                have hRt : ∀ a b e, Trb [w0.heap.size + 1 + 1] wo.heap.size a b → Trb [w0.heap.size + 1 + 1] wo.heap.size b e → Trb [w0.heap.size + 1 + 1] wo.heap.size a e := fun _ _ _ h h2 => h.trans h2
                have hRd : Trb [w0.heap.size + 1 + 1] wo.heap.size wo wo.drew := Trb.of0 (Only.drew _)
                have hRs : ∀ j w, DirtR [(8, Below wo.heap.size), (13, Below wo.heap.size), (15, Only [w0.heap.size + 1 + 1])] j w w := DirtR.refl (by
                  intro x hx w
                  simp only [List.mem_cons, List.not_mem_nil, or_false] at hx
                  rcases hx with rfl | rfl | rfl
                  · exact Below.refl _ _
                  · exact Below.refl _ _
                  · exact Only.refl _ _)
                have hC0 : ∀ d ∈ [15], (fun (i : Nat) (a : World) => i = 15 → Row a (w0.heap.size + 1 + 1) 39 (bkCells q m k)) d wo.drew := fun _ _ _ => HIo.out.bk.only0 (Only.drew _)
                -- <<RI1
                refine wp_region_rg7 (Trb [w0.heap.size + 1 + 1] wo.heap.size) (DirtR [(8, Below wo.heap.size), (13, Below wo.heap.size), (15, Only [w0.heap.size + 1 + 1])]) (fun (i : Nat) (a : World) => i = 15 → Row a (w0.heap.size + 1 + 1) 39 (bkCells q m k)) [15] [[], [(3, none)], [(67, some 0)], [(6, none)], [(68, some 1), (69, some 0)], [(66, some 4), (70, some 0)], [(7, none)], [(72, some 0)], [(71, some 2), (73, some 0)], [(3, none)], [(75, some 0)], [(6, none)], [(76, some 1), (77, some 0)], [(74, some 4), (78, some 0)], [(3, none)], [(80, some 0), (79, some 1)]] [] [0] [none, none, none, none, none, none, none, none, none, none, none, none, none, none, none, none, none, none, none, none, none, none, none, none, none, none, none, none, none, none, none, none, none, none, none, none, none, none, none, none, none, none, none, none, none, none, none, none, none, none, none, none, none, none, none, none, none, none, none, none, none, none, none, none, none, none, some 66, some 67, some 68, some 69, some 70, some 71, some 72, some 73, some 74, some 75, some 76, some 77, some 78, some 79, some 80, none, none] (by kernel_rfl) rfl (by kernel_rfl) hRr hRt hRs hRd hC0 (by kernel_rfl) (by kernel_rfl) ?_
                -- 0: s66 := buildSlice 36 0 #[]
                refine ⟨Sl0K 59 5 wo.heap.size, stands5_of Sl0K.stable (by intro x hx hk; simp only [List.mem_cons, List.not_mem_nil, or_false] at hx; rcases hx with rfl | rfl | rfl <;> exact Bool.noConfusion (hk.symm.trans (by kernel_rfl : _ = true))), fun a w hR hC hf => ?_, ?_⟩
                · refine rg_plain rfl fun K hK => ?_
                  go_simp
                  refine hK _ _ ⟨_, rfl, OwnK.new (K := 5) (n := 0) [] hR.size rfl (by omega)⟩ ⟨Trb.of0 (Only.alloc w _), (Only.alloc w _), fun i hi hne ha hc e => (hc e).only0 (Only.alloc w _)⟩
                -- 1: s67 := fieldAddr 39 t3 3
                apply rg7_ev
                · intro a w hR hC hf
                  obtain ⟨e3, -⟩ := hf
                  replace e3 : a.tmps.getD 3 undef = _ := e3
                  refine rg_plain rfl fun K hK => ?_
                  go_simp
                  exact hK _ _ rfl ⟨hRr _, hRs _ _, fun _ _ _ _ h => h⟩
                -- 2: s68 := load 36 t67
                apply rg7_ev
                · intro a w hR hC hf
                  obtain ⟨e67, -⟩ := hf
                  replace e67 : a.tmps.getD 67 undef = _ := e67
                  refine rg_plain rfl fun K hK => ?_
                  have h2 := ((hC 15 (by simp) (by kernel_rfl)) rfl).cell (i := 3) rfl
                  go_simp
                  exact hK _ _ rfl ⟨hRr _, hRs _ _, fun _ _ _ _ h => h⟩
                -- 3: s69 := move t6
                apply rg7_ev
                · intro a w hR hC hf
                  obtain ⟨e6, -⟩ := hf
                  replace e6 : a.tmps.getD 6 undef = _ := e6
                  refine rg_plain rfl fun K hK => ?_
                  go_simp
                  exact hK _ _ rfl ⟨hRr _, hRs _ _, fun _ _ _ _ h => h⟩
                -- 4: s70 := slice 36 t68 none (some t69) none
                apply rg7_ev
                · intro a w hR hC hf
                  obtain ⟨e68, e69, -⟩ := hf
                  replace e68 : a.tmps.getD 68 undef = _ := e68
                  replace e69 : a.tmps.getD 69 undef = _ := e69
                  refine rg_plain rfl fun K hK => ?_
                  have h4 := Hak.out
                  go_simp
                  exact hK _ _ rfl ⟨hRr _, hRs _ _, fun _ _ _ _ h => h⟩
                -- 5: s71 := call { builtin append, args := #[t66, t70], #[36, 36] }
                refine ⟨SlK obCells 59 5 wo.heap.size (0) (os.take (0)), stands5_of SlK.stable (by intro x hx hk; simp only [List.mem_cons, List.not_mem_nil, or_false] at hx; rcases hx with rfl | rfl | rfl <;> exact Bool.noConfusion (hk.symm.trans (by kernel_rfl : _ = true))), fun a w hR hC hf => ?_, ?_⟩
                · obtain ⟨e66, e70, -⟩ := hf
                  replace e66 : Sl0K 59 5 wo.heap.size (a.tmps.getD 66 undef) w := e66
                  replace e70 : a.tmps.getD 70 undef = _ := e70
                  refine rg_plain rfl fun K hK => ?_
                  obtain ⟨q0, e66, o66⟩ := e66
                  obtain ⟨p', c', w', hra, oA, hA⟩ := appendK (P := Tryd.prog) (bytes := 72) (c := k) (q := q) (m := 0) (news := (os.take (0)).flatMap obCells) (t := 36) (ty := 36) w Tryd.underlying36 Tryd.infoOb rfl (by omega) o66 (rd_take obCells_len (Hrd2.out.trb hR Hqn.out) (0)) (by rw [flat_length obCells 5 obCells_len, List.length_take, Hlen.out, Nat.min_eq_left Ham.out]) Hqa.out (fun u hu => flat_one obCells obCells_one hu) (by have := Ham.out; omega) (by have := Ham.out; omega) hR.size
                  rw [Nat.zero_add, List.nil_append] at oA
                  rw [Nat.zero_add] at hra
                  refine rg_append (s := .tmp 66) (x := .tmp 70) rfl e66 e70 hra ?_
                  have hA0 : Only [] w w' := appendK_only0 (P := Tryd.prog) (K := 5) (bytes := 72) (c := k) (q := q) (m := 0) (news := (os.take (0)).flatMap obCells) (ty := 36) w Tryd.underlying36 Tryd.infoOb rfl (by omega) o66 (rd_take obCells_len (Hrd2.out.trb hR Hqn.out) (0)) (by rw [flat_length obCells 5 obCells_len, List.length_take, Hlen.out, Nat.min_eq_left Ham.out]) Hqa.out (fun u hu => flat_one obCells obCells_one hu) (by have := Ham.out; omega) (by have := Ham.out; omega) hra
                  exact hK _ _ (SlK.ofApp oA rfl (by rw [List.length_take, Hlen.out, Nat.min_eq_left Ham.out])) ⟨Trb.of0 hA0, hA0, fun i hi hne ha hc e => (hc e).only0 hA0⟩
                -- 6: s72 := load 59 t7
                apply rg7_ev
                · intro a w hR hC hf
                  obtain ⟨e7, -⟩ := hf
                  replace e7 : a.tmps.getD 7 undef = _ := e7
                  refine rg_plain rfl fun K hK => ?_
                  have hz := Hz.out.trb hR HzX.out
                  have z0 := hz.cell (i := 0) rfl
                  have z1 := hz.cell (i := 1) rfl
                  have z2 := hz.cell (i := 2) rfl
                  have z3 := hz.cell (i := 3) rfl
                  have z4 := hz.cell (i := 4) rfl
                  go_simp
                  exact hK _ _ rfl ⟨hRr _, hRs _ _, fun _ _ _ _ h => h⟩
                -- 7: s73 := buildSlice 36 1 #[(0, t72)]
                refine ⟨SlK obCells 59 5 wo.heap.size 1 [(mkOb ky j)], stands5_of SlK.stable (by intro x hx hk; simp only [List.mem_cons, List.not_mem_nil, or_false] at hx; rcases hx with rfl | rfl | rfl <;> exact Bool.noConfusion (hk.symm.trans (by kernel_rfl : _ = true))), fun a w hR hC hf => ?_, ?_⟩
                · obtain ⟨e72, -⟩ := hf
                  replace e72 : a.tmps.getD 72 undef = _ := e72
                  refine rg_plain rfl fun K hK => ?_
                  have e72' := e72
                  rw [Array.getD_eq_getD_getElem?] at e72'
                  go_simp
                  refine hK _ _ ⟨_, _, rfl, rfl, OwnK.new (K := 5) (n := 1) (obCells (mkOb ky j)) hR.size rfl (by omega)⟩ ⟨Trb.of0 (Only.alloc w _), (Only.alloc w _), fun i hi hne ha hc e => (hc e).only0 (Only.alloc w _)⟩
                -- 8: s74 := call { builtin append, args := #[t71, t73], #[36, 36] }
                refine ⟨SlK obCells 59 5 wo.heap.size (0 + 1) (os.take (0) ++ [(mkOb ky j)]), stands5_of SlK.stable (by intro x hx hk; simp only [List.mem_cons, List.not_mem_nil, or_false] at hx; rcases hx with rfl | rfl | rfl <;> exact Bool.noConfusion (hk.symm.trans (by kernel_rfl : _ = true))), fun a w hR hC hf => ?_, ?_⟩
                · obtain ⟨e71, e73, -⟩ := hf
                  replace e71 : SlK obCells 59 5 wo.heap.size (0) (os.take (0)) (a.tmps.getD 71 undef) w := e71
                  replace e73 : SlK obCells 59 5 wo.heap.size 1 [(mkOb ky j)] (a.tmps.getD 73 undef) w := e73
                  refine rg_plain rfl fun K hK => ?_
                  obtain ⟨q1, c1, e71, l71, o71⟩ := e71
                  obtain ⟨q2, c2, e73, l73, o73⟩ := e73
                  have v73 := o73.view
                  obtain ⟨p', c', w', hra, oA, hA⟩ := appendK (P := Tryd.prog) (bytes := 72) (c := c2) (q := q2) (m := 1) (news := obCells (mkOb ky j)) (t := 36) (ty := 36) w Tryd.underlying36 Tryd.infoOb rfl (by omega) o71 v73.2.2.1 rfl v73.2.2.2.1 (fun u hu => obCells_one _ u hu) (by have := Ham.out; omega) (by have := Ham.out; omega) hR.size
                  refine rg_append (s := .tmp 71) (x := .tmp 73) rfl e71 e73 hra ?_
                  have hB : Below wo.heap.size w w' := hA.belowOf hR.size (fun x hx => (o71.view.2.2.2.2.2.2 x hx).1)
                  exact hK _ _ (SlK.ofApp oA (by rw [List.flatMap_append]; rfl) (by rw [List.length_append, l71]; rfl)) ⟨Trb.ofB hA (fun x hx => (o71.view.2.2.2.2.2.2 x hx).1), hB, fun i hi hne ha hc e => (hc e).below hB HXb.out⟩
                -- 9: s75 := fieldAddr 39 t3 3
                apply rg7_ev
                · intro a w hR hC hf
                  obtain ⟨e3, -⟩ := hf
                  replace e3 : a.tmps.getD 3 undef = _ := e3
                  refine rg_plain rfl fun K hK => ?_
                  go_simp
                  exact hK _ _ rfl ⟨hRr _, hRs _ _, fun _ _ _ _ h => h⟩
                -- 10: s76 := load 36 t75
                apply rg7_ev
                · intro a w hR hC hf
                  obtain ⟨e75, -⟩ := hf
                  replace e75 : a.tmps.getD 75 undef = _ := e75
                  refine rg_plain rfl fun K hK => ?_
                  have h10 := ((hC 15 (by simp) (by kernel_rfl)) rfl).cell (i := 3) rfl
                  go_simp
                  exact hK _ _ rfl ⟨hRr _, hRs _ _, fun _ _ _ _ h => h⟩
                -- 11: s77 := move t6
                apply rg7_ev
                · intro a w hR hC hf
                  obtain ⟨e6, -⟩ := hf
                  replace e6 : a.tmps.getD 6 undef = _ := e6
                  refine rg_plain rfl fun K hK => ?_
                  go_simp
                  exact hK _ _ rfl ⟨hRr _, hRs _ _, fun _ _ _ _ h => h⟩
                -- 12: s78 := slice 36 t76 (some t77) none none
                apply rg7_ev
                · intro a w hR hC hf
                  obtain ⟨e76, e77, -⟩ := hf
                  replace e76 : a.tmps.getD 76 undef = _ := e76
                  replace e77 : a.tmps.getD 77 undef = _ := e77
                  refine rg_plain rfl fun K hK => ?_
                  have h121 := Ham'.out
                  have h122 := Hmk'.out
                  have h123 := Hcut.out
                  go_simp
                  exact hK _ _ rfl ⟨hRr _, hRs _ _, fun _ _ _ _ h => h⟩
                -- 13: s79 := call { builtin append, args := #[t74, t78], #[36, 36] }
                refine ⟨SlK obCells 59 5 wo.heap.size (m + 1) (os.take (0) ++ mkOb ky j :: os.drop (0)), stands5_of SlK.stable (by intro x hx hk; simp only [List.mem_cons, List.not_mem_nil, or_false] at hx; rcases hx with rfl | rfl | rfl <;> exact Bool.noConfusion (hk.symm.trans (by kernel_rfl : _ = true))), fun a w hR hC hf => ?_, ?_⟩
                · obtain ⟨e74, e78, -⟩ := hf
                  replace e74 : SlK obCells 59 5 wo.heap.size (0 + 1) (os.take (0) ++ [(mkOb ky j)]) (a.tmps.getD 74 undef) w := e74
                  replace e78 : a.tmps.getD 78 undef = _ := e78
                  refine rg_plain rfl fun K hK => ?_
                  obtain ⟨q1, c1, e74, l74, o74⟩ := e74
                  obtain ⟨p', c', w', hra, oA, hA⟩ := appendK (P := Tryd.prog) (bytes := 72) (c := k) (q := q) (m := m) (news := os.flatMap obCells) (t := 36) (ty := 36) w Tryd.underlying36 Tryd.infoOb rfl (by omega) o74 (Hrd2.out.trb hR Hqn.out) (by rw [flat_length obCells 5 obCells_len, Hlen.out]) Hqm.out (fun u hu => flat_one obCells obCells_one hu) (by have := Ham.out; omega) (by have := Ham.out; omega) hR.size
                  rw [show 0 + 1 + m = m + 1 by omega] at hra oA
                  refine rg_append (s := .tmp 74) (x := .tmp 78) rfl e74 e78 hra ?_
                  have hB : Below wo.heap.size w w' := hA.belowOf hR.size (fun x hx => (o74.view.2.2.2.2.2.2 x hx).1)
                  exact hK _ _ (SlK.ofApp oA (by rw [← List.flatMap_append, List.append_assoc]; rfl) (by rw [List.length_append, List.length_cons, List.length_take, List.length_drop, Hlen.out]; have := Ham.out; omega)) ⟨Trb.ofB hA (fun x hx => (o74.view.2.2.2.2.2.2 x hx).1), hB, fun i hi hne ha hc e => (hc e).below hB HXb.out⟩
                -- 14: s80 := fieldAddr 39 t3 3
                apply rg7_ev
                · intro a w hR hC hf
                  obtain ⟨e3, -⟩ := hf
                  replace e3 : a.tmps.getD 3 undef = _ := e3
                  refine rg_plain rfl fun K hK => ?_
                  go_simp
                  exact hK _ _ rfl ⟨hRr _, hRs _ _, fun _ _ _ _ h => h⟩
                -- 15: sNone := store 36 t80 t79
                refine ⟨InsS (w0.heap.size + 1 + 1) wo.heap.size (m + 1) (os.take (0) ++ mkOb ky j :: os.drop (0)), stands5_of InsS.stable (by intro x hx hk; simp only [List.mem_cons, List.not_mem_nil, or_false] at hx; rcases hx with rfl | rfl | rfl <;> exact Bool.noConfusion (hk.symm.trans (by kernel_rfl : _ = true))), fun a w hR hC hf => ?_, ?_⟩
                · obtain ⟨e80, e79, -⟩ := hf
                  replace e80 : a.tmps.getD 80 undef = _ := e80
                  replace e79 : SlK obCells 59 5 wo.heap.size (m + 1) (os.take (0) ++ mkOb ky j :: os.drop (0)) (a.tmps.getD 79 undef) w := e79
                  refine rg_plain rfl fun K hK => ?_
                  obtain ⟨q1, c1, e79, l79, o79⟩ := e79
                  have rX := (hC 15 (by simp) (by kernel_rfl)) rfl
                  have h5c := rX.cell (i := 3) rfl
                  have h5f := rX.free 3
                  go_simp
                  have hst : Only [w0.heap.size + 1 + 1] w (w.setCell ⟨w0.heap.size + 1 + 1, 3, none⟩ (.slice q1 (m + 1) c1)) := Only.setCell w ⟨w0.heap.size + 1 + 1, 3, none⟩ _
                  have hXn : ∀ x ∈ blk q1, x ∉ [w0.heap.size + 1 + 1] := fun x hx hm => by have h1 := (o79.view.2.2.2.2.2.2 x hx).1; have h2 := HXb.out; have h3 := List.mem_singleton.1 hm; omega
                  refine hK undef _ ⟨q1, c1, rX.setCell 3 _, o79.only hst (fun x hx => hXn x (ownBlkF hx)), l79⟩ ⟨Trb.ofD hst, hst, fun i hi hne ha _ => ?_⟩
                  simp only [List.mem_cons, List.not_mem_nil, or_false] at hi
                  exact absurd hi hne
                intro f w hR hf hl
                dsimp only [mergeT]
                obtain ⟨l15, -⟩ := hl
                replace l15 : ∃ v, (InsS (w0.heap.size + 1 + 1) wo.heap.size (m + 1) (os.take (0) ++ mkOb ky j :: os.drop (0))) v w := l15
                -- RI1>>
                obtain ⟨v15, q', c', hbk', hown', hlen'⟩ := l15
                have hX3 : w0.heap.size + 3 ≤ wo.heap.size := by have := HXb.out; omega
                have HIn : Hid (BkI w0 (os.take (0) ++ mkOb ky j :: os.drop (0)) q' (m + 1) c' w) := Lib.hid ⟨hbk', HIo.out.rs.trb hR (by simp), hown'.weaken hX3, hlen', HIo.out.only.transN hR.only (fun i hi => by have := List.mem_singleton.1 hi; omega)⟩
                clear hbk' hown' hlen' hX3 hR hRr hRt hRd hRs hC0
                go_wp2_with fail
                refine ⟨⟨j + 1, q', m + 1, c', by go_num, by omega, Lib.hid (by rw [Hstep.out, Hins.out]; exact HIn.out)⟩, by simp [intOf]; omega⟩
            · obtain ⟨a, rfl⟩ : ∃ b, a = b + 1 := ⟨a - 1, by omega⟩
              obtain ⟨o, ho⟩ : ∃ o, os[a]? = some o := ⟨_, List.getElem?_eq_getElem (by have := HIg.out.len; omega)⟩
              obtain ⟨g, rfl, hc0⟩ := Helem.out a o ho
              have hnlt : ¬ lt ky o.key := fun h => hcont ⟨o, by omega, ho, h⟩
              clear hcont h0
              have hcc := str_eqb o.key ky
              have hcl := str_ltb o.key ky
              by_cases hke : o.key = ky
              · have Hs2 : Hid (buckStep os j ky = os) := Lib.hid (by
                  unfold buckStep
                  rw [if_pos Hgd.out, HIg.out.len, Hp.out, if_pos (.inl ⟨by rw [Nat.add_sub_cancel, ho]; simp [hke], by omega⟩)])
                rw [decide_eq_true hke] at hcc
                rw [hke, decide_eq_false (lt_irrefl ky), ← hke] at hcl
                clear hke hnlt ho
                generalize str o.key = so at *
                go_wp2_with fail
                refine ⟨⟨j + 1, _, m, k, by go_num, by omega, Lib.hid (by rw [Hstep.out, Hs2.out]; exact HIg.out)⟩, by simp [intOf]; omega⟩
              · have hlk : lt o.key ky := (lt_total o.key ky).elim id (fun h => h.elim (fun e => absurd e hke) (fun h => absurd h hnlt))
                rw [decide_eq_false hke] at hcc
                rw [decide_eq_true hlk] at hcl
                have hne := hke
                by_cases h128 : m = 128
                · have hm : ((m : Int) == 128) = true := by simp [h128]
                  have Hs2 : Hid (buckStep os j ky = os) := Lib.hid (by
                    unfold buckStep
                    rw [if_pos Hgd.out, if_pos (.inr (HIg.out.len.trans h128))])
                  clear h128 hke hnlt ho hne hlk
                  generalize str o.key = so at *
                  go_wp2_with fail
                  refine ⟨⟨j + 1, _, m, k, by go_num, by omega, Lib.hid (by rw [Hstep.out, Hs2.out]; exact HIg.out)⟩, by simp [intOf]; omega⟩
                · have hm : ((m : Int) == 128) = false := by simp; omega
                  have Hins : Hid (buckStep os j ky = os.take (a + 1) ++ mkOb ky j :: os.drop (a + 1)) := Lib.hid (by
                    unfold buckStep
                    rw [if_pos Hgd.out, HIg.out.len, Hp.out, if_neg]
                    rintro (h | h)
                    · rw [Nat.add_sub_cancel, ho] at h
                      exact hke (by simpa using h.1)
                    · exact h128 h)
                  clear h128 hke hnlt ho hne hlk Hp
                  generalize str o.key = so at *
                  go_upto_region 10 with (fail)
                  clear hc0 hcc hcl Helem
                  generalize hqq : (some g : Option Addr) = q at *
                  have HA : Hid ((a : Int) + 1 = ((a + 1 : Nat) : Int)) := Lib.hid (by omega)
                  try rw [HA.out]
                  clear HA
                  generalize hAe : a + 1 = A at *
                  have hkz : (str ky).size = ky.length := str_size ky
                  obtain ⟨wo, hwo⟩ : ∃ wo, wo = wr.alloc (.cells #[.string (str ky), .int .i64 (ky.length : Int), .string ⟨#[101]⟩, .int .i64 (j : Int), .slice none 0 0] 59) := ⟨_, rfl⟩
                  have oo : Only [] wr wo := by rw [hwo]; exact Only.alloc _ _
                  have HIo : Hid (BkI w0 os q m k wo) := Lib.hid (HIg.out.step oo)
                  have Hz : Hid (Row wo wr.heap.size 59 (obCells (mkOb ky j))) := Lib.hid (by rw [hwo]; exact Row.newOf _ _ _ _ rfl)
                  have hXw := HIg.out.bk.lt
                  have hzw : wr.heap.size < wo.heap.size := by rw [hwo]; simp
                  have hv := HIo.out.own.view
                  have HQb : Hid (∀ x ∈ blk q, w0.heap.size + 3 ≤ x) := Lib.hid (fun x hx => (hv.2.2.2.2.2.2 x hx).1)
                  have Hrd2 : Hid (Rd wo q (os.flatMap obCells)) := Lib.hid hv.2.2.1
                  have Hqn : Hid (∀ x, q = some x → x.block ∉ [w0.heap.size + 1 + 1]) := Lib.hid (fun x hx hm => by
                    have h1 := HQb.out x.block (by rw [hx]; simp [blk])
                    have h2 := List.mem_singleton.1 hm
                    omega)
                  have Hlen : Hid (os.length = m) := Lib.hid HIo.out.len
                  have Ham : Hid (A ≤ m) := Lib.hid (by omega)
                  have Hak : Hid (((A : Nat) : Int) ≤ (k : Int)) := Lib.hid (by omega)
                  have Hqa : Hid (q = none → A = 0 ∧ k = 0) := Lib.hid (fun h => by have := hv.2.2.2.1 h; omega)
                  have Hqm : Hid (q = none → m = 0 ∧ k = 0) := Lib.hid (fun h => by have := hv.2.2.2.1 h; omega)
                  have HzX : Hid (wr.heap.size ∉ [w0.heap.size + 1 + 1]) := Lib.hid (fun hm => by have := List.mem_singleton.1 hm; omega)
                  have HXb : Hid (w0.heap.size + 1 + 1 < wo.heap.size) := Lib.hid (by omega)
                  have Ham' : Hid (((A : Nat) : Int) ≤ (m : Int)) := Lib.hid (by omega)
                  have Hmk' : Hid ((m : Int) ≤ (k : Int)) := Lib.hid (by omega)
                  obtain ⟨r, hr⟩ : ∃ r, (if k = A then q else q.map fun x => x.add (A * 5)) = r := ⟨_, rfl⟩
                  have Hcut := Lib.hid hr
                  have Hra : Hid (r = none → m - A = 0 ∧ k - A = 0) := Lib.hid (fun h => by
                    have hq0 : q = none := by
                      rw [← hr] at h
                      split at h
                      · exact h
                      · simpa using h
                    have := hv.2.2.2.1 hq0
                    omega)
                  have Hcl : Hid (k = A → os.length ≤ A) := Lib.hid (fun h => by have := Hlen.out; omega)
                  have Hwo := Lib.hid hwo
                  clear hwo oo hv hr
                  go_upto_region 11 with (fail)
                  rw [← Hwo.out]
                  clear Hwo
                  have hRr : ∀ a, Trb [w0.heap.size + 1 + 1] wo.heap.size a a := Trb.refl _ _
                  have hRt : ∀ a b e, Trb [w0.heap.size + 1 + 1] wo.heap.size a b → Trb [w0.heap.size + 1 + 1] wo.heap.size b e → Trb [w0.heap.size + 1 + 1] wo.heap.size a e := fun _ _ _ h h2 => h.trans h2
                  have hRd : Trb [w0.heap.size + 1 + 1] wo.heap.size wo wo.drew := Trb.of0 (Only.drew _)
                  have hRs : ∀ j w, DirtR [(8, Below wo.heap.size), (13, Below wo.heap.size), (15, Only [w0.heap.size + 1 + 1])] j w w := DirtR.refl (by
                    intro x hx w
                    simp only [List.mem_cons, List.not_mem_nil, or_false] at hx
                    rcases hx with rfl | rfl | rfl
                    · exact Below.refl _ _
                    · exact Below.refl _ _
                    · exact Only.refl _ _)
                  have hC0 : ∀ d ∈ [15], (fun (i : Nat) (a : World) => i = 15 → Row a (w0.heap.size + 1 + 1) 39 (bkCells q m k)) d wo.drew := fun _ _ _ => HIo.out.bk.only0 (Only.drew _)
                  -- <<RI2
                  refine wp_region_rg7 (Trb [w0.heap.size + 1 + 1] wo.heap.size) (DirtR [(8, Below wo.heap.size), (13, Below wo.heap.size), (15, Only [w0.heap.size + 1 + 1])]) (fun (i : Nat) (a : World) => i = 15 → Row a (w0.heap.size + 1 + 1) 39 (bkCells q m k)) [15] [[], [(3, none)], [(67, some 0)], [(6, none)], [(68, some 1), (69, some 0)], [(66, some 4), (70, some 0)], [(7, none)], [(72, some 0)], [(71, some 2), (73, some 0)], [(3, none)], [(75, some 0)], [(6, none)], [(76, some 1), (77, some 0)], [(74, some 4), (78, some 0)], [(3, none)], [(80, some 0), (79, some 1)]] [] [0] [none, none, none, none, none, none, none, none, none, none, none, none, none, none, none, none, none, none, none, none, none, none, none, none, none, none, none, none, none, none, none, none, none, none, none, none, none, none, none, none, none, none, none, none, none, none, none, none, none, none, none, none, none, none, none, none, none, none, none, none, none, none, none, none, none, none, some 66, some 67, some 68, some 69, some 70, some 71, some 72, some 73, some 74, some 75, some 76, some 77, some 78, some 79, some 80, none, none] (by kernel_rfl) rfl (by kernel_rfl) hRr hRt hRs hRd hC0 (by kernel_rfl) (by kernel_rfl) ?_
                  -- 0: s66 := buildSlice 36 0 #[]
                  refine ⟨Sl0K 59 5 wo.heap.size, stands5_of Sl0K.stable (by intro x hx hk; simp only [List.mem_cons, List.not_mem_nil, or_false] at hx; rcases hx with rfl | rfl | rfl <;> exact Bool.noConfusion (hk.symm.trans (by kernel_rfl : _ = true))), fun a w hR hC hf => ?_, ?_⟩
                  · refine rg_plain rfl fun K hK => ?_
                    go_simp
                    refine hK _ _ ⟨_, rfl, OwnK.new (K := 5) (n := 0) [] hR.size rfl (by omega)⟩ ⟨Trb.of0 (Only.alloc w _), (Only.alloc w _), fun i hi hne ha hc e => (hc e).only0 (Only.alloc w _)⟩
                  -- 1: s67 := fieldAddr 39 t3 3
                  apply rg7_ev
                  · intro a w hR hC hf
                    obtain ⟨e3, -⟩ := hf
                    replace e3 : a.tmps.getD 3 undef = _ := e3
                    refine rg_plain rfl fun K hK => ?_
                    go_simp
                    exact hK _ _ rfl ⟨hRr _, hRs _ _, fun _ _ _ _ h => h⟩
                  -- 2: s68 := load 36 t67
                  apply rg7_ev
                  · intro a w hR hC hf
                    obtain ⟨e67, -⟩ := hf
                    replace e67 : a.tmps.getD 67 undef = _ := e67
                    refine rg_plain rfl fun K hK => ?_
                    have h2 := ((hC 15 (by simp) (by kernel_rfl)) rfl).cell (i := 3) rfl
                    go_simp
                    exact hK _ _ rfl ⟨hRr _, hRs _ _, fun _ _ _ _ h => h⟩
                  -- 3: s69 := move t6
                  apply rg7_ev
                  · intro a w hR hC hf
                    obtain ⟨e6, -⟩ := hf
                    replace e6 : a.tmps.getD 6 undef = _ := e6
                    refine rg_plain rfl fun K hK => ?_
                    go_simp
                    exact hK _ _ rfl ⟨hRr _, hRs _ _, fun _ _ _ _ h => h⟩
                  -- 4: s70 := slice 36 t68 none (some t69) none
                  apply rg7_ev
                  · intro a w hR hC hf
                    obtain ⟨e68, e69, -⟩ := hf
                    replace e68 : a.tmps.getD 68 undef = _ := e68
                    replace e69 : a.tmps.getD 69 undef = _ := e69
                    refine rg_plain rfl fun K hK => ?_
                    have h4 := Hak.out
                    go_simp
                    exact hK _ _ rfl ⟨hRr _, hRs _ _, fun _ _ _ _ h => h⟩
                  -- 5: s71 := call { builtin append, args := #[t66, t70], #[36, 36] }
                  refine ⟨SlK obCells 59 5 wo.heap.size (A) (os.take (A)), stands5_of SlK.stable (by intro x hx hk; simp only [List.mem_cons, List.not_mem_nil, or_false] at hx; rcases hx with rfl | rfl | rfl <;> exact Bool.noConfusion (hk.symm.trans (by kernel_rfl : _ = true))), fun a w hR hC hf => ?_, ?_⟩
                  · obtain ⟨e66, e70, -⟩ := hf
                    replace e66 : Sl0K 59 5 wo.heap.size (a.tmps.getD 66 undef) w := e66
                    replace e70 : a.tmps.getD 70 undef = _ := e70
                    refine rg_plain rfl fun K hK => ?_
                    obtain ⟨q0, e66, o66⟩ := e66
                    obtain ⟨p', c', w', hra, oA, hA⟩ := appendK (P := Tryd.prog) (bytes := 72) (c := k) (q := q) (m := A) (news := (os.take (A)).flatMap obCells) (t := 36) (ty := 36) w Tryd.underlying36 Tryd.infoOb rfl (by omega) o66 (rd_take obCells_len (Hrd2.out.trb hR Hqn.out) (A)) (by rw [flat_length obCells 5 obCells_len, List.length_take, Hlen.out, Nat.min_eq_left Ham.out]) Hqa.out (fun u hu => flat_one obCells obCells_one hu) (by have := Ham.out; omega) (by have := Ham.out; omega) hR.size
                    rw [Nat.zero_add, List.nil_append] at oA
                    rw [Nat.zero_add] at hra
                    refine rg_append (s := .tmp 66) (x := .tmp 70) rfl e66 e70 hra ?_
                    have hA0 : Only [] w w' := appendK_only0 (P := Tryd.prog) (K := 5) (bytes := 72) (c := k) (q := q) (m := A) (news := (os.take (A)).flatMap obCells) (ty := 36) w Tryd.underlying36 Tryd.infoOb rfl (by omega) o66 (rd_take obCells_len (Hrd2.out.trb hR Hqn.out) (A)) (by rw [flat_length obCells 5 obCells_len, List.length_take, Hlen.out, Nat.min_eq_left Ham.out]) Hqa.out (fun u hu => flat_one obCells obCells_one hu) (by have := Ham.out; omega) (by have := Ham.out; omega) hra
                    exact hK _ _ (SlK.ofApp oA rfl (by rw [List.length_take, Hlen.out, Nat.min_eq_left Ham.out])) ⟨Trb.of0 hA0, hA0, fun i hi hne ha hc e => (hc e).only0 hA0⟩
                  -- 6: s72 := load 59 t7
                  apply rg7_ev
                  · intro a w hR hC hf
                    obtain ⟨e7, -⟩ := hf
                    replace e7 : a.tmps.getD 7 undef = _ := e7
                    refine rg_plain rfl fun K hK => ?_
                    have hz := Hz.out.trb hR HzX.out
                    have z0 := hz.cell (i := 0) rfl
                    have z1 := hz.cell (i := 1) rfl
                    have z2 := hz.cell (i := 2) rfl
                    have z3 := hz.cell (i := 3) rfl
                    have z4 := hz.cell (i := 4) rfl
                    go_simp
                    exact hK _ _ rfl ⟨hRr _, hRs _ _, fun _ _ _ _ h => h⟩
                  -- 7: s73 := buildSlice 36 1 #[(0, t72)]
                  refine ⟨SlK obCells 59 5 wo.heap.size 1 [(mkOb ky j)], stands5_of SlK.stable (by intro x hx hk; simp only [List.mem_cons, List.not_mem_nil, or_false] at hx; rcases hx with rfl | rfl | rfl <;> exact Bool.noConfusion (hk.symm.trans (by kernel_rfl : _ = true))), fun a w hR hC hf => ?_, ?_⟩
                  · obtain ⟨e72, -⟩ := hf
                    replace e72 : a.tmps.getD 72 undef = _ := e72
                    refine rg_plain rfl fun K hK => ?_
                    have e72' := e72
                    rw [Array.getD_eq_getD_getElem?] at e72'
                    go_simp
                    refine hK _ _ ⟨_, _, rfl, rfl, OwnK.new (K := 5) (n := 1) (obCells (mkOb ky j)) hR.size rfl (by omega)⟩ ⟨Trb.of0 (Only.alloc w _), (Only.alloc w _), fun i hi hne ha hc e => (hc e).only0 (Only.alloc w _)⟩
                  -- 8: s74 := call { builtin append, args := #[t71, t73], #[36, 36] }
                  refine ⟨SlK obCells 59 5 wo.heap.size (A + 1) (os.take (A) ++ [(mkOb ky j)]), stands5_of SlK.stable (by intro x hx hk; simp only [List.mem_cons, List.not_mem_nil, or_false] at hx; rcases hx with rfl | rfl | rfl <;> exact Bool.noConfusion (hk.symm.trans (by kernel_rfl : _ = true))), fun a w hR hC hf => ?_, ?_⟩
                  · obtain ⟨e71, e73, -⟩ := hf
                    replace e71 : SlK obCells 59 5 wo.heap.size (A) (os.take (A)) (a.tmps.getD 71 undef) w := e71
                    replace e73 : SlK obCells 59 5 wo.heap.size 1 [(mkOb ky j)] (a.tmps.getD 73 undef) w := e73
                    refine rg_plain rfl fun K hK => ?_
                    obtain ⟨q1, c1, e71, l71, o71⟩ := e71
                    obtain ⟨q2, c2, e73, l73, o73⟩ := e73
                    have v73 := o73.view
                    obtain ⟨p', c', w', hra, oA, hA⟩ := appendK (P := Tryd.prog) (bytes := 72) (c := c2) (q := q2) (m := 1) (news := obCells (mkOb ky j)) (t := 36) (ty := 36) w Tryd.underlying36 Tryd.infoOb rfl (by omega) o71 v73.2.2.1 rfl v73.2.2.2.1 (fun u hu => obCells_one _ u hu) (by have := Ham.out; omega) (by have := Ham.out; omega) hR.size
                    refine rg_append (s := .tmp 71) (x := .tmp 73) rfl e71 e73 hra ?_
                    have hB : Below wo.heap.size w w' := hA.belowOf hR.size (fun x hx => (o71.view.2.2.2.2.2.2 x hx).1)
                    exact hK _ _ (SlK.ofApp oA (by rw [List.flatMap_append]; rfl) (by rw [List.length_append, l71]; rfl)) ⟨Trb.ofB hA (fun x hx => (o71.view.2.2.2.2.2.2 x hx).1), hB, fun i hi hne ha hc e => (hc e).below hB HXb.out⟩
                  -- 9: s75 := fieldAddr 39 t3 3
                  apply rg7_ev
                  · intro a w hR hC hf
                    obtain ⟨e3, -⟩ := hf
                    replace e3 : a.tmps.getD 3 undef = _ := e3
                    refine rg_plain rfl fun K hK => ?_
                    go_simp
                    exact hK _ _ rfl ⟨hRr _, hRs _ _, fun _ _ _ _ h => h⟩
                  -- 10: s76 := load 36 t75
                  apply rg7_ev
                  · intro a w hR hC hf
                    obtain ⟨e75, -⟩ := hf
                    replace e75 : a.tmps.getD 75 undef = _ := e75
                    refine rg_plain rfl fun K hK => ?_
                    have h10 := ((hC 15 (by simp) (by kernel_rfl)) rfl).cell (i := 3) rfl
                    go_simp
                    exact hK _ _ rfl ⟨hRr _, hRs _ _, fun _ _ _ _ h => h⟩
                  -- 11: s77 := move t6
                  apply rg7_ev
                  · intro a w hR hC hf
                    obtain ⟨e6, -⟩ := hf
                    replace e6 : a.tmps.getD 6 undef = _ := e6
                    refine rg_plain rfl fun K hK => ?_
                    go_simp
                    exact hK _ _ rfl ⟨hRr _, hRs _ _, fun _ _ _ _ h => h⟩
                  -- 12: s78 := slice 36 t76 (some t77) none none
                  apply rg7_ev
                  · intro a w hR hC hf
                    obtain ⟨e76, e77, -⟩ := hf
                    replace e76 : a.tmps.getD 76 undef = _ := e76
                    replace e77 : a.tmps.getD 77 undef = _ := e77
                    refine rg_plain rfl fun K hK => ?_
                    have h121 := Ham'.out
                    have h122 := Hmk'.out
                    have h123 := Hcut.out
                    go_simp
                    exact hK _ _ rfl ⟨hRr _, hRs _ _, fun _ _ _ _ h => h⟩
                  -- 13: s79 := call { builtin append, args := #[t74, t78], #[36, 36] }
                  refine ⟨SlK obCells 59 5 wo.heap.size (m + 1) (os.take (A) ++ mkOb ky j :: os.drop (A)), stands5_of SlK.stable (by intro x hx hk; simp only [List.mem_cons, List.not_mem_nil, or_false] at hx; rcases hx with rfl | rfl | rfl <;> exact Bool.noConfusion (hk.symm.trans (by kernel_rfl : _ = true))), fun a w hR hC hf => ?_, ?_⟩
                  · obtain ⟨e74, e78, -⟩ := hf
                    replace e74 : SlK obCells 59 5 wo.heap.size (A + 1) (os.take (A) ++ [(mkOb ky j)]) (a.tmps.getD 74 undef) w := e74
                    replace e78 : a.tmps.getD 78 undef = _ := e78
                    refine rg_plain rfl fun K hK => ?_
                    obtain ⟨q1, c1, e74, l74, o74⟩ := e74
                    obtain ⟨p', c', w', hra, oA, hA⟩ := appendK (P := Tryd.prog) (bytes := 72) (c := k - (A)) (q := r) (m := m - (A)) (news := (os.drop (A)).flatMap obCells) (t := 36) (ty := 36) w Tryd.underlying36 Tryd.infoOb rfl (by omega) o74 (by rw [← Hcut.out]; exact rd_cut obCells_len (Hrd2.out.trb hR Hqn.out) (A) k Hcl.out) (by rw [flat_length obCells 5 obCells_len, List.length_drop, Hlen.out]) Hra.out (fun u hu => flat_one obCells obCells_one hu) (by have := Ham.out; omega) (by have := Ham.out; omega) hR.size
                    rw [show A + 1 + (m - (A)) = m + 1 by have := Ham.out; omega] at hra oA
                    refine rg_append (s := .tmp 74) (x := .tmp 78) rfl e74 e78 hra ?_
                    have hB : Below wo.heap.size w w' := hA.belowOf hR.size (fun x hx => (o74.view.2.2.2.2.2.2 x hx).1)
                    exact hK _ _ (SlK.ofApp oA (by rw [← List.flatMap_append, List.append_assoc]; rfl) (by rw [List.length_append, List.length_cons, List.length_take, List.length_drop, Hlen.out]; have := Ham.out; omega)) ⟨Trb.ofB hA (fun x hx => (o74.view.2.2.2.2.2.2 x hx).1), hB, fun i hi hne ha hc e => (hc e).below hB HXb.out⟩
                  -- 14: s80 := fieldAddr 39 t3 3
                  apply rg7_ev
                  · intro a w hR hC hf
                    obtain ⟨e3, -⟩ := hf
                    replace e3 : a.tmps.getD 3 undef = _ := e3
                    refine rg_plain rfl fun K hK => ?_
                    go_simp
                    exact hK _ _ rfl ⟨hRr _, hRs _ _, fun _ _ _ _ h => h⟩
                  -- 15: sNone := store 36 t80 t79
                  refine ⟨InsS (w0.heap.size + 1 + 1) wo.heap.size (m + 1) (os.take (A) ++ mkOb ky j :: os.drop (A)), stands5_of InsS.stable (by intro x hx hk; simp only [List.mem_cons, List.not_mem_nil, or_false] at hx; rcases hx with rfl | rfl | rfl <;> exact Bool.noConfusion (hk.symm.trans (by kernel_rfl : _ = true))), fun a w hR hC hf => ?_, ?_⟩
                  · obtain ⟨e80, e79, -⟩ := hf
                    replace e80 : a.tmps.getD 80 undef = _ := e80
                    replace e79 : SlK obCells 59 5 wo.heap.size (m + 1) (os.take (A) ++ mkOb ky j :: os.drop (A)) (a.tmps.getD 79 undef) w := e79
                    refine rg_plain rfl fun K hK => ?_
                    obtain ⟨q1, c1, e79, l79, o79⟩ := e79
                    have rX := (hC 15 (by simp) (by kernel_rfl)) rfl
                    have h5c := rX.cell (i := 3) rfl
                    have h5f := rX.free 3
                    go_simp
                    have hst : Only [w0.heap.size + 1 + 1] w (w.setCell ⟨w0.heap.size + 1 + 1, 3, none⟩ (.slice q1 (m + 1) c1)) := Only.setCell w ⟨w0.heap.size + 1 + 1, 3, none⟩ _
                    have hXn : ∀ x ∈ blk q1, x ∉ [w0.heap.size + 1 + 1] := fun x hx hm => by have h1 := (o79.view.2.2.2.2.2.2 x hx).1; have h2 := HXb.out; have h3 := List.mem_singleton.1 hm; omega
                    refine hK undef _ ⟨q1, c1, rX.setCell 3 _, o79.only hst (fun x hx => hXn x (ownBlkF hx)), l79⟩ ⟨Trb.ofD hst, hst, fun i hi hne ha _ => ?_⟩
                    simp only [List.mem_cons, List.not_mem_nil, or_false] at hi
                    exact absurd hi hne
                  intro f w hR hf hl
                  dsimp only [mergeT]
                  obtain ⟨l15, -⟩ := hl
                  replace l15 : ∃ v, (InsS (w0.heap.size + 1 + 1) wo.heap.size (m + 1) (os.take (A) ++ mkOb ky j :: os.drop (A))) v w := l15
                  -- RI2>>
                  obtain ⟨v15, q', c', hbk', hown', hlen'⟩ := l15
                  have hX3 : w0.heap.size + 3 ≤ wo.heap.size := by have := HXb.out; omega
                  have HIn : Hid (BkI w0 (os.take (A) ++ mkOb ky j :: os.drop (A)) q' (m + 1) c' w) := Lib.hid ⟨hbk', HIo.out.rs.trb hR (by simp), hown'.weaken hX3, hlen', HIo.out.only.transN hR.only (fun i hi => by have := List.mem_singleton.1 hi; omega)⟩
                  clear hbk' hown' hlen' hX3 hR hRr hRt hRd hRs hC0
                  go_wp2_with fail
                  refine ⟨⟨j + 1, q', m + 1, c', by go_num, by omega, Lib.hid (by rw [Hstep.out, Hins.out]; exact HIn.out)⟩, by simp [intOf]; omega⟩
      · by_cases hg : goodK ky = true
        · have hj3 : (300 : Int) < (j : Int) := by
            have : ¬ j ≤ 300 := fun h => hgood ⟨hg, h⟩
            omega
          rw [hg]
          have Hs2 : Hid (bucks ks (j + 1) = bucks ks j) := Lib.hid (by rw [Hstep.out]; unfold buckStep; rw [if_neg hgood])
          clear hgood hg Hstep
          go_wp2_with fail
          refine ⟨⟨j + 1, q, m, k, by go_num, by omega, Lib.hid (by rw [Hs2.out]; exact HIg.out)⟩, by simp [intOf]; omega⟩
        · have hg' : goodK ky = false := by simpa using hg
          rw [hg']
          have Hs2 : Hid (bucks ks (j + 1) = bucks ks j) := Lib.hid (by rw [Hstep.out]; unfold buckStep; rw [if_neg hgood])
          clear hgood hg hg' Hstep
          go_wp2_with fail
          refine ⟨⟨j + 1, q, m, k, by go_num, by omega, Lib.hid (by rw [Hs2.out]; exact HIg.out)⟩, by simp [intOf]; omega⟩
    · obtain rfl : j = n := by omega
      have hbk := HI.out.bk
      have b0 := hbk.cell (i := 0) rfl
      have b1 := hbk.cell (i := 1) rfl
      have b2 := hbk.cell (i := 2) rfl
      have b3 := hbk.cell (i := 3) rfl
      have b4 := hbk.cell (i := 4) rfl
      have hbi : (Tryd.prog.info? 39).map (·.size) = some (bkCells q m k).length := by kernel_rfl
      have hst := HI.out.rs.storeAt (P := Tryd.prog) (ty := 39) (us := bkCells q m k) hbi rfl (by simp [bkCells, Value.oneCell'])
      have hrow := HI.out.rs.setRow (bkCells q m k)
      have oS := Only.setRow wr (w0.heap.size + 1) (bkCells q m k).toArray
      have hO : Only [] w0 (wr.setRow (w0.heap.size + 1) (bkCells q m k).toArray) := HI.out.only.transN oS (by simp)
      have hown := HI.out.own.only oS (fun x hx hm => by
        have h1 := (HI.out.own.view.2.2.2.2.2.2 x (ownBlkF hx)).1
        have h2 := List.mem_singleton.1 hm
        omega)
      have Hst := Lib.hid hst
      have Hrow := Lib.hid hrow
      have HO := Lib.hid hO
      have Hown := Lib.hid hown
      have HL : Hid ((buck ks).length = m) := Lib.hid (by unfold buck; rw [Hn.out]; exact HI.out.len)
      have Hbk2 : Hid (bucks ks j = buck ks) := Lib.hid (by unfold buck; rw [Hn.out])
      clear hst hrow oS hO hown hbk
      go_wp2_with (first | ((with_reducible show wpList _ _ _ _ _ _); refine wpl_store (ty := 39) (x := .tmp 2) (y := .tmp 82) rfl rfl rfl rfl Hst.out ?_))
      refine bodyPost_ret (results_c1 rfl _ _ _ rfl Hrow.out Tryd.underlying39 hbi) rfl ⟨q, m, k, rfl, HL.out, ?_, HO.out⟩
      have := Hown.out.weaken (base' := w0.heap.size) (by omega)
      rw [Hbk2.out] at this
      exact this
end Go.Proofs.YtfoplbolbjcggaaDoor
