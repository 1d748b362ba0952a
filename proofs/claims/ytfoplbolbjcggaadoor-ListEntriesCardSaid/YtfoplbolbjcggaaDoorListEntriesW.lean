/- The walk of bollardlaw20.ListEntries. (Printed by wip/gen/listentries.py.) -/
import Derived.Test.YtfoplbolbjcggaaDoorListPagesW
import Derived.Test.YtfoplbolbjcggaaDoorRegionIn
import Derived.WalkMore
import Derived.Laws.StructEq
import Derived.Deep.DeepCutAuto
import Derived.Deep.Cut
set_option linter.unusedVariables false
set_option maxRecDepth 100000
namespace Go.Proofs.YtfoplbolbjcggaaDoor
open Go.RowKit Go.Shelf
attribute [local go_sem] Oper.semAt_some

theorem results_cellB {fn : Func} {a : Tmp} (h : fn.results = #[.cell a 4]) (tmps : Array Value) (w : World) (g : Nat) (b : Bool) (ht : tmps.getD a undef = .pointer (some ⟨g, 0, none⟩)) (hc : w.cell? ⟨g, 0, none⟩ = some (.bool b)) :
    (results fn tmps).run Tryd.prog w = .ok (.bool b) w := by
  rw [Array.getD_eq_getD_getElem?] at ht
  simp [results, h, ht, hc, go_sem]
theorem rd_set {w w' : World} {q : Option Addr} {es : List En} (h5 : Rd w q (es.flatMap enCells)) {g : Nat} {e : TypeId} {vs : List Value} (r : Row w g e vs) (hl : vs.length < 5) (ho : Only [g] w w') : Rd w' q (es.flatMap enCells) := by
  cases es with
  | nil => exact Rd.nil _ _
  | cons x l =>
    refine h5.only ho (fun a ha hm => ?_)
    subst ha
    have hx := rd_elem enCells_len h5 (j := 0) (o := x) rfl (r := 4) rfl
    obtain ⟨b, o, i⟩ := a
    have hi : i = none := by
      rcases h5 with h | ⟨b', o', e', _⟩
      · simp [enCells] at h
      · cases e'; rfl
    subst hi
    have hb : b = g := List.mem_singleton.1 hm
    subst hb
    rw [Addr.add_lit, cell_of_row w b _ _ e (0, 0) r] at hx
    obtain ⟨h7, _⟩ := Array.getElem?_eq_some_iff.1 hx
    simp at h7
    omega
theorem OwnK.rowE {w : World} {base K n m c : Nat} {e : TypeId} {p : Option Addr} {vs : List Value} (h : OwnK w base e K (.slice p m c) n vs) (hn : 0 < n) : ∃ g rest, p = some ⟨g, 0, none⟩ ∧ base ≤ g ∧ Row w g e (vs ++ rest) := by
  rcases h.2 with ⟨e1, rfl⟩ | ⟨g, cap, cur, e1, hg, hh, h1, h2, h3, h4⟩
  · omega
  · cases e1
    refine ⟨g, cur.toList.drop (n * K), rfl, hg, ?_⟩
    rw [← h4, List.take_append_drop]
    unfold Row; simpa using hh
def EnS (es : List En) : Value → World → Prop := fun v w => ∃ q m k, v = .slice q m k ∧ es.length = m ∧ Rd w q (es.flatMap enCells)
theorem EnS.stable (es : List En) : Stable (Only []) (EnS es) := fun _ _ _ ⟨q, m, k, h1, h2, h3⟩ ho => ⟨q, m, k, h1, h2, h3.only0 ho⟩
def EnP (base : Nat) (es : List En) : Value → World → Prop := fun v w => ∃ g, v = .pointer (some ⟨g, 0, none⟩) ∧ base ≤ g ∧ ∃ q m k, Row w g 41 [.slice q m k] ∧ es.length = m ∧ Rd w q (es.flatMap enCells)
theorem EnP.stable (base : Nat) (es : List En) : Stable (Only []) (EnP base es) := fun v w w' ⟨g, h1, h2, q, m, k, h3, h4, h5⟩ ho => ⟨g, h1, h2, q, m, k, h3.only0 ho, h4, h5.only0 ho⟩
theorem Rd.lowOnly {w w' : World} {p : Option Addr} {vs : List Value} {T : List Nat} {k : Nat} (h : Rd w p vs) (ho : Only T w w') (hT : ∀ t ∈ T, k ≤ t) (hk : vs ≠ [] → ∀ a, p = some a → a.block < k) : Rd w' p vs := by
  by_cases hv : vs = []
  · subst hv; exact Rd.nil _ _
  · exact h.only ho (fun a ha hm => by have := hT _ hm; have := hk hv a ha; omega)
/-- what stays while the entries are gone over -/
structure EeS (w0 w : World) (es : List En) (c1 c2 c3 : Nat) (p' : Option Addr) (n' k' : Nat) (os : List Ob) (pf dl : Bs) (qW : Option Addr) (kW Wn R St : Nat) (stop : Int) (Ms : List Nat) : Prop where
  mks : ∀ m ∈ Ms, w.heap[m]? = some (.deferred (some []))
  ent : EntAt w c1 c2 c3 p' n' k' os pf dl
  wr : Rd w qW (es.flatMap enCells)
  rw : Row w Wn 41 [.slice qW es.length kW]
  rr : Row w R 4 [.bool false]
  rs : Row w St 3 [.int .i64 stop]
  only : Only [] w0 w
section
variable {w0 w w' : World} {es : List En} {c1 c2 c3 n' k' kW Wn R St : Nat} {p' qW : Option Addr} {os : List Ob} {pf dl : Bs} {T Ms : List Nat} {stop : Int}
def EeLow (es : List En) (c1 c2 c3 : Nat) (p' qW : Option Addr) (Wn R St : Nat) (Ms : List Nat) (k : Nat) : Prop := (∀ x ∈ entCap c1 c2 c3 p', x < k) ∧ (es.flatMap enCells ≠ [] → ∀ a, qW = some a → a.block < k) ∧ Wn < k ∧ R < k ∧ St < k ∧ (∀ m ∈ Ms, m < k)
theorem EeS.step {k : Nat} (h : EeS w0 w es c1 c2 c3 p' n' k' os pf dl qW kW Wn R St stop Ms) (hl : EeLow es c1 c2 c3 p' qW Wn R St Ms k) (ho : Only T w w') (hT : ∀ t ∈ T, k ≤ t) (hk : w0.heap.size ≤ k) : EeS w0 w' es c1 c2 c3 p' n' k' os pf dl qW kW Wn R St stop Ms := by
  have hn : ∀ x, x < k → x ∉ T := fun x hx hm => by have := hT x hm; omega
  exact ⟨fun m hm => (ho.block m (Array.getElem?_eq_some_iff.1 (h.mks m hm)).1 (hn m (hl.2.2.2.2.2 m hm))).trans (h.mks m hm), h.ent.only ho (fun x hx => hn x (hl.1 x hx)), h.wr.lowOnly ho hT hl.2.1, h.rw.only ho (hn _ hl.2.2.1), h.rr.only ho (hn _ hl.2.2.2.1), h.rs.only ho (hn _ hl.2.2.2.2.1), h.only.transN ho (fun t ht => by have := hT t ht; omega)⟩
theorem EeS.low (h : EeS w0 w es c1 c2 c3 p' n' k' os pf dl qW kW Wn R St stop Ms) : EeLow es c1 c2 c3 p' qW Wn R St Ms w.heap.size := by
  refine ⟨h.ent.lt, fun hne a ha => ?_, h.rw.lt, h.rr.lt, h.rs.lt, fun m hm => (Array.getElem?_eq_some_iff.1 (h.mks m hm)).1⟩
  obtain ⟨b, off, e, hb⟩ := h.wr.lt hne
  rw [ha] at e
  cases e
  exact hb
end

set_option maxHeartbeats 32000000 in
theorem listEntries_any (p : Option Addr) (ks : List Bs) (n c : Nat) (pf dl tk : Bs) (M stop : Int) (w0 : World) (hn : ks.length = n) (hnc : n ≤ c) (hb : n ≤ 140737488351232) (hbk : ∀ k ∈ ks, k.length ≤ 140737488351232) (hp : p = none → n = 0 ∧ c = 0) (hx : Rd w0 p (strs ks)) (hpl : pf.length ≤ 140737488351232) (hdl : dl.length ≤ 140737488351232) (htl : tk.length ≤ 140737488351232) (mx : Int) (hmx : w0.cell? ⟨18, 0, none⟩ = some (.int .i64 mx)) :
    Calls Tryd.prog 6 #[.agg #[.slice p n c, .string (str pf), .string (str dl), .string (str tk), .int .i64 M], .int .i64 stop] w0 fun e w' => e = .returned (.bool true) ∧ Only [] w0 w' := by
  obtain ⟨wk, hwk⟩ : ∃ wk, wk = w0.alloc (.cells #[.slice p n c, .string (str pf), .string (str dl), .string (str tk), .int .i64 M] 35) := ⟨_, rfl⟩
  obtain ⟨ws, hws⟩ : ∃ ws, ws = wk.alloc (.cells #[.int .i64 stop] 3) := ⟨_, rfl⟩
  obtain ⟨w1, hw1⟩ : ∃ w1, w1 = ws.alloc (.cells #[.bool false] 4) := ⟨_, rfl⟩
  have ok : Only [] w0 wk := by rw [hwk]; exact Only.alloc _ _
  have os' : Only [] wk ws := by rw [hws]; exact Only.alloc _ _
  have o1' : Only [] ws w1 := by rw [hw1]; exact Only.alloc _ _
  have zk : wk.heap.size = w0.heap.size + 1 := by rw [hwk]; simp
  have zs : ws.heap.size = w0.heap.size + 1 + 1 := by rw [hws]; simp [zk]
  have rK : Row w1 w0.heap.size 35 [.slice p n c, .string (str pf), .string (str dl), .string (str tk), .int .i64 M] := ((show Row wk w0.heap.size 35 [.slice p n c, .string (str pf), .string (str dl), .string (str tk), .int .i64 M] by rw [hwk]; exact Row.newOf _ _ _ _ rfl).only0 os').only0 o1'
  have rS : Row w1 (w0.heap.size + 1) 3 [.int .i64 stop] := (show Row ws (w0.heap.size + 1) 3 [.int .i64 stop] by rw [← zk, hws]; exact Row.newOf _ _ _ _ rfl).only0 o1'
  have rR : Row w1 (w0.heap.size + 1 + 1) 4 [.bool false] := by rw [← zs, hw1]; exact Row.newOf _ _ _ _ rfl
  have o1 : Only [] w0 w1 := (ok.trans0 os').trans0 o1'
  have hal := alive20_any mx w1 (o1.cell hmx (by simp))
  have HO1 := Lib.hid o1
  have HK1 := Lib.hid rK
  have HS1 := Lib.hid rS
  have HR1 := Lib.hid rR
  have Hwk := Lib.hid hwk
  have Hws := Lib.hid hws
  have Hw1 := Lib.hid hw1
  have Hbu : Hid (∀ w, Only [] w0 w → Calls Tryd.prog 22 #[.agg #[.slice p n c, .string (str pf), .string (str dl), .string (str tk), .int .i64 M]] w fun e w' => ∃ q m k, e = .returned (bkV q m k) ∧ (buck ks).length = m ∧ OwnK w' w.heap.size 59 5 (.slice q m k) m ((buck ks).flatMap obCells) ∧ Only [] w w') :=
    Lib.hid (fun w ho => bucket_any p ks n c (str pf) (str dl) (str tk) M w hn hnc hb hbk hp (hx.only0 ho))
  have hok := buck_ok ks
  have HBl := Lib.hid hok.len
  have HBs := Lib.hid hok.sorted
  have HBk : Hid (∀ o ∈ buck ks, o.key ≠ [] ∧ o.key.length ≤ 200) := Lib.hid (fun o ho => hok.key ho)
  have Hmx := Lib.hid hmx
  obtain ⟨es, hes⟩ : ∃ es, entries pf dl (buck ks) = es := ⟨_, rfl⟩
  have hel : es.length ≤ 128 := by
    have h1 := entries_len pf dl (buck ks)
    have h2 := hok.len
    rw [hes] at h1
    omega
  have Hes := Lib.hid hes
  clear hwk hws hw1 ok os' o1' zk zs rK rS rR o1 hok hmx hx hbk hn hp hes
  refine calls_of_marks Tryd.func6 rfl ?_
  simp only [Tryd.ntmps6, List.size_toArray, List.length_cons, List.length_nil, Nat.reduceAdd, Nat.reduceSub, Array.replicate_succ, Array.replicate_zero, List.push_toArray, List.append_toArray, List.nil_append, List.cons_append]
  go_wp2_with fail
  rw [← Hwk.out, ← Hws.out, ← Hw1.out]
  refine hal.mono ?_
  clear hal Hwk Hws Hw1
  rintro e wA ⟨rfl, oA⟩
  have HOA := Lib.hid (HO1.out.trans0 oA)
  have HKA := Lib.hid (HK1.out.only0 oA)
  have HSA := Lib.hid (HS1.out.only0 oA)
  have HRA := Lib.hid (HR1.out.only0 oA)
  have K0 := Lib.hid (HKA.out.cell (i := 0) rfl)
  have K1 := Lib.hid (HKA.out.cell (i := 1) rfl)
  have K2 := Lib.hid (HKA.out.cell (i := 2) rfl)
  have K3 := Lib.hid (HKA.out.cell (i := 3) rfl)
  have K4 := Lib.hid (HKA.out.cell (i := 4) rfl)
  have HBA : Hid (∀ w, Only [] wA w → Calls Tryd.prog 22 #[.agg #[.slice p n c, .string (str pf), .string (str dl), .string (str tk), .int .i64 M]] w fun e w' => ∃ q m k, e = .returned (bkV q m k) ∧ (buck ks).length = m ∧ OwnK w' w.heap.size 59 5 (.slice q m k) m ((buck ks).flatMap obCells) ∧ Only [] w w') := Lib.hid (fun w ho => Hbu.out w (HOA.out.trans0 ho))
  clear oA HO1 HK1 HS1 HR1
  go_wp2_with fail
  have hRr : ∀ a, Below wA.heap.size a a := fun a => Below.refl _ _
  have hRt : ∀ a b e, Below wA.heap.size a b → Below wA.heap.size b e → Below wA.heap.size a e := fun a b e h h2 => h.trans h2
  have hRd : Below wA.heap.size wA wA.drew := (Only.drew _).below
  have hRs : ∀ j w, DirtR [(8, Below wA.heap.size)] j w w := DirtR.refl (by intro x hx w; obtain rfl := List.mem_singleton.1 hx; exact Below.refl _ _)
  -- <<R3
  refine wp_region_rg6 (Below wA.heap.size) (DirtR [(8, Below wA.heap.size)]) [[(2, none)], [(13, some 0)], [(2, none)], [(15, some 0)], [(2, none)], [(17, some 0)], [(14, some 4), (16, some 2), (18, some 0)], [], [(5, some 0), (19, some 1)]] [] [(5, 0)] [none, none, none, none, none, some 5, none, none, none, none, none, none, none, some 13, some 14, some 15, some 16, some 17, some 18, some 19, none, none, none, none, none, none, none, none, none, none, none, none, none, none, none, none, none, none, none, none, none, none, none, none, none, none, none, none, none, none, none, none, none, none, none, none, none, none, none, none, none, none, none, none, none, none, none, none, none, none, none] (by kernel_rfl) rfl (by kernel_rfl) hRr hRt hRs hRd (by kernel_rfl) ?_
  -- 0: s13 := load 35 t2
  apply rgl_ev rfl
  · intro a w hR hf
    obtain ⟨e2, -⟩ := hf
    replace e2 : a.tmps.getD 2 undef = _ := e2
    refine rg_plain rfl fun K hK => ?_
    have k0 := (Only.ofBelow hR).cell K0.out (by simp)
    have k1 := (Only.ofBelow hR).cell K1.out (by simp)
    have k2 := (Only.ofBelow hR).cell K2.out (by simp)
    have k3 := (Only.ofBelow hR).cell K3.out (by simp)
    have k4 := (Only.ofBelow hR).cell K4.out (by simp)
    go_simp
    exact hK _ _ rfl ⟨hRr _, hRs _ _⟩
  -- 1: s14 := call { value (Operand.func 22), args := #[t13], #[35] }
  refine rgl_at (BkS (buck ks)) (stands5_of (BkS.stable _) (by intro x hx hk; obtain rfl := List.mem_singleton.1 hx; exact Bool.noConfusion (hk.symm.trans (by kernel_rfl : _ = true)))) rfl (fun a w hR hf => ?_) ?_
  · obtain ⟨e13, -⟩ := hf
    replace e13 : a.tmps.getD 13 undef = _ := e13
    refine rg_plain rfl fun K hK => ?_
    go_simp
    (with_reducible refine (HBA.out w (Only.ofBelow hR)).mono ?_)
    rintro e w' ⟨q, m, k, rfl, hl, own, ho⟩
    exact hK _ _ (bkS_own hl own) ⟨ho.below.mono hR.size, ho⟩
  -- 2: s15 := fieldAddr 35 t2 1
  apply rgl_ev rfl
  · intro a w hR hf
    obtain ⟨e2, -⟩ := hf
    replace e2 : a.tmps.getD 2 undef = _ := e2
    refine rg_plain rfl fun K hK => ?_
    go_simp
    exact hK _ _ rfl ⟨hRr _, hRs _ _⟩
  -- 3: s16 := load 9 t15
  apply rgl_ev rfl
  · intro a w hR hf
    obtain ⟨e15, -⟩ := hf
    replace e15 : a.tmps.getD 15 undef = _ := e15
    refine rg_plain rfl fun K hK => ?_
    have k1 := (Only.ofBelow hR).cell K1.out (by simp)
    go_simp
    exact hK _ _ rfl ⟨hRr _, hRs _ _⟩
  -- 4: s17 := fieldAddr 35 t2 2
  apply rgl_ev rfl
  · intro a w hR hf
    obtain ⟨e2, -⟩ := hf
    replace e2 : a.tmps.getD 2 undef = _ := e2
    refine rg_plain rfl fun K hK => ?_
    go_simp
    exact hK _ _ rfl ⟨hRr _, hRs _ _⟩
  -- 5: s18 := load 9 t17
  apply rgl_ev rfl
  · intro a w hR hf
    obtain ⟨e17, -⟩ := hf
    replace e17 : a.tmps.getD 17 undef = _ := e17
    refine rg_plain rfl fun K hK => ?_
    have k2 := (Only.ofBelow hR).cell K2.out (by simp)
    go_simp
    exact hK _ _ rfl ⟨hRr _, hRs _ _⟩
  -- 6: s19 := call { value (Operand.func 27), args := #[t14, t16, t18], #[39, 9, 9] }
  refine rgl_at (EnS es) (stands5_of (EnS.stable _) (by intro x hx hk; obtain rfl := List.mem_singleton.1 hx; exact Bool.noConfusion (hk.symm.trans (by kernel_rfl : _ = true)))) rfl (fun a w hR hf => ?_) ?_
  · obtain ⟨e14, e16, e18, -⟩ := hf
    replace e14 : BkS (buck ks) (a.tmps.getD 14 undef) w := e14
    replace e16 : a.tmps.getD 16 undef = _ := e16
    replace e18 : a.tmps.getD 18 undef = _ := e18
    refine rg_plain rfl fun K hK => ?_
    obtain ⟨q, m, k, e14, hl, hp, hrd⟩ := e14
    unfold bkV at e14
    have hre := refEntries_any aaa 0 0 (.slice none 0 0) rfl q (buck ks) m k pf dl w hl (by have := HBl.out; omega) hp hrd HBs.out (fun o ho => by have := (HBk.out o ho).2; omega) hpl hdl
    rw [← entries_doc HBs.out, Hes.out] at hre
    unfold bkV' at hre
    go_simp
    (with_reducible refine hre.mono ?_)
    rintro e w' ⟨q2, m2, k2, rfl, hl2, own2, ho⟩
    exact hK _ _ ⟨q2, m2, k2, rfl, hl2, own2.view.2.2.1⟩ ⟨ho.below.mono hR.size, ho⟩
  -- 7: s5 := alloc 41
  refine rgl_at (PtrR wA.heap.size 41 [.slice none 0 0]) (stands5_of (PtrR.stable _ _ _) (by intro x hx hk; obtain rfl := List.mem_singleton.1 hx; exact Bool.noConfusion (hk.symm.trans (by kernel_rfl : _ = true)))) rfl (fun a w hR hf => ?_) ?_
  · refine rg_plain rfl fun K hK => ?_
    go_simp
    exact hK _ _ ⟨w.heap.size, rfl, hR.size, Row.newOf _ _ _ _ (by rfl)⟩ ⟨(Only.alloc w _).below.mono hR.size, Only.alloc w _⟩
  -- 8: sNone := store 41 t5 t19
  refine rgl_store (t := 5) (EnP wA.heap.size es) (stands5_of (EnP.stable _ _) (by intro x hx hk; obtain rfl := List.mem_singleton.1 hx; exact Bool.noConfusion (hk.symm.trans (by kernel_rfl : _ = true)))) rfl (fun a w hR hf => ?_) ?_
  · obtain ⟨e5, e19, -⟩ := hf
    replace e5 : PtrR wA.heap.size 41 [.slice none 0 0] (a.tmps.getD 5 undef) w := e5
    replace e19 : EnS es (a.tmps.getD 19 undef) w := e19
    refine rg_plain rfl fun K hK => ?_
    obtain ⟨g, e5, hg, r⟩ := e5
    obtain ⟨q, m, k, e19, hl, hrd⟩ := e19
    have hc5 := r.cell (i := 0) rfl
    have hf5 := r.free 0
    have hos := (Only.setCell w ⟨g, 0, none⟩ (.slice q m k)).belowOf hR.size (by intro x hx; obtain rfl := List.mem_singleton.1 hx; exact hg)
    have hrd2 := rd_set hrd r (by decide) (Only.setCell w ⟨g, 0, none⟩ (.slice q m k))
    go_simp
    exact (show K a _ from hK (a.tmps.getD 5 undef) _ ⟨rfl, g, e5, hg, q, m, k, r.setCell 0 _, hl, hrd2⟩ ⟨hos, hos⟩)
  intro fR3 wR3 hRR3 hf hlR3
  dsimp only [mergeT]
  obtain ⟨l5, -⟩ := hlR3
  replace l5 : EnP wA.heap.size es (fR3 5) wR3 := l5
  -- R3>>
  obtain ⟨Wn, e5, hWn, qW, mW, kW, hrow, hlW, hrW⟩ := l5
  rw [e5]
  subst hlW
  have o3 := Only.ofBelow hRR3
  have hK3 := HKA.out.only0 o3
  have hbu := HBA.out wR3 o3
  have k0 := hK3.cell (i := 0) rfl
  have k1 := hK3.cell (i := 1) rfl
  have k2 := hK3.cell (i := 2) rfl
  have k3 := hK3.cell (i := 3) rfl
  have k4 := hK3.cell (i := 4) rfl
  have HO3 := Lib.hid (HOA.out.trans0 o3)
  have HK3 := Lib.hid hK3
  have HS3 := Lib.hid (HSA.out.only0 o3)
  have HR3 := Lib.hid (HRA.out.only0 o3)
  have HW3 := Lib.hid hrow
  have HrW3 := Lib.hid hrW
  clear hRr hRt hRd hRs hRR3 hK3 hrow hrW e5 o3 hWn K0 K1 K2 K3 K4 HBA HKA HSA HRA HOA
  go_wp2_with fail
  refine hbu.mono ?_
  clear hbu k0 k1 k2 k3 k4
  rintro e wB ⟨qo, mo, ko, rfl, hlB, ownB, oB⟩
  obtain ⟨w4, hw4⟩ : ∃ w4, w4 = wB.alloc (.cells #[.string aaa, .int .i64 0, .int .i64 0, .slice qo mo ko, .slice none 0 0] 39) := ⟨_, rfl⟩
  have o4 : Only [] wB w4 := by rw [hw4]; exact Only.alloc _ _
  have r4 : Row w4 wB.heap.size 39 [.string aaa, .int .i64 0, .int .i64 0, .slice qo mo ko, .slice none 0 0] := by rw [hw4]; exact Row.newOf _ _ _ _ rfl
  have oB4 := oB.trans0 o4
  have hK4 := HK3.out.only0 oB4
  have own4 := ownB.only0 o4
  have hmo : mo ≤ 128 := by have := HBl.out; omega
  have hen := entries_any aaa 0 0 (.slice none 0 0) rfl qo (buck ks) mo ko pf dl mx w4 hlB (by omega) own4.view.2.2.2.1 own4.view.2.2.1 ((HO3.out.trans0 oB4).cell Hmx.out (by simp))
  have k1 := hK4.cell (i := 1) rfl
  have k2 := hK4.cell (i := 2) rfl
  have b0 := r4.cell (i := 0) rfl
  have b1 := r4.cell (i := 1) rfl
  have b2 := r4.cell (i := 2) rfl
  have b3 := r4.cell (i := 3) rfl
  have b4 := r4.cell (i := 4) rfl
  have HO4 := Lib.hid (HO3.out.trans0 oB4)
  have HB4 := Lib.hid r4
  have HOB4 := Lib.hid oB4
  have Hown4 := Lib.hid own4
  have HlB := Lib.hid hlB
  have HqB : Hid (∀ x ∈ blk qo, wR3.heap.size ≤ x ∧ x < wB.heap.size) := Lib.hid (fun x hx => ownB.view.2.2.2.2.2.2 x hx)
  have HwB := Lib.hid oB.size
  have HWl : Hid (Wn < wR3.heap.size ∧ w0.heap.size + 1 + 1 < wR3.heap.size ∧ w0.heap.size + 1 < wR3.heap.size) := Lib.hid ⟨HW3.out.lt, HR3.out.lt, HS3.out.lt⟩
  have Hw4 := Lib.hid hw4
  unfold bkV' at hen
  unfold bkV
  clear o4 r4 oB4 hK4 own4 ownB hlB hw4 oB HK3
  go_upto_region 5 with (fail)
  rw [← Hw4.out]
  go_wp2_with fail
  refine hen.mono ?_
  clear hen k1 k2 b0 b1 b2 b3 b4 Hw4
  rintro e wP ⟨c1, c2, c3, p', k', rfl, hEA, oe, hlo⟩
  have HEA := Lib.hid hEA
  have HB5 := Lib.hid (HB4.out.only0 oe)
  have HO5 := Lib.hid (HO4.out.trans0 oe)
  have HS5 := Lib.hid ((HS3.out.only0 HOB4.out).only0 oe)
  have HR5 := Lib.hid ((HR3.out.only0 HOB4.out).only0 oe)
  have HW5 := Lib.hid ((HW3.out.only0 HOB4.out).only0 oe)
  have HrW5 := Lib.hid ((HrW3.out.only0 HOB4.out).only0 oe)
  have Hown5 := Lib.hid (Hown4.out.only0 oe)
  have HsP : Hid (wR3.heap.size ≤ wB.heap.size ∧ wB.heap.size < w4.heap.size ∧ w4.heap.size ≤ wP.heap.size ∧ w0.heap.size ≤ wR3.heap.size) := Lib.hid ⟨HwB.out, HB4.out.lt, oe.size, HO3.out.size⟩
  have Hcp : Hid (∀ x ∈ entCap c1 c2 c3 p', x < wP.heap.size ∧ x ∉ blk qo) := Lib.hid (fun x hx => ⟨hEA.lt x hx, fun hm => by
    have h1 := HqB.out x hm
    have h2 := World.block_lt_of_cell? w0 _ Hmx.out
    have h3 := HO3.out.size
    have h4 := HB4.out.lt
    rcases List.mem_cons.1 hx with rfl | hx
    · simp at h2; omega
    · have := hlo x hx; omega⟩)
  have HqW : Hid (∀ w, Only (blk qo) wP w → Rd w qW (es.flatMap enCells)) := Lib.hid (fun w ho => by
    by_cases hne : es.flatMap enCells = []
    · rw [hne]; exact Rd.nil _ _
    · obtain ⟨b, off, e, hb⟩ := HrW3.out.lt hne
      exact HrW5.out.only ho (fun a ha hm => by rw [ha] at e; cases e; have := (HqB.out _ hm).1; simp at this; omega))
  have HrowQ : Hid (0 < mo → ∃ g vs, qo = some ⟨g, 0, none⟩ ∧ Row wP g 59 vs ∧ 5 * mo ≤ vs.length) := Lib.hid (fun h => by
    obtain ⟨g, rest, h1, -, h2⟩ := Hown5.out.rowE h
    refine ⟨g, _, h1, h2, ?_⟩
    have h3 := Hown5.out.view.2.1
    rw [List.length_append, h3]
    omega)
  have b3' := HB5.out.cell (i := 3) rfl
  unfold entF
  clear hEA oe hlo HB4 HO4 HS3 HR3 HW3 HrW3 Hown4 HOB4
  go_wp2_with fail
  clear b3'
  go_loopw [31] (fun s31 wr => ∃ i : Nat, s31 = .int .i64 (i : Int) ∧ i ≤ mo ∧ Hid (Only (blk qo) wP wr) ∧ Hid (0 < mo → ∃ g vs, qo = some ⟨g, 0, none⟩ ∧ Row wr g 59 vs ∧ 5 * mo ≤ vs.length)) (fun s31 _ => mo - (intOf s31).toNat)
  case atStart => exact ⟨0, rfl, Nat.zero_le _, Lib.hid (Only.refl _ _), HrowQ⟩
  case round =>
    obtain ⟨i, rfl, him, HO, Hrow⟩ := hrel
    by_cases hlt : i < mo
    · obtain ⟨g, vs, hq, hr, hvl⟩ := Hrow.out (by omega)
      have hbr := HB5.out.only HO.out (fun hm => by have := (HqB.out _ hm).2; omega)
      have b3 := hbr.cell (i := 3) rfl
      obtain ⟨v, hv⟩ : ∃ v, vs[i * 5]? = some v := ⟨_, List.getElem?_eq_getElem (by omega)⟩
      have cv := hr.cell hv
      have fv := hr.free (i * 5)
      have hO2 : Only (blk qo) wP (wr.setCell ⟨g, i * 5, none⟩ (.string ⟨#[63]⟩)) := HO.out.trans (Only.setCell wr ⟨g, i * 5, none⟩ _) (fun x hx _ => by have := List.mem_singleton.1 hx; subst this; rw [hq]; simp [blk])
      have hr2 := hr.setCell (i * 5) (.string ⟨#[63]⟩)
      have HO2 := Lib.hid hO2
      have Hr2 : Hid (0 < mo → ∃ g' vs', qo = some ⟨g', 0, none⟩ ∧ Row (wr.setCell ⟨g, i * 5, none⟩ (.string ⟨#[63]⟩)) g' 59 vs' ∧ 5 * mo ≤ vs'.length) := Lib.hid (fun _ => ⟨g, _, hq, hr2, by rw [List.length_set]; exact hvl⟩)
      rw [hq] at b3
      clear hbr hr hv hvl hO2 hr2 Hrow hq
      go_wp2_with fail
      refine ⟨⟨i + 1, by go_num, by omega, HO2, Hr2⟩, ?_⟩
      show mo - ((i : Int) + 1).toNat < mo - ((i : Int)).toNat
      omega
    · obtain rfl : i = mo := by omega
      have hbr := HB5.out.only HO.out (fun hm => by have := (HqB.out _ hm).2; omega)
      have b3 := hbr.cell (i := 3) rfl
      have hnq : ∀ x, x < wR3.heap.size → x ∉ blk qo := fun x hx hm => by have := (HqB.out _ hm).1; omega
      have HA0 : Hid (EeS w0 wr es c1 c2 c3 p' i k' (buck ks) pf dl qW kW Wn (w0.heap.size + 1 + 1) (w0.heap.size + 1) stop []) := Lib.hid ⟨by simp, HEA.out.only HO.out (fun x hx => (Hcp.out x hx).2), HqW.out _ HO.out, HW5.out.only HO.out (hnq _ HWl.out.1), HR5.out.only HO.out (hnq _ HWl.out.2.1), HS5.out.only HO.out (hnq _ HWl.out.2.2), HO5.out.transN HO.out (fun x hx => by have h1 := (HqB.out _ hx).1; have := HsP.out.2.2.2; omega)⟩
      obtain ⟨wA0, hwA0⟩ : ∃ w : World, w = wr := ⟨_, rfl⟩
      subst hwA0
      clear hbr b3 hnq HO Hrow
      generalize hSt : w0.heap.size + 1 = St at *
      generalize hRe : St + 1 = R at *
      have HRe := Lib.hid hRe
      have HSt := Lib.hid hSt
      clear hRe hSt
      generalize hNe : es.length = N at *
      have HNe := Lib.hid hNe
      clear hNe
      go_wp2_with fail
      refine wp_loop_rounds 3 ?_
      rw [rounds_succ]
      obtain ⟨wB1, hwB1⟩ : ∃ wB, wB = wA0.alloc (.cells #[.int .i64 0] 3) := ⟨_, rfl⟩
      have oB1 : Only [] wA0 wB1 := by rw [hwB1]; exact Only.alloc _ _
      have rB1 : Row wB1 wA0.heap.size 3 [.int .i64 0] := by rw [hwB1]; exact Row.newOf _ _ _ _ rfl
      have HB1 := Lib.hid (HA0.out.step HA0.out.low oB1 (by simp) HA0.out.only.size)
      have HrB1 := Lib.hid rB1
      have HoB1 := Lib.hid oB1
      have HwB1 := Lib.hid hwB1
      clear oB1 rB1 hwB1
      go_wp2_with fail
      rw [← HwB1.out]
      generalize hYe1 : wA0.heap.size = Y1 at *
      have HYe1 := Lib.hid hYe1
      clear hYe1 HwB1
      refine wp_rangeB (xs := entries pf dl (buck ks)) 4 rfl (enters_of Tryd.func52 (by kernel_rfl) rfl) (entries_seq HB1.out.ent (by omega) (fun o ho => by have := (HBk.out o ho).2; omega) hpl hdl) HB1.out.low.1 (by rintro _ _ _ _ ⟨rfl, -⟩; rfl) (fun _ _ h => h)
        (fun ys D w => D = [Y1] ∧ Row w Y1 3 [.int .i64 (ys.length : Int)] ∧ EeS w0 w es c1 c2 c3 p' i k' (buck ks) pf dl qW kW Wn R St stop [])
        (fun ys D w => D = [Y1] ∧ Row w Y1 3 [.int .i64 stop] ∧ EeS w0 w es c1 c2 c3 p' i k' (buck ks) pf dl qW kW Wn R St stop [])
        (fun D w => ∃ v : Int, (v = (N : Int) ∨ v = stop) ∧ D = [Y1] ∧ Row w Y1 3 [.int .i64 v] ∧ EeS w0 w es c1 c2 c3 p' i k' (buck ks) pf dl qW kW Wn R St stop []) [Y1] ?hD0 ?hI ?hIx ⟨rfl, HrB1.out, HB1.out⟩ ?round (fun D B ⟨h1, h2, h3⟩ => ⟨_, .inl (by rw [Hes.out, HNe.out]), h1, h2, h3⟩) (fun ys D B ⟨h1, h2, h3⟩ => ⟨_, .inr rfl, h1, h2, h3⟩) ?done
      case hD0 =>
        intro d hd
        obtain rfl := List.mem_singleton.1 hd
        exact ⟨fun hm => by have := HA0.out.low.1 _ hm; rw [HYe1.out] at this; omega, HrB1.out.lt⟩
      case hI =>
        rintro ys D A B T ⟨rfl, h1, h2⟩ ho hT
        exact ⟨rfl, h1.only ho (fun hm => (hT _ hm).1 (by simp)), h2.step HB1.out.low ho (fun t ht => (hT t ht).2) HB1.out.only.size⟩
      case hIx =>
        rintro ys D A B T ⟨rfl, h1, h2⟩ ho hT
        exact ⟨rfl, h1.only ho (fun hm => (hT _ hm).1 (by simp)), h2.step HB1.out.low ho (fun t ht => (hT t ht).2) HB1.out.only.size⟩
      case round =>
        rintro l ys x zs D A vs G hl1 hl2 hDG hG ⟨rfl, rN, hS⟩ hxs ⟨rfl, rfl⟩
        rw [Hes.out] at hxs
        have hlen1 : (ys ++ [x]).length = ys.length + 1 := by rw [List.length_append]; rfl
        generalize hi : ys.length = i at *
        have hix : es[i]? = some x := by rw [hxs, List.getElem?_append_right (by omega), hi, Nat.sub_self]; rfl
        have hys : i < N := by rw [← HNe.out]; exact (List.getElem?_eq_some_iff.1 hix).1
        have HDG := Lib.hid hDG
        have HS := Lib.hid hS
        have HrN := Lib.hid rN
        have Hlen1 := Lib.hid hlen1
        have Hix := Lib.hid hix
        have hlo0 : w0.heap.size ≤ wB1.heap.size := HB1.out.only.size
        obtain ⟨A1, hA1⟩ : ∃ A1, A1 = A.alloc (.cells #[.string (str x.name), .bool x.pre, .int .i64 x.size, .string (str x.etag), .int .i64 x.time] 61) := ⟨_, rfl⟩
        have oA1 : Only [] A A1 := by rw [hA1]; exact Only.alloc _ _
        have rA1 : Row A1 A.heap.size 61 (enCells x) := by rw [hA1]; exact Row.newOf _ _ _ _ rfl
        have HAe := Lib.hid hA1
        have HoA := Lib.hid oA1
        have HrA := Lib.hid rA1
        unfold enV
        clear hS hG hDG hxs rN hi hlen1 hix hA1 oA1 rA1
        gi_wp2_with fail
        rw [← HAe.out]
        refine ⟨HoA.out, fun A2 o2 hs2 => ?_⟩
        have oA2 : Only [l] A A2 := (HoA.out.mono (by simp)).trans o2 (fun i hi _ => hi)
        have hS2 := HS.out.step HB1.out.low oA2 (fun t ht => by obtain rfl := List.mem_singleton.1 ht; omega) hlo0
        have rN2 := HrN.out.only oA2 (fun hm => by
          have h1 := List.mem_singleton.1 hm
          exact (HDG.out Y1 (by simp)).1 h1)
        have rA2 := HrA.out.only o2 (by simp; omega)
        have cN := rN2.cell (i := 0) rfl
        have cW := hS2.rw.cell (i := 0) rfl
        rw [HNe.out] at cW
        have hne : es.flatMap enCells ≠ [] := fun e' => by have := flat_get enCells 5 enCells_len es i x 0 Hix.out (by omega); rw [e'] at this; cases this
        obtain ⟨bw, fw, hqw, -⟩ := hS2.wr.lt hne
        have hwr := hS2.wr
        rw [hqw] at hwr cW
        have y0 := rd_elem enCells_len hwr Hix.out (r := 0) rfl
        have y1 := rd_elem enCells_len hwr Hix.out (r := 1) rfl
        have y2 := rd_elem enCells_len hwr Hix.out (r := 2) rfl
        have y3 := rd_elem enCells_len hwr Hix.out (r := 3) rfl
        have y4 := rd_elem enCells_len hwr Hix.out (r := 4) rfl
        rw [Addr.add_lit, ← Nat.add_assoc] at y0 y1 y2 y3 y4
        rw [Nat.add_zero] at y0
        have x0 := rA2.cell (i := 0) rfl
        have x1 := rA2.cell (i := 1) rfl
        have x2 := rA2.cell (i := 2) rfl
        have x3 := rA2.cell (i := 3) rfl
        have x4 := rA2.cell (i := 4) rfl
        have HS2 := Lib.hid hS2
        have HrN2 := Lib.hid rN2
        have hii : (i : Int) < (N : Int) := by omega
        have Hge : Hid (decide (N ≤ i) = false) := Lib.hid (decide_eq_false (by omega))
        have Hs2 := Lib.hid hs2
        have hAA : A.heap.size < A2.heap.size := rA2.lt
        have HoA2 := Lib.hid oA2
        clear hS2 rN2 rA2 hwr hqw hne o2 oA2 hs2
        gi_wp2_with fail
        -- <<R16_1
        refine wpIn_region_rg2 (Only []) [[(9, none)], [(5, none)], [(45, some 0)], [(44, some 2), (46, some 0)], [(47, some 0)], [(48, some 0), (10, none)], [(48, some 1), (5, none)], [(48, some 2), (9, none)], [(48, some 3), (50, some 1), (51, some 0)], [(48, some 4), (52, some 0)], [(48, some 5), (49, some 4), (53, some 0)], [(48, some 6), (54, some 0)]] [(55, 0)] [none, none, none, none, none, none, none, none, none, none, none, none, none, none, none, none, none, none, none, none, none, none, none, none, none, none, none, none, none, none, none, none, none, none, none, none, none, none, none, none, none, none, none, none, some 44, some 45, some 46, some 47, some 48, some 49, some 50, some 51, some 52, some 53, some 54, some 55, none, none, none, none, none, none, none, none, none, none, none, none, none, none, none] (by kernel_rfl) rfl (by kernel_rfl) (fun _ => Only.refl _ _) (fun _ _ _ h k => h.trans0 k) (Only.drew _) (by kernel_rfl) (by kernel_rfl) ?_
        -- 0: s44 := load 3 t9
        apply rg_ev
        · intro a w hR hf
          obtain ⟨e9, -⟩ := hf
          replace e9 : a.tmps.getD 9 undef = _ := e9
          refine rg_plain rfl fun K hK => ?_
          have g := hR.cell cN (by simp)
          go_simp
          exact hK _ _ rfl (Only.refl _ _)
        -- 1: s45 := load 41 t5
        apply rg_ev
        · intro a w hR hf
          obtain ⟨e5, -⟩ := hf
          replace e5 : a.tmps.getD 5 undef = _ := e5
          refine rg_plain rfl fun K hK => ?_
          have g := hR.cell cW (by simp)
          go_simp
          exact hK _ _ rfl (Only.refl _ _)
        -- 2: s46 := call { builtin len, args := #[t45], #[41] }
        apply rg_ev
        · intro a w hR hf
          obtain ⟨e45, -⟩ := hf
          replace e45 : a.tmps.getD 45 undef = _ := e45
          refine rg_plain rfl fun K hK => ?_
          go_simp
          exact hK _ _ rfl (Only.refl _ _)
        -- 3: s47 := binOp Bingeq 3 t44 t46 3
        apply rg_ev
        · intro a w hR hf
          obtain ⟨e44, e46, -⟩ := hf
          replace e44 : a.tmps.getD 44 undef = _ := e44
          replace e46 : a.tmps.getD 46 undef = _ := e46
          refine rg_plain rfl fun K hK => ?_
          have h := Hge.out
          go_simp
          exact hK _ _ rfl (Only.refl _ _)
        -- 4: s48 := move t47
        apply rg_ev
        · intro a w hR hf
          obtain ⟨e47, -⟩ := hf
          replace e47 : a.tmps.getD 47 undef = _ := e47
          refine rg_plain rfl fun K hK => ?_
          go_simp
          exact hK _ _ rfl (Only.refl _ _)
        -- 5: s49 := load 61 t10 [if 4=false]
        apply rg_ev
        · intro a w hR hf
          obtain ⟨e48, e10, -⟩ := hf
          replace e48 : a.tmps.getD 48 undef = _ := e48
          replace e10 : a.tmps.getD 10 undef = _ := e10
          refine rg_want rfl rfl e48 fun K hK => ?_
          clear e48
          have g0 := hR.cell x0 (by simp)
          have g1 := hR.cell x1 (by simp)
          have g2 := hR.cell x2 (by simp)
          have g3 := hR.cell x3 (by simp)
          have g4 := hR.cell x4 (by simp)
          go_simp
          exact hK _ _ rfl (Only.refl _ _)
        -- 6: s50 := load 41 t5 [if 4=false]
        apply rg_ev
        · intro a w hR hf
          obtain ⟨e48, e5, -⟩ := hf
          replace e48 : a.tmps.getD 48 undef = _ := e48
          replace e5 : a.tmps.getD 5 undef = _ := e5
          refine rg_want rfl rfl e48 fun K hK => ?_
          clear e48
          have g := hR.cell cW (by simp)
          go_simp
          exact hK _ _ rfl (Only.refl _ _)
        -- 7: s51 := load 3 t9 [if 4=false]
        apply rg_ev
        · intro a w hR hf
          obtain ⟨e48, e9, -⟩ := hf
          replace e48 : a.tmps.getD 48 undef = _ := e48
          replace e9 : a.tmps.getD 9 undef = _ := e9
          refine rg_want rfl rfl e48 fun K hK => ?_
          clear e48
          have g := hR.cell cN (by simp)
          go_simp
          exact hK _ _ rfl (Only.refl _ _)
        -- 8: s52 := indexAddr 41 t50 t51 [if 4=false]
        apply rg_ev
        · intro a w hR hf
          obtain ⟨e48, e50, e51, -⟩ := hf
          replace e48 : a.tmps.getD 48 undef = _ := e48
          replace e50 : a.tmps.getD 50 undef = _ := e50
          replace e51 : a.tmps.getD 51 undef = _ := e51
          refine rg_want rfl rfl e48 fun K hK => ?_
          clear e48
          have h := hii
          go_simp
          exact hK _ _ rfl (Only.refl _ _)
        -- 9: s53 := load 61 t52 [if 4=false]
        apply rg_ev
        · intro a w hR hf
          obtain ⟨e48, e52, -⟩ := hf
          replace e48 : a.tmps.getD 48 undef = _ := e48
          replace e52 : a.tmps.getD 52 undef = _ := e52
          refine rg_want rfl rfl e48 fun K hK => ?_
          clear e48
          have g0 := hR.cell y0 (by simp)
          have g1 := hR.cell y1 (by simp)
          have g2 := hR.cell y2 (by simp)
          have g3 := hR.cell y3 (by simp)
          have g4 := hR.cell y4 (by simp)
          go_simp
          exact hK _ _ rfl (Only.refl _ _)
        -- 10: s54 := binOp Binneq 61 t49 t53 61 [if 4=false]
        apply rg_ev
        · intro a w hR hf
          obtain ⟨e48, e49, e53, -⟩ := hf
          replace e48 : a.tmps.getD 48 undef = _ := e48
          replace e49 : a.tmps.getD 49 undef = _ := e49
          replace e53 : a.tmps.getD 53 undef = _ := e53
          refine rg_want rfl rfl e48 fun K hK => ?_
          clear e48
          go_simp
          exact hK _ _ rfl (Only.refl _ _)
        -- 11: s55 := pick t48 (const (Value.bool true)) t54
        apply rg_ev
        · intro a w hR hf
          obtain ⟨e48, e54, -⟩ := hf
          replace e48 : a.tmps.getD 48 undef = _ := e48
          replace e54 : a.tmps.getD 54 undef = _ := e54
          refine rg_plain rfl fun K hK => ?_
          go_simp
          exact hK _ _ rfl (Only.refl _ _)
        intro fR16_1 wR16_1 hRR16_1 hf
        dsimp only [mergeT]
        obtain ⟨e55, -⟩ := hf
        replace e55 : fR16_1 55 = _ := e55
        rw [e55]
        -- R16_1>>
        have HS3 := Lib.hid (HS2.out.step HB1.out.low hRR16_1 (by simp) hlo0)
        have rN3 := HrN2.out.only0 hRR16_1
        have cN3 := rN3.cell (i := 0) rfl
        have fN3 := rN3.free 0
        obtain ⟨w6, hw6⟩ : ∃ w6, w6 = wR16_1.setCell ⟨Y1, 0, none⟩ (.int .i64 ((i : Int) + 1)) := ⟨_, rfl⟩
        have o6 : Only [Y1] wR16_1 w6 := by rw [hw6]; exact Only.setCell _ ⟨_, 0, none⟩ _
        have rN6 : Row w6 Y1 3 [.int .i64 ((i : Int) + 1)] := by rw [hw6]; exact rN3.setCell 0 _
        have hYlo : wA0.heap.size ≤ Y1 := by rw [HYe1.out]; exact Nat.le_refl _
        have hS6 := HS3.out.step HA0.out.low o6 (fun t ht => by obtain rfl := List.mem_singleton.1 ht; exact hYlo) HA0.out.only.size
        have cS6 := hS6.rs.cell (i := 0) rfl
        have cN6 := rN6.cell (i := 0) rfl
        have hOall : Only [Y1] A2 w6 := (hRR16_1.mono (by simp)).trans o6 (fun i hi _ => hi)
        have hsub : ∀ s ∈ [Y1], s ∈ [Y1] ++ [] ∨ A.heap.size ≤ s := fun s hs => .inl (by simpa using hs)
        have hD' : ∀ d ∈ [Y1], (d ∈ [Y1] ++ [] ∨ A.heap.size ≤ d) ∧ d < w6.heap.size := fun d hd => by
          obtain rfl := List.mem_singleton.1 hd
          exact ⟨.inl (by simp), rN6.lt⟩
        have HOall := Lib.hid hOall
        have Hsub := Lib.hid hsub
        have HD' := Lib.hid hD'
        have HS6 := Lib.hid hS6
        have HrN6 := Lib.hid rN6
        have Hw6 := Lib.hid hw6
        rw [hw6] at cS6 cN6
        have hib : i ≤ 128 := by omega
        clear rN3 hw6 o6 rN6 hYlo hS6 hOall hsub hD' cN cW x0 x1 x2 x3 x4 y0 y1 y2 y3 y4 hRR16_1
        by_cases hst : (i : Int) + 1 = stop
        · have hstb : ((i : Int) + 1 == stop) = true := by simp [hst]
          have Hst := Lib.hid hst
          clear hst
          gi_wp2_with fail
          rw [← Hw6.out]
          exact ⟨_, [Y1], HOall.out, Hsub.out, HD'.out, rfl, rfl, by rw [← Hst.out]; exact HrN6.out, HS6.out⟩
        · have hstb : ((i : Int) + 1 == stop) = false := by simp [hst]
          clear hst
          gi_wp2_with fail
          rw [← Hw6.out]
          refine ⟨_, [Y1], HOall.out, Hsub.out, HD'.out, rfl, ?_, HS6.out⟩
          rw [Hlen1.out]
          exact HrN6.out
      case done =>
      rintro D wA1 ⟨v, hv, rfl, rN, hS⟩ hd hk
      have cN := rN.cell (i := 0) rfl
      have cW := hS.rw.cell (i := 0) rfl
      rw [HNe.out] at cW
      have cS := hS.rs.cell (i := 0) rfl
      have hkY : wB1.heap.size < wA1.heap.size := (Array.getElem?_eq_some_iff.1 hk).1
      have HA1 : Hid (EeS w0 wA1 es c1 c2 c3 p' i k' (buck ks) pf dl qW kW Wn R St stop [wB1.heap.size]) := Lib.hid ⟨by
        intro m hm
        rcases List.mem_cons.1 hm with rfl | hm
        · exact hk
        · exact hS.mks m hm, hS.ent, hS.wr, hS.rw, hS.rr, hS.rs, hS.only⟩
      have Hk1 := Lib.hid hk
      have HkY1 := Lib.hid hkY
      clear rN hS hd hk hkY
      go_upto_region 20 with (fail)
      go_cut [69] from 61 to 69 (fun b wx => b = .bool false ∧ wx = wA1)
      case first =>
        rcases hv with rfl | rfl
        · skip
          go_wp2_with fail
          go_meet
          exact ⟨rfl, rfl⟩
        · by_cases hsN : v = (N : Int)
          · have hsb : (v != (N : Int)) = false := by simp [hsN]
            clear hsN
            go_wp2_with fail
            go_meet
            exact ⟨rfl, rfl⟩
          · have hsb : (v != (N : Int)) = true := by simp [hsN]
            clear hsN
            go_wp2_with fail
            go_meet
            exact ⟨rfl, rfl⟩
      case rest =>
      obtain ⟨rfl, hwc⟩ := hcut
      have hwc2 := hwc.symm
      subst hwc2
      clear cN cW cS hv
      go_wp2_with fail
      rw [rounds_succ]
      obtain ⟨wB2, hwB2⟩ : ∃ wB, wB = wA1.alloc (.cells #[.int .i64 0] 3) := ⟨_, rfl⟩
      have oB2 : Only [] wA1 wB2 := by rw [hwB2]; exact Only.alloc _ _
      have rB2 : Row wB2 wA1.heap.size 3 [.int .i64 0] := by rw [hwB2]; exact Row.newOf _ _ _ _ rfl
      have HB2 := Lib.hid (HA1.out.step HA1.out.low oB2 (by simp) HA1.out.only.size)
      have HrB2 := Lib.hid rB2
      have HoB2 := Lib.hid oB2
      have HwB2 := Lib.hid hwB2
      clear oB2 rB2 hwB2
      go_wp2_with fail
      rw [← HwB2.out]
      generalize hYe2 : wA1.heap.size = Y2 at *
      have HYe2 := Lib.hid hYe2
      clear hYe2 HwB2
      refine wp_rangeB (xs := entries pf dl (buck ks)) 4 rfl (enters_of Tryd.func52 (by kernel_rfl) rfl) (entries_seq HB2.out.ent (by omega) (fun o ho => by have := (HBk.out o ho).2; omega) hpl hdl) HB2.out.low.1 (by rintro _ _ _ _ ⟨rfl, -⟩; rfl) (fun _ _ h => h)
        (fun ys D w => D = [Y2] ∧ Row w Y2 3 [.int .i64 (ys.length : Int)] ∧ EeS w0 w es c1 c2 c3 p' i k' (buck ks) pf dl qW kW Wn R St stop [wB1.heap.size])
        (fun ys D w => D = [Y2] ∧ Row w Y2 3 [.int .i64 stop] ∧ EeS w0 w es c1 c2 c3 p' i k' (buck ks) pf dl qW kW Wn R St stop [wB1.heap.size])
        (fun D w => ∃ v : Int, (v = (N : Int) ∨ v = stop) ∧ D = [Y2] ∧ Row w Y2 3 [.int .i64 v] ∧ EeS w0 w es c1 c2 c3 p' i k' (buck ks) pf dl qW kW Wn R St stop [wB1.heap.size]) [Y2] ?hD0 ?hI ?hIx ⟨rfl, HrB2.out, HB2.out⟩ ?round (fun D B ⟨h1, h2, h3⟩ => ⟨_, .inl (by rw [Hes.out, HNe.out]), h1, h2, h3⟩) (fun ys D B ⟨h1, h2, h3⟩ => ⟨_, .inr rfl, h1, h2, h3⟩) ?done
      case hD0 =>
        intro d hd
        obtain rfl := List.mem_singleton.1 hd
        exact ⟨fun hm => by have := HA1.out.low.1 _ hm; rw [HYe2.out] at this; omega, HrB2.out.lt⟩
      case hI =>
        rintro ys D A B T ⟨rfl, h1, h2⟩ ho hT
        exact ⟨rfl, h1.only ho (fun hm => (hT _ hm).1 (by simp)), h2.step HB2.out.low ho (fun t ht => (hT t ht).2) HB2.out.only.size⟩
      case hIx =>
        rintro ys D A B T ⟨rfl, h1, h2⟩ ho hT
        exact ⟨rfl, h1.only ho (fun hm => (hT _ hm).1 (by simp)), h2.step HB2.out.low ho (fun t ht => (hT t ht).2) HB2.out.only.size⟩
      case round =>
        rintro l ys x zs D A vs G hl1 hl2 hDG hG ⟨rfl, rN, hS⟩ hxs ⟨rfl, rfl⟩
        rw [Hes.out] at hxs
        have hlen1 : (ys ++ [x]).length = ys.length + 1 := by rw [List.length_append]; rfl
        generalize hi : ys.length = i at *
        have hix : es[i]? = some x := by rw [hxs, List.getElem?_append_right (by omega), hi, Nat.sub_self]; rfl
        have hys : i < N := by rw [← HNe.out]; exact (List.getElem?_eq_some_iff.1 hix).1
        have HDG := Lib.hid hDG
        have HS := Lib.hid hS
        have HrN := Lib.hid rN
        have Hlen1 := Lib.hid hlen1
        have Hix := Lib.hid hix
        have hlo0 : w0.heap.size ≤ wB2.heap.size := HB2.out.only.size
        obtain ⟨A1, hA1⟩ : ∃ A1, A1 = A.alloc (.cells #[.string (str x.name), .bool x.pre, .int .i64 x.size, .string (str x.etag), .int .i64 x.time] 61) := ⟨_, rfl⟩
        have oA1 : Only [] A A1 := by rw [hA1]; exact Only.alloc _ _
        have rA1 : Row A1 A.heap.size 61 (enCells x) := by rw [hA1]; exact Row.newOf _ _ _ _ rfl
        have HAe := Lib.hid hA1
        have HoA := Lib.hid oA1
        have HrA := Lib.hid rA1
        unfold enV
        clear hS hG hDG hxs rN hi hlen1 hix hA1 oA1 rA1
        gi_wp2_with fail
        rw [← HAe.out]
        refine ⟨HoA.out, fun A2 o2 hs2 => ?_⟩
        have oA2 : Only [l] A A2 := (HoA.out.mono (by simp)).trans o2 (fun i hi _ => hi)
        have hS2 := HS.out.step HB2.out.low oA2 (fun t ht => by obtain rfl := List.mem_singleton.1 ht; omega) hlo0
        have rN2 := HrN.out.only oA2 (fun hm => by
          have h1 := List.mem_singleton.1 hm
          exact (HDG.out Y2 (by simp)).1 h1)
        have rA2 := HrA.out.only o2 (by simp; omega)
        have cN := rN2.cell (i := 0) rfl
        have cW := hS2.rw.cell (i := 0) rfl
        rw [HNe.out] at cW
        have hne : es.flatMap enCells ≠ [] := fun e' => by have := flat_get enCells 5 enCells_len es i x 0 Hix.out (by omega); rw [e'] at this; cases this
        obtain ⟨bw, fw, hqw, -⟩ := hS2.wr.lt hne
        have hwr := hS2.wr
        rw [hqw] at hwr cW
        have y0 := rd_elem enCells_len hwr Hix.out (r := 0) rfl
        have y1 := rd_elem enCells_len hwr Hix.out (r := 1) rfl
        have y2 := rd_elem enCells_len hwr Hix.out (r := 2) rfl
        have y3 := rd_elem enCells_len hwr Hix.out (r := 3) rfl
        have y4 := rd_elem enCells_len hwr Hix.out (r := 4) rfl
        rw [Addr.add_lit, ← Nat.add_assoc] at y0 y1 y2 y3 y4
        rw [Nat.add_zero] at y0
        have x0 := rA2.cell (i := 0) rfl
        have x1 := rA2.cell (i := 1) rfl
        have x2 := rA2.cell (i := 2) rfl
        have x3 := rA2.cell (i := 3) rfl
        have x4 := rA2.cell (i := 4) rfl
        have HS2 := Lib.hid hS2
        have HrN2 := Lib.hid rN2
        have hii : (i : Int) < (N : Int) := by omega
        have Hge : Hid (decide (N ≤ i) = false) := Lib.hid (decide_eq_false (by omega))
        have Hs2 := Lib.hid hs2
        have hAA : A.heap.size < A2.heap.size := rA2.lt
        have HoA2 := Lib.hid oA2
        clear hS2 rN2 rA2 hwr hqw hne o2 oA2 hs2
        gi_wp2_with fail
        -- <<R16_2
        refine wpIn_region_rg2 (Only []) [[(9, none)], [(5, none)], [(45, some 0)], [(44, some 2), (46, some 0)], [(47, some 0)], [(48, some 0), (10, none)], [(48, some 1), (5, none)], [(48, some 2), (9, none)], [(48, some 3), (50, some 1), (51, some 0)], [(48, some 4), (52, some 0)], [(48, some 5), (49, some 4), (53, some 0)], [(48, some 6), (54, some 0)]] [(55, 0)] [none, none, none, none, none, none, none, none, none, none, none, none, none, none, none, none, none, none, none, none, none, none, none, none, none, none, none, none, none, none, none, none, none, none, none, none, none, none, none, none, none, none, none, none, some 44, some 45, some 46, some 47, some 48, some 49, some 50, some 51, some 52, some 53, some 54, some 55, none, none, none, none, none, none, none, none, none, none, none, none, none, none, none] (by kernel_rfl) rfl (by kernel_rfl) (fun _ => Only.refl _ _) (fun _ _ _ h k => h.trans0 k) (Only.drew _) (by kernel_rfl) (by kernel_rfl) ?_
        -- 0: s44 := load 3 t9
        apply rg_ev
        · intro a w hR hf
          obtain ⟨e9, -⟩ := hf
          replace e9 : a.tmps.getD 9 undef = _ := e9
          refine rg_plain rfl fun K hK => ?_
          have g := hR.cell cN (by simp)
          go_simp
          exact hK _ _ rfl (Only.refl _ _)
        -- 1: s45 := load 41 t5
        apply rg_ev
        · intro a w hR hf
          obtain ⟨e5, -⟩ := hf
          replace e5 : a.tmps.getD 5 undef = _ := e5
          refine rg_plain rfl fun K hK => ?_
          have g := hR.cell cW (by simp)
          go_simp
          exact hK _ _ rfl (Only.refl _ _)
        -- 2: s46 := call { builtin len, args := #[t45], #[41] }
        apply rg_ev
        · intro a w hR hf
          obtain ⟨e45, -⟩ := hf
          replace e45 : a.tmps.getD 45 undef = _ := e45
          refine rg_plain rfl fun K hK => ?_
          go_simp
          exact hK _ _ rfl (Only.refl _ _)
        -- 3: s47 := binOp Bingeq 3 t44 t46 3
        apply rg_ev
        · intro a w hR hf
          obtain ⟨e44, e46, -⟩ := hf
          replace e44 : a.tmps.getD 44 undef = _ := e44
          replace e46 : a.tmps.getD 46 undef = _ := e46
          refine rg_plain rfl fun K hK => ?_
          have h := Hge.out
          go_simp
          exact hK _ _ rfl (Only.refl _ _)
        -- 4: s48 := move t47
        apply rg_ev
        · intro a w hR hf
          obtain ⟨e47, -⟩ := hf
          replace e47 : a.tmps.getD 47 undef = _ := e47
          refine rg_plain rfl fun K hK => ?_
          go_simp
          exact hK _ _ rfl (Only.refl _ _)
        -- 5: s49 := load 61 t10 [if 4=false]
        apply rg_ev
        · intro a w hR hf
          obtain ⟨e48, e10, -⟩ := hf
          replace e48 : a.tmps.getD 48 undef = _ := e48
          replace e10 : a.tmps.getD 10 undef = _ := e10
          refine rg_want rfl rfl e48 fun K hK => ?_
          clear e48
          have g0 := hR.cell x0 (by simp)
          have g1 := hR.cell x1 (by simp)
          have g2 := hR.cell x2 (by simp)
          have g3 := hR.cell x3 (by simp)
          have g4 := hR.cell x4 (by simp)
          go_simp
          exact hK _ _ rfl (Only.refl _ _)
        -- 6: s50 := load 41 t5 [if 4=false]
        apply rg_ev
        · intro a w hR hf
          obtain ⟨e48, e5, -⟩ := hf
          replace e48 : a.tmps.getD 48 undef = _ := e48
          replace e5 : a.tmps.getD 5 undef = _ := e5
          refine rg_want rfl rfl e48 fun K hK => ?_
          clear e48
          have g := hR.cell cW (by simp)
          go_simp
          exact hK _ _ rfl (Only.refl _ _)
        -- 7: s51 := load 3 t9 [if 4=false]
        apply rg_ev
        · intro a w hR hf
          obtain ⟨e48, e9, -⟩ := hf
          replace e48 : a.tmps.getD 48 undef = _ := e48
          replace e9 : a.tmps.getD 9 undef = _ := e9
          refine rg_want rfl rfl e48 fun K hK => ?_
          clear e48
          have g := hR.cell cN (by simp)
          go_simp
          exact hK _ _ rfl (Only.refl _ _)
        -- 8: s52 := indexAddr 41 t50 t51 [if 4=false]
        apply rg_ev
        · intro a w hR hf
          obtain ⟨e48, e50, e51, -⟩ := hf
          replace e48 : a.tmps.getD 48 undef = _ := e48
          replace e50 : a.tmps.getD 50 undef = _ := e50
          replace e51 : a.tmps.getD 51 undef = _ := e51
          refine rg_want rfl rfl e48 fun K hK => ?_
          clear e48
          have h := hii
          go_simp
          exact hK _ _ rfl (Only.refl _ _)
        -- 9: s53 := load 61 t52 [if 4=false]
        apply rg_ev
        · intro a w hR hf
          obtain ⟨e48, e52, -⟩ := hf
          replace e48 : a.tmps.getD 48 undef = _ := e48
          replace e52 : a.tmps.getD 52 undef = _ := e52
          refine rg_want rfl rfl e48 fun K hK => ?_
          clear e48
          have g0 := hR.cell y0 (by simp)
          have g1 := hR.cell y1 (by simp)
          have g2 := hR.cell y2 (by simp)
          have g3 := hR.cell y3 (by simp)
          have g4 := hR.cell y4 (by simp)
          go_simp
          exact hK _ _ rfl (Only.refl _ _)
        -- 10: s54 := binOp Binneq 61 t49 t53 61 [if 4=false]
        apply rg_ev
        · intro a w hR hf
          obtain ⟨e48, e49, e53, -⟩ := hf
          replace e48 : a.tmps.getD 48 undef = _ := e48
          replace e49 : a.tmps.getD 49 undef = _ := e49
          replace e53 : a.tmps.getD 53 undef = _ := e53
          refine rg_want rfl rfl e48 fun K hK => ?_
          clear e48
          go_simp
          exact hK _ _ rfl (Only.refl _ _)
        -- 11: s55 := pick t48 (const (Value.bool true)) t54
        apply rg_ev
        · intro a w hR hf
          obtain ⟨e48, e54, -⟩ := hf
          replace e48 : a.tmps.getD 48 undef = _ := e48
          replace e54 : a.tmps.getD 54 undef = _ := e54
          refine rg_plain rfl fun K hK => ?_
          go_simp
          exact hK _ _ rfl (Only.refl _ _)
        intro fR16_2 wR16_2 hRR16_2 hf
        dsimp only [mergeT]
        obtain ⟨e55, -⟩ := hf
        replace e55 : fR16_2 55 = _ := e55
        rw [e55]
        -- R16_2>>
        have HS3 := Lib.hid (HS2.out.step HB2.out.low hRR16_2 (by simp) hlo0)
        have rN3 := HrN2.out.only0 hRR16_2
        have cN3 := rN3.cell (i := 0) rfl
        have fN3 := rN3.free 0
        obtain ⟨w6, hw6⟩ : ∃ w6, w6 = wR16_2.setCell ⟨Y2, 0, none⟩ (.int .i64 ((i : Int) + 1)) := ⟨_, rfl⟩
        have o6 : Only [Y2] wR16_2 w6 := by rw [hw6]; exact Only.setCell _ ⟨_, 0, none⟩ _
        have rN6 : Row w6 Y2 3 [.int .i64 ((i : Int) + 1)] := by rw [hw6]; exact rN3.setCell 0 _
        have hYlo : wA1.heap.size ≤ Y2 := by rw [HYe2.out]; exact Nat.le_refl _
        have hS6 := HS3.out.step HA1.out.low o6 (fun t ht => by obtain rfl := List.mem_singleton.1 ht; exact hYlo) HA1.out.only.size
        have cS6 := hS6.rs.cell (i := 0) rfl
        have cN6 := rN6.cell (i := 0) rfl
        have hOall : Only [Y2] A2 w6 := (hRR16_2.mono (by simp)).trans o6 (fun i hi _ => hi)
        have hsub : ∀ s ∈ [Y2], s ∈ [Y2] ++ [] ∨ A.heap.size ≤ s := fun s hs => .inl (by simpa using hs)
        have hD' : ∀ d ∈ [Y2], (d ∈ [Y2] ++ [] ∨ A.heap.size ≤ d) ∧ d < w6.heap.size := fun d hd => by
          obtain rfl := List.mem_singleton.1 hd
          exact ⟨.inl (by simp), rN6.lt⟩
        have HOall := Lib.hid hOall
        have Hsub := Lib.hid hsub
        have HD' := Lib.hid hD'
        have HS6 := Lib.hid hS6
        have HrN6 := Lib.hid rN6
        have Hw6 := Lib.hid hw6
        rw [hw6] at cS6 cN6
        have hib : i ≤ 128 := by omega
        clear rN3 hw6 o6 rN6 hYlo hS6 hOall hsub hD' cN cW x0 x1 x2 x3 x4 y0 y1 y2 y3 y4 hRR16_2
        by_cases hst : (i : Int) + 1 = stop
        · have hstb : ((i : Int) + 1 == stop) = true := by simp [hst]
          have Hst := Lib.hid hst
          clear hst
          gi_wp2_with fail
          rw [← Hw6.out]
          exact ⟨_, [Y2], HOall.out, Hsub.out, HD'.out, rfl, rfl, by rw [← Hst.out]; exact HrN6.out, HS6.out⟩
        · have hstb : ((i : Int) + 1 == stop) = false := by simp [hst]
          clear hst
          gi_wp2_with fail
          rw [← Hw6.out]
          refine ⟨_, [Y2], HOall.out, Hsub.out, HD'.out, rfl, ?_, HS6.out⟩
          rw [Hlen1.out]
          exact HrN6.out
      case done =>
      rintro D wA2 ⟨v, hv, rfl, rN, hS⟩ hd hk
      have cN := rN.cell (i := 0) rfl
      have cW := hS.rw.cell (i := 0) rfl
      rw [HNe.out] at cW
      have cS := hS.rs.cell (i := 0) rfl
      have hkY : wB2.heap.size < wA2.heap.size := (Array.getElem?_eq_some_iff.1 hk).1
      have HA2 : Hid (EeS w0 wA2 es c1 c2 c3 p' i k' (buck ks) pf dl qW kW Wn R St stop [wB2.heap.size, wB1.heap.size]) := Lib.hid ⟨by
        intro m hm
        rcases List.mem_cons.1 hm with rfl | hm
        · exact hk
        · exact hS.mks m hm, hS.ent, hS.wr, hS.rw, hS.rr, hS.rs, hS.only⟩
      have Hk2 := Lib.hid hk
      have HkY2 := Lib.hid hkY
      clear rN hS hd hk hkY
      go_upto_region 20 with (fail)
      go_cut [69] from 61 to 69 (fun b wx => b = .bool false ∧ wx = wA2)
      case first =>
        rcases hv with rfl | rfl
        · skip
          go_wp2_with fail
          go_meet
          exact ⟨rfl, rfl⟩
        · by_cases hsN : v = (N : Int)
          · have hsb : (v != (N : Int)) = false := by simp [hsN]
            clear hsN
            go_wp2_with fail
            go_meet
            exact ⟨rfl, rfl⟩
          · have hsb : (v != (N : Int)) = true := by simp [hsN]
            clear hsN
            go_wp2_with fail
            go_meet
            exact ⟨rfl, rfl⟩
      case rest =>
      obtain ⟨rfl, hwc⟩ := hcut
      have hwc2 := hwc.symm
      subst hwc2
      clear cN cW cS hv
      go_wp2_with fail
      rw [rounds_succ]
      have cR := HA2.out.rr.cell (i := 0) rfl
      have fR := HA2.out.rr.free 0
      have hlow := HA2.out.low
      have h0R : w0.heap.size ≤ R := by rw [← HRe.out, ← HSt.out]; omega
      obtain ⟨w9, hw9⟩ : ∃ w9, w9 = wA2.setCell ⟨R, 0, none⟩ (.bool true) := ⟨_, rfl⟩
      have o9 : Only [R] wA2 w9 := by rw [hw9]; exact Only.setCell _ ⟨_, 0, none⟩ _
      have hR9 : Row w9 R 4 [.bool true] := by rw [hw9]; exact HA2.out.rr.setCell 0 _
      have m1 := HA2.out.mks wB1.heap.size (by simp)
      have m2 := HA2.out.mks wB2.heap.size (by simp)
      have hRB1 := HB1.out.low.2.2.2.1
      have hRB2 := HB2.out.low.2.2.2.1
      have h12 : wB1.heap.size < wB2.heap.size := by have := HB2.out.low.2.2.2.2.2 wB1.heap.size (by simp); exact this
      have m19 := (o9.block _ (Array.getElem?_eq_some_iff.1 m1).1 (by simp; omega)).trans m1
      have m29 := (o9.block _ (Array.getElem?_eq_some_iff.1 m2).1 (by simp; omega)).trans m2
      have oP1 := Only.putObj w9 wB2.heap.size (.deferred none)
      have oP2 := Only.putObj (w9.putObj wB2.heap.size (.deferred none)) wB1.heap.size (.deferred none)
      have hRf := (hR9.only oP1 (by simp; omega)).only oP2 (by simp; omega)
      have hw01 := HB1.out.only.size
      have hOf : Only [] w0 ((w9.putObj wB2.heap.size (.deferred none)).putObj wB1.heap.size (.deferred none)) := ((HA2.out.only.transN o9 (by simpa using h0R)).transN oP1 (by simp; omega)).transN oP2 (by simp; omega)
      have HRf := Lib.hid hRf
      have HOf := Lib.hid hOf
      have Hw9 := Lib.hid hw9
      have M1 := Lib.hid m19
      have M2 := Lib.hid m29
      clear o9 hR9 m1 m2 m19 m29 oP1 oP2 hRf hOf hw9 hlow h0R
      go_wp2_with fail
      rw [← Hw9.out]
      exact mret2 (by omega) M2.out M1.out (results_cellB rfl _ _ _ true rfl (HRf.out.cell (i := 0) rfl)) ⟨rfl, HOf.out⟩
end Go.Proofs.YtfoplbolbjcggaaDoor
