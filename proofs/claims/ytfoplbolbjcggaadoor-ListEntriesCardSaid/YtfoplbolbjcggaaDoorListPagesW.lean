/- The walk of bollardlaw20.ListPages. -/
import Derived.Test.YtfoplbolbjcggaaDoorListAnsW
import Derived.Test.YtfoplbolbjcggaaDoorAlive20W
import Derived.Test.YtfoplbolbjcggaaDoorBucketW
set_option linter.unusedVariables false
set_option maxRecDepth 100000
namespace Go.Proofs.YtfoplbolbjcggaaDoor
open Go.RowKit

def BkS (os : List Ob) : Value → World → Prop := fun v w => ∃ q m k, v = bkV q m k ∧ os.length = m ∧ (q = none → m = 0 ∧ k = 0) ∧ Rd w q (os.flatMap obCells)
theorem BkS.stable (os : List Ob) : Stable (Only []) (BkS os) := fun _ _ _ ⟨q, m, k, h1, h2, h3, h4⟩ ho => ⟨q, m, k, h1, h2, h3, h4.only0 ho⟩
theorem bkS_own {w : World} {base : Nat} {os : List Ob} {q : Option Addr} {m k : Nat} (hl : os.length = m) (h : OwnK w base 59 5 (.slice q m k) m (os.flatMap obCells)) : BkS os (bkV q m k) w := ⟨q, m, k, rfl, hl, h.view.2.2.2.1, h.view.2.2.1⟩
def RefA (A : Pg × Nat) : Value → World → Prop := fun x w => ∃ v, x = .tuple #[v, .int .i64 (A.2 : Int)] ∧ PgOk A.1 v w
theorem RefA.stable (A : Pg × Nat) : Stable (Only []) (RefA A) := fun _ _ _ ⟨v, h1, h2⟩ ho => ⟨v, h1, h2.only0 ho⟩
def PtrR (base : Nat) (e : TypeId) (vs : List Value) : Value → World → Prop := fun v w => ∃ g, v = .pointer (some ⟨g, 0, none⟩) ∧ base ≤ g ∧ Row w g e vs
theorem PtrR.stable (base : Nat) (e : TypeId) (vs : List Value) : Stable (Only []) (PtrR base e vs) := fun v w w' ⟨g, h1, h2, h3⟩ ho => ⟨g, h1, h2, h3.only0 ho⟩
def PgP (base : Nat) (A : Pg) : Value → World → Prop := fun v w => ∃ g, v = .pointer (some ⟨g, 0, none⟩) ∧ base ≤ g ∧ ∃ q m k, Row w g 43 [.slice q m k, .string (str A.next)] ∧ PgOk A (pgV q m k (str A.next)) w
theorem PgP.stable (base : Nat) (A : Pg) : Stable (Only []) (PgP base A) := fun v w w' ⟨g, h1, h2, q, m, k, h3, h4⟩ ho => ⟨g, h1, h2, q, m, k, h3.only0 ho, h4.only0 ho⟩
/-- a block of few cells is not where entries lie -/
theorem PgOk.set {A : Pg} {v : Value} {w w' : World} (h : PgOk A v w) {g : Nat} {e : TypeId} {vs : List Value} (r : Row w g e vs) (hl : vs.length < 5) (ho : Only [g] w w') : PgOk A v w' := by
  obtain ⟨q, m, k, h1, h2, h3, h4, h5, h6⟩ := h
  refine ⟨q, m, k, h1, h2, h3, h4, ?_, h6⟩
  cases hE : A.ents with
  | nil => exact Rd.nil _ _
  | cons x l =>
    rw [hE] at h5
    refine h5.only ho (fun a ha hm => ?_)
    subst ha
    have hx := rd_elem enCells_len h5 (j := 0) (o := x) rfl (r := 4) rfl
    obtain ⟨b, o, i⟩ := a
    have hi : i = none := by
      rcases h5 with h | ⟨b', o', e', _⟩
      · simp [enCells] at h
      · cases e'; rfl
    subst hi
    have hb : b = g := List.mem_singleton.1 hm
    subst hb
    rw [Addr.add_lit, cell_of_row w b _ _ e (0, 0) r] at hx
    obtain ⟨h7, _⟩ := Array.getElem?_eq_some_iff.1 hx
    simp at h7
    omega
/-- a store into a block of few cells -/
def SetD (base : Nat) (a b : World) : Prop := Below base a b ∧ ∀ A v, PgOk A v a → PgOk A v b
theorem PgOk.stableD {base : Nat} (A : Pg) : Stable (SetD base) (PgOk A) := fun _ _ _ h ho => ho.2 _ _ h
theorem RefA.stableD {base : Nat} (A : Pg × Nat) : Stable (SetD base) (RefA A) := fun _ _ _ ⟨v, h1, h2⟩ ho => ⟨v, h1, ho.2 _ _ h2⟩
set_option maxHeartbeats 8000000 in
theorem listPages_any (p : Option Addr) (ks : List Bs) (n c : Nat) (pf dl tk : Bs) (M : Int) (w0 : World) (hn : ks.length = n) (hnc : n ≤ c) (hb : n ≤ 140737488351232) (hbk : ∀ k ∈ ks, k.length ≤ 140737488351232) (hp : p = none → n = 0 ∧ c = 0) (hx : Rd w0 p (strs ks)) (hpl : pf.length ≤ 140737488351232) (hdl : dl.length ≤ 140737488351232) (htl : tk.length ≤ 140737488351232) (mx : Int) (hmx : w0.cell? ⟨18, 0, none⟩ = some (.int .i64 mx)) (az : List Addr) (hE : ErrAll w0 az) :
    Calls Tryd.prog 5 #[.agg #[.slice p n c, .string (str pf), .string (str dl), .string (str tk), .int .i64 M]] w0 fun e w' => e = .returned (.bool true) ∧ Only [] w0 w' := by
  obtain ⟨w1, hw1⟩ : ∃ w1, w1 = w0.alloc (.cells #[.slice p n c, .string (str pf), .string (str dl), .string (str tk), .int .i64 M] 35) := ⟨_, rfl⟩
  have o1 : Only [] w0 w1 := by rw [hw1]; exact Only.alloc _ _
  have r1 : Row w1 w0.heap.size 35 [.slice p n c, .string (str pf), .string (str dl), .string (str tk), .int .i64 M] := by rw [hw1]; exact Row.newOf _ _ _ _ rfl
  have hal := alive20_any mx w1 (o1.cell hmx (by simp))
  have HO1 := Lib.hid o1
  have HR1 := Lib.hid r1
  have Hw1 := Lib.hid hw1
  have Hbu : Hid (∀ w, Only [] w0 w → Calls Tryd.prog 22 #[.agg #[.slice p n c, .string (str pf), .string (str dl), .string (str tk), .int .i64 M]] w fun e w' => ∃ q m k, e = .returned (bkV q m k) ∧ (buck ks).length = m ∧ OwnK w' w.heap.size 59 5 (.slice q m k) m ((buck ks).flatMap obCells) ∧ Only [] w w') :=
    Lib.hid (fun w ho => bucket_any p ks n c (str pf) (str dl) (str tk) M w hn hnc hb hbk hp (hx.only0 ho))
  have hok := buck_ok ks
  have HBl := Lib.hid hok.len
  have HBs := Lib.hid hok.sorted
  have HBk : Hid (∀ o ∈ buck ks, o.key.length ≤ 4294967280) := Lib.hid (fun o ho => by have := (hok.key ho).2; omega)
  have Hmx := Lib.hid hmx
  have HE := Lib.hid hE
  clear o1 r1 hw1 hok hmx hE hx hbk hn hp
  go_enter Tryd.func5, Tryd.ntmps5
  go_wp2_with fail
  rw [← Hw1.out]
  refine hal.mono ?_
  clear hal Hw1
  rintro e wA ⟨rfl, oA⟩
  have hrA := HR1.out.only0 oA
  have hbA := Hbu.out wA (HO1.out.trans0 oA)
  have k0 := hrA.cell (i := 0) rfl
  have k1 := hrA.cell (i := 1) rfl
  have k2 := hrA.cell (i := 2) rfl
  have k3 := hrA.cell (i := 3) rfl
  have k4 := hrA.cell (i := 4) rfl
  have HOA := Lib.hid (HO1.out.trans0 oA)
  have HRA := Lib.hid hrA
  clear oA hrA
  go_wp2_with fail
  refine hbA.mono ?_
  clear hbA k0 k1 k2 k3 k4
  rintro e wB ⟨q, m, k, rfl, hlB, ownB, oB⟩
  obtain ⟨w2, hw2⟩ : ∃ w2, w2 = wB.alloc (.cells #[.string aaa, .int .i64 0, .int .i64 0, .slice q m k, .slice none 0 0] 39) := ⟨_, rfl⟩
  have o2 : Only [] wB w2 := by rw [hw2]; exact Only.alloc _ _
  have r2 : Row w2 wB.heap.size 39 [.string aaa, .int .i64 0, .int .i64 0, .slice q m k, .slice none 0 0] := by rw [hw2]; exact Row.newOf _ _ _ _ rfl
  have oB2 := oB.trans0 o2
  have hr2 := HRA.out.only0 oB2
  have ho2 := HOA.out.trans0 oB2
  have hpg := page_any aaa 0 0 (.slice none 0 0) rfl q (buck ks) m k pf dl tk M mx w2 hlB (by have := HBl.out; omega) ownB.view.2.2.2.1 (ownB.view.2.2.1.only0 o2) HBs.out HBk.out hpl hdl htl (ho2.cell Hmx.out (by simp)) az (HE.out.only0 ho2)
  have k1 := hr2.cell (i := 1) rfl
  have k2 := hr2.cell (i := 2) rfl
  have k3 := hr2.cell (i := 3) rfl
  have k4 := hr2.cell (i := 4) rfl
  have b0 := r2.cell (i := 0) rfl
  have b1 := r2.cell (i := 1) rfl
  have b2 := r2.cell (i := 2) rfl
  have b3 := r2.cell (i := 3) rfl
  have b4 := r2.cell (i := 4) rfl
  have HO2 := Lib.hid ho2
  have HR2 := Lib.hid hr2
  have Hw2 := Lib.hid hw2
  unfold bkV' at hpg
  unfold bkV
  clear hlB ownB oB o2 r2 oB2 hr2 ho2 hw2
  go_upto_region 4 with (fail)
  rw [← Hw2.out]
  go_wp2_with fail
  refine hpg.mono ?_
  clear hpg k1 k2 k3 k4 b0 b1 b2 b3 b4 Hw2
  rintro e wC ⟨v, er, rfl, hv, hno, oC⟩
  have hv' := hv
  obtain ⟨q1, m1, j1, rfl, -⟩ := hv'
  obtain ⟨w3, hw3⟩ : ∃ w3, w3 = wC.alloc (.cells #[.slice q1 m1 j1, .string (str (pgAns pf dl (buck ks) tk M).1.next)] 43) := ⟨_, rfl⟩
  have o3 : Only [] wC w3 := by rw [hw3]; exact Only.alloc _ _
  have r3 : Row w3 wC.heap.size 43 [.slice q1 m1 j1, .string (str (pgAns pf dl (buck ks) tk M).1.next)] := by rw [hw3]; exact Row.newOf _ _ _ _ rfl
  have HO3 := Lib.hid ((HO2.out.trans0 oC).trans0 o3)
  have HR3k := Lib.hid ((HR2.out.only0 oC).only0 o3)
  have HV := Lib.hid (hv.only0 o3)
  have HR3 := Lib.hid r3
  have Hno := Lib.hid hno
  have Hw3 := Lib.hid hw3
  unfold pgV
  clear hv hno oC o3 r3 hw3 HR2 HO2 HRA HOA HR1
  go_wp2_with fail
  rw [← Hw3.out]
  clear Hw3
  have K0 := Lib.hid (HR3k.out.cell (i := 0) rfl)
  have K1 := Lib.hid (HR3k.out.cell (i := 1) rfl)
  have K2 := Lib.hid (HR3k.out.cell (i := 2) rfl)
  have K3 := Lib.hid (HR3k.out.cell (i := 3) rfl)
  have K4 := Lib.hid (HR3k.out.cell (i := 4) rfl)
  have HB : Hid (∀ w, Only [] w3 w → Calls Tryd.prog 22 #[.agg #[.slice p n c, .string (str pf), .string (str dl), .string (str tk), .int .i64 M]] w fun e w' => ∃ q m k, e = .returned (bkV q m k) ∧ (buck ks).length = m ∧ OwnK w' w.heap.size 59 5 (.slice q m k) m ((buck ks).flatMap obCells) ∧ Only [] w w') := Lib.hid (fun w ho => Hbu.out w (HO3.out.trans0 ho))
  have hRr : ∀ a, Below w3.heap.size a a := fun a => Below.refl _ _
  have hRt : ∀ a b e, Below w3.heap.size a b → Below w3.heap.size b e → Below w3.heap.size a e := fun a b e h h2 => h.trans h2
  have hRd : Below w3.heap.size w3 w3.drew := (Only.drew _).below
  have hRs : ∀ j w, DirtR [(15, SetD w3.heap.size)] j w w := DirtR.refl (by intro x hx w; obtain rfl := List.mem_singleton.1 hx; exact ⟨Below.refl _ _, fun _ _ h => h⟩)
  -- <<R5
  refine wp_region_rg6 (Below w3.heap.size) (DirtR [(15, SetD w3.heap.size)]) [[(1, none)], [(26, some 0)], [(1, none)], [(28, some 0)], [(1, none)], [(30, some 0)], [(1, none)], [(32, some 0)], [(1, none)], [(34, some 0)], [(27, some 8), (29, some 6), (31, some 4), (33, some 2), (35, some 0)], [(36, some 0)], [(25, some 0)], [(25, some 1)], [], [(6, some 0), (37, some 2)], [(38, some 2)]] [(7, 0)] [(6, 1)] [none, none, none, none, none, none, some 6, some 7, none, none, none, none, none, none, none, none, none, none, none, none, none, none, none, none, none, some 25, some 26, some 27, some 28, some 29, some 30, some 31, some 32, some 33, some 34, some 35, some 36, some 37, some 38, none, none, none, none, none, none, none, none, none] (by kernel_rfl) rfl (by kernel_rfl) hRr hRt hRs hRd (by kernel_rfl) ?_
  -- 0: s26 := load 35 t1
  apply rgl_ev rfl
  · intro a w hR hf
    obtain ⟨e1, -⟩ := hf
    replace e1 : a.tmps.getD 1 undef = _ := e1
    refine rg_plain rfl fun K hK => ?_
    have k0 := (Only.ofBelow hR).cell K0.out (by simp)
    have k1 := (Only.ofBelow hR).cell K1.out (by simp)
    have k2 := (Only.ofBelow hR).cell K2.out (by simp)
    have k3 := (Only.ofBelow hR).cell K3.out (by simp)
    have k4 := (Only.ofBelow hR).cell K4.out (by simp)
    go_simp
    exact hK _ _ rfl ⟨hRr _, hRs _ _⟩
  -- 1: s27 := call { value (Operand.func 22), args := #[t26], #[35] }
  refine rgl_at (BkS (buck ks)) (stands5_of (BkS.stable _) (by intro x hx hk; obtain rfl := List.mem_singleton.1 hx; exact Bool.noConfusion (hk.symm.trans (by kernel_rfl : _ = true)))) rfl (fun a w hR hf => ?_) ?_
  · obtain ⟨e26, -⟩ := hf
    replace e26 : a.tmps.getD 26 undef = _ := e26
    refine rg_plain rfl fun K hK => ?_
    go_simp
    (with_reducible refine (HB.out w (Only.ofBelow hR)).mono ?_)
    rintro e w' ⟨q, m, k, rfl, hl, own, ho⟩
    exact hK _ _ (bkS_own hl own) ⟨ho.below.mono hR.size, ho⟩
  -- 2: s28 := fieldAddr 35 t1 1
  apply rgl_ev rfl
  · intro a w hR hf
    obtain ⟨e1, -⟩ := hf
    replace e1 : a.tmps.getD 1 undef = _ := e1
    refine rg_plain rfl fun K hK => ?_
    go_simp
    exact hK _ _ rfl ⟨hRr _, hRs _ _⟩
  -- 3: s29 := load 9 t28
  apply rgl_ev rfl
  · intro a w hR hf
    obtain ⟨e28, -⟩ := hf
    replace e28 : a.tmps.getD 28 undef = _ := e28
    refine rg_plain rfl fun K hK => ?_
    have k1 := (Only.ofBelow hR).cell K1.out (by simp)
    go_simp
    exact hK _ _ rfl ⟨hRr _, hRs _ _⟩
  -- 4: s30 := fieldAddr 35 t1 2
  apply rgl_ev rfl
  · intro a w hR hf
    obtain ⟨e1, -⟩ := hf
    replace e1 : a.tmps.getD 1 undef = _ := e1
    refine rg_plain rfl fun K hK => ?_
    go_simp
    exact hK _ _ rfl ⟨hRr _, hRs _ _⟩
  -- 5: s31 := load 9 t30
  apply rgl_ev rfl
  · intro a w hR hf
    obtain ⟨e30, -⟩ := hf
    replace e30 : a.tmps.getD 30 undef = _ := e30
    refine rg_plain rfl fun K hK => ?_
    have k2 := (Only.ofBelow hR).cell K2.out (by simp)
    go_simp
    exact hK _ _ rfl ⟨hRr _, hRs _ _⟩
  -- 6: s32 := fieldAddr 35 t1 3
  apply rgl_ev rfl
  · intro a w hR hf
    obtain ⟨e1, -⟩ := hf
    replace e1 : a.tmps.getD 1 undef = _ := e1
    refine rg_plain rfl fun K hK => ?_
    go_simp
    exact hK _ _ rfl ⟨hRr _, hRs _ _⟩
  -- 7: s33 := load 9 t32
  apply rgl_ev rfl
  · intro a w hR hf
    obtain ⟨e32, -⟩ := hf
    replace e32 : a.tmps.getD 32 undef = _ := e32
    refine rg_plain rfl fun K hK => ?_
    have k3 := (Only.ofBelow hR).cell K3.out (by simp)
    go_simp
    exact hK _ _ rfl ⟨hRr _, hRs _ _⟩
  -- 8: s34 := fieldAddr 35 t1 4
  apply rgl_ev rfl
  · intro a w hR hf
    obtain ⟨e1, -⟩ := hf
    replace e1 : a.tmps.getD 1 undef = _ := e1
    refine rg_plain rfl fun K hK => ?_
    go_simp
    exact hK _ _ rfl ⟨hRr _, hRs _ _⟩
  -- 9: s35 := load 3 t34
  apply rgl_ev rfl
  · intro a w hR hf
    obtain ⟨e34, -⟩ := hf
    replace e34 : a.tmps.getD 34 undef = _ := e34
    refine rg_plain rfl fun K hK => ?_
    have k4 := (Only.ofBelow hR).cell K4.out (by simp)
    go_simp
    exact hK _ _ rfl ⟨hRr _, hRs _ _⟩
  -- 10: s36 := call { value (Operand.func 24), args := #[t27, t29, t31, t33, t35], #[39, 9, 9, 9, 3] }
  refine rgl_at (RefA (pgAns pf dl (buck ks) tk M)) (stands5_of (RefA.stable _) (by intro x hx _; obtain rfl := List.mem_singleton.1 hx; exact RefA.stableD _)) rfl (fun a w hR hf => ?_) ?_
  · obtain ⟨e27, e29, e31, e33, e35, -⟩ := hf
    replace e27 : BkS (buck ks) (a.tmps.getD 27 undef) w := e27
    replace e29 : a.tmps.getD 29 undef = _ := e29
    replace e31 : a.tmps.getD 31 undef = _ := e31
    replace e33 : a.tmps.getD 33 undef = _ := e33
    replace e35 : a.tmps.getD 35 undef = _ := e35
    refine rg_plain rfl fun K hK => ?_
    obtain ⟨q, m, k, e27, hl, hp, hrd⟩ := e27
    unfold bkV at e27
    have hrp := refPage_any aaa 0 0 (.slice none 0 0) rfl q (buck ks) m k pf dl tk M w hl (by have := HBl.out; omega) hp hrd HBs.out HBk.out hpl hdl htl
    unfold bkV' at hrp
    go_simp
    (with_reducible refine hrp.mono ?_)
    rintro e w' ⟨v, rfl, hv, ho⟩
    exact hK _ _ ⟨v, rfl, hv⟩ ⟨ho.below.mono hR.size, ho⟩
  -- 11: s25 := move t36
  refine rgl_at (RefA (pgAns pf dl (buck ks) tk M)) (stands5_of (RefA.stable _) (by intro x hx _; obtain rfl := List.mem_singleton.1 hx; exact RefA.stableD _)) rfl (fun a w hR hf => ?_) ?_
  · obtain ⟨e36, -⟩ := hf
    replace e36 : RefA (pgAns pf dl (buck ks) tk M) (a.tmps.getD 36 undef) w := e36
    refine rg_plain rfl fun K hK => ?_
    generalize hv36 : a.tmps.getD 36 undef = v36 at e36
    go_simp
    exact hK _ _ e36 ⟨hRr _, hRs _ _⟩
  -- 12: s37 := extract t25 0
  refine rgl_at (PgOk (pgAns pf dl (buck ks) tk M).1) (stands5_of (PgOk.stable _) (by intro x hx _; obtain rfl := List.mem_singleton.1 hx; exact PgOk.stableD _)) rfl (fun a w hR hf => ?_) ?_
  · obtain ⟨e25, -⟩ := hf
    replace e25 : RefA (pgAns pf dl (buck ks) tk M) (a.tmps.getD 25 undef) w := e25
    refine rg_plain rfl fun K hK => ?_
    obtain ⟨v, e25, hv⟩ := e25
    go_simp
    exact hK _ _ hv ⟨hRr _, hRs _ _⟩
  -- 13: s38 := extract t25 1
  apply rgl_ev rfl
  · intro a w hR hf
    obtain ⟨e25, -⟩ := hf
    replace e25 : RefA (pgAns pf dl (buck ks) tk M) (a.tmps.getD 25 undef) w := e25
    refine rg_plain rfl fun K hK => ?_
    obtain ⟨v, e25, hv⟩ := e25
    go_simp
    exact hK _ _ rfl ⟨hRr _, hRs _ _⟩
  -- 14: s6 := alloc 43
  refine rgl_at (PtrR w3.heap.size 43 [.slice none 0 0, .string (str [])]) (stands5_of (PtrR.stable _ _ _) (by intro x hx hk; obtain rfl := List.mem_singleton.1 hx; exact Bool.noConfusion (hk.symm.trans (by kernel_rfl : _ = true)))) rfl (fun a w hR hf => ?_) ?_
  · refine rg_plain rfl fun K hK => ?_
    go_simp
    exact hK _ _ ⟨w.heap.size, rfl, hR.size, Row.newOf _ _ _ _ (by rfl)⟩ ⟨(Only.alloc w _).below.mono hR.size, Only.alloc w _⟩
  -- 15: sNone := store 43 t6 t37
  refine rgl_store (t := 6) (PgP w3.heap.size (pgAns pf dl (buck ks) tk M).1) (stands5_of (PgP.stable _ _) (by intro x hx hk; obtain rfl := List.mem_singleton.1 hx; exact Bool.noConfusion (hk.symm.trans (by kernel_rfl : _ = true)))) rfl (fun a w hR hf => ?_) ?_
  · obtain ⟨e6, e37, -⟩ := hf
    replace e6 : PtrR w3.heap.size 43 [.slice none 0 0, .string (str [])] (a.tmps.getD 6 undef) w := e6
    replace e37 : PgOk (pgAns pf dl (buck ks) tk M).1 (a.tmps.getD 37 undef) w := e37
    refine rg_plain rfl fun K hK => ?_
    obtain ⟨g, e6, hg, r⟩ := e6
    have hv := e37
    obtain ⟨q, m, k, e37, -⟩ := e37
    have hst := r.storeAt (P := Tryd.prog) (ty := 43) (us := [.slice q m k, .string (str (pgAns pf dl (buck ks) tk M).1.next)]) pgInfo rfl (by simp [Value.oneCell'])
    have hrow := r.setRow [.slice q m k, .string (str (pgAns pf dl (buck ks) tk M).1.next)]
    have hv2 := hv.set r (by decide) (Only.setRow w g #[.slice q m k, .string (str (pgAns pf dl (buck ks) tk M).1.next)])
    rw [e37] at hv2
    have hos := (Only.setRow w g #[.slice q m k, .string (str (pgAns pf dl (buck ks) tk M).1.next)]).belowOf hR.size (by intro x hx; obtain rfl := List.mem_singleton.1 hx; exact hg)
    exact rg_store (x := .tmp 6) (y := .tmp 37) rfl e6 e37 hst (show K a _ from hK (a.tmps.getD 6 undef) _ ⟨rfl, g, e6, hg, q, m, k, hrow, hv2⟩ ⟨hos, hos, fun A v h => h.set r (by decide) (Only.setRow w g #[.slice q m k, .string (str (pgAns pf dl (buck ks) tk M).1.next)])⟩)
  -- 16: s7 := assign t38
  apply rgl_ev rfl
  · intro a w hR hf
    obtain ⟨e38, -⟩ := hf
    replace e38 : a.tmps.getD 38 undef = _ := e38
    refine rg_plain rfl fun K hK => ?_
    go_simp
    exact hK _ _ rfl ⟨hRr _, hRs _ _⟩
  intro fR5 wR5 hRR5 hf hlR5
  dsimp only [mergeT]
  obtain ⟨e7, -⟩ := hf
  replace e7 : fR5 7 = _ := e7
  rw [e7]
  obtain ⟨l6, -⟩ := hlR5
  replace l6 : PgP w3.heap.size (pgAns pf dl (buck ks) tk M).1 (fR5 6) wR5 := l6
  -- R5>>
  obtain ⟨g, e6, hg, q2, m2, j2, hrow, hv2⟩ := l6
  rw [e6]
  have ho5 := HO3.out.trans0 (Only.ofBelow hRR5)
  have hp4 := HR3.out.only0 (Only.ofBelow hRR5)
  have p0 := hp4.cell (i := 0) rfl
  have p1 := hp4.cell (i := 1) rfl
  have q0 := hrow.cell (i := 0) rfl
  have q1' := hrow.cell (i := 1) rfl
  have hsm := samePg_any (pgAns pf dl (buck ks) tk M).1 _ _ wR5 (HV.out.only0 (Only.ofBelow hRR5)) hv2
  have HO5 := Lib.hid ho5
  unfold pgV at hsm
  clear hRr hRt hRd hRs hRR5 hp4 hrow hv2 e6 ho5
  go_wp2_with fail
  refine hsm.mono ?_
  clear hsm p0 p1 q0 q1'
  rintro e w6 ⟨rfl, o6⟩
  have hnu := numOf_any w6 az er _ (HE.out.only0 (HO5.out.trans0 o6)) Hno.out
  have HO6 := Lib.hid (HO5.out.trans0 o6)
  clear o6
  go_wp2_with fail
  refine hnu.mono ?_
  clear hnu
  rintro e w7 ⟨rfl, o7⟩
  have HO7 := Lib.hid (HO6.out.trans0 o7)
  clear o7
  go_wp2_with fail
  go_ret
  exact ⟨rfl, HO7.out⟩
end Go.Proofs.YtfoplbolbjcggaaDoor
