/- The walk of bollardlaw20.ListCovers. -/
import Derived.Test.YtfoplbolbjcggaaDoorListCover
import Derived.Test.YtfoplbolbjcggaaDoorListPagesW
import Derived.Test.YtfoplbolbjcggaaDoorCommonW
import Derived.Test.YtfoplbolbjcggaaDoorRegionIn
import Derived.WalkMore
import Derived.Laws.StructEq
set_option linter.unusedVariables false
set_option maxRecDepth 100000
namespace Go.Proofs.YtfoplbolbjcggaaDoor
open Go.RowKit Go.Shelf
attribute [local go_sem] Oper.semAt_some

theorem results_cellB {fn : Func} {a : Tmp} (h : fn.results = #[.cell a 4]) (tmps : Array Value) (w : World) (g : Nat) (b : Bool) (ht : tmps.getD a undef = .pointer (some ⟨g, 0, none⟩)) (hc : w.cell? ⟨g, 0, none⟩ = some (.bool b)) :
    (results fn tmps).run Tryd.prog w = .ok (.bool b) w := by
  rw [Array.getD_eq_getD_getElem?] at ht
  simp [results, h, ht, hc, go_sem]
/-- while the entries are gathered -/
structure CvI (w0 : World) (X BB WB : Nat) (kc bc : List Value) (qo : Option Addr) (os : List Ob) (zs : List En) (q : Option Addr) (m k : Nat) (w : World) : Prop where
  rx : Row w X 41 [.slice q m k]
  own : OwnK w BB 61 5 (.slice q m k) m (zs.flatMap enCells)
  len : zs.length = m
  ne : X ∉ blk q
  rk : Row w w0.heap.size 35 kc
  rb : Row w (w0.heap.size + 1) 4 [.bool false]
  bk : Row w WB 39 bc
  rd : Rd w qo (os.flatMap obCells)
  only : Only [] w0 w
theorem CvI.step {w0 w w' : World} {X BB WB : Nat} {kc bc : List Value} {qo : Option Addr} {os : List Ob} {zs : List En} {q : Option Addr} {m k : Nat} (h : CvI w0 X BB WB kc bc qo os zs q m k w) (ho : Only [] w w') : CvI w0 X BB WB kc bc qo os zs q m k w' :=
  ⟨h.rx.only0 ho, h.own.only0 ho, h.len, h.ne, h.rk.only0 ho, h.rb.only0 ho, h.bk.only0 ho, h.rd.only0 ho, h.only.trans0 ho⟩
set_option maxHeartbeats 16000000 in
theorem listCovers_any (p : Option Addr) (ks : List Bs) (n c : Nat) (pf dl tk : Bs) (M : Int) (w0 : World) (hn : ks.length = n) (hnc : n ≤ c) (hb : n ≤ 140737488351232) (hbk : ∀ k ∈ ks, k.length ≤ 140737488351232) (hp : p = none → n = 0 ∧ c = 0) (hx : Rd w0 p (strs ks)) (hpl : pf.length ≤ 140737488351232) (hdl : dl.length ≤ 140737488351232) (htl : tk.length ≤ 140737488351232) (mx : Int) (hmx : w0.cell? ⟨18, 0, none⟩ = some (.int .i64 mx)) :
    Calls Tryd.prog 8 #[.agg #[.slice p n c, .string (str pf), .string (str dl), .string (str tk), .int .i64 M]] w0 fun e w' => e = .returned (.bool true) ∧ Only [] w0 w' := by
  obtain ⟨w1, hw1⟩ : ∃ w1, w1 = w0.alloc (.cells #[.slice p n c, .string (str pf), .string (str dl), .string (str tk), .int .i64 M] 35) := ⟨_, rfl⟩
  obtain ⟨wi, hwi⟩ : ∃ wi, wi = w1.alloc (.cells #[.bool false] 4) := ⟨_, rfl⟩
  have o1a : Only [] w0 w1 := by rw [hw1]; exact Only.alloc _ _
  have oi : Only [] w1 wi := by rw [hwi]; exact Only.alloc _ _
  have s1 : w1.heap.size = w0.heap.size + 1 := by rw [hw1]; simp
  have ri : Row wi (w0.heap.size + 1) 4 [.bool false] := by rw [← s1, hwi]; exact Row.newOf _ _ _ _ rfl
  have o1 : Only [] w0 wi := o1a.trans0 oi
  have r1a : Row w1 w0.heap.size 35 [.slice p n c, .string (str pf), .string (str dl), .string (str tk), .int .i64 M] := by rw [hw1]; exact Row.newOf _ _ _ _ rfl
  have r1 := r1a.only0 oi
  have hal := alive20_any mx wi (o1.cell hmx (by simp))
  have HO1 := Lib.hid o1
  have HR1 := Lib.hid r1
  have Hw1 := Lib.hid hw1
  have Hwi := Lib.hid hwi
  have HRi := Lib.hid ri
  have Hbu : Hid (∀ w, Only [] w0 w → Calls Tryd.prog 22 #[.agg #[.slice p n c, .string (str pf), .string (str dl), .string (str tk), .int .i64 M]] w fun e w' => ∃ q m k, e = .returned (bkV q m k) ∧ (buck ks).length = m ∧ OwnK w' w.heap.size 59 5 (.slice q m k) m ((buck ks).flatMap obCells) ∧ Only [] w w') :=
    Lib.hid (fun w ho => bucket_any p ks n c (str pf) (str dl) (str tk) M w hn hnc hb hbk hp (hx.only0 ho))
  have hok := buck_ok ks
  have HBl := Lib.hid hok.len
  have HBs := Lib.hid hok.sorted
  have HBk : Hid (∀ o ∈ buck ks, o.key ≠ [] ∧ o.key.length ≤ 200) := Lib.hid (fun o ho => hok.key ho)
  have Hmx := Lib.hid hmx
  clear o1 r1 hw1 hwi o1a oi s1 ri r1a hok hmx hx hbk hn hp
  refine calls_of_marks Tryd.func8 rfl ?_
  simp only [Tryd.ntmps8, List.size_toArray, List.length_cons, List.length_nil, Nat.reduceAdd, Nat.reduceSub, Array.replicate_succ, Array.replicate_zero, List.push_toArray, List.append_toArray, List.nil_append, List.cons_append]
  go_wp2_with fail
  rw [← Hw1.out, ← Hwi.out]
  refine hal.mono ?_
  clear hal Hw1 Hwi
  rintro e wA ⟨rfl, oA⟩
  have hrA := HR1.out.only0 oA
  have hbA := Hbu.out wA (HO1.out.trans0 oA)
  have k0 := hrA.cell (i := 0) rfl
  have k1 := hrA.cell (i := 1) rfl
  have k2 := hrA.cell (i := 2) rfl
  have k3 := hrA.cell (i := 3) rfl
  have k4 := hrA.cell (i := 4) rfl
  have HOA := Lib.hid (HO1.out.trans0 oA)
  have HRA := Lib.hid hrA
  have HIA := Lib.hid (HRi.out.only0 oA)
  clear oA hrA
  go_wp2_with fail
  refine hbA.mono ?_
  clear hbA k0 k1 k2 k3 k4
  rintro e wB ⟨qo, mo, ko, rfl, hlB, ownB, oB⟩
  obtain ⟨w2, hw2⟩ : ∃ w2, w2 = wB.alloc (.cells #[.string aaa, .int .i64 0, .int .i64 0, .slice qo mo ko, .slice none 0 0] 39) := ⟨_, rfl⟩
  have o2 : Only [] wB w2 := by rw [hw2]; exact Only.alloc _ _
  have r2 : Row w2 wB.heap.size 39 [.string aaa, .int .i64 0, .int .i64 0, .slice qo mo ko, .slice none 0 0] := by rw [hw2]; exact Row.newOf _ _ _ _ rfl
  have oB2 := oB.trans0 o2
  have hr2 := HRA.out.only0 oB2
  have ho2 := HOA.out.trans0 oB2
  obtain ⟨w3, hw3⟩ : ∃ w3, w3 = w2.alloc (.cells #[] 61) := ⟨_, rfl⟩
  obtain ⟨w4, hw4⟩ : ∃ w4, w4 = w3.alloc (.cells #[.slice (some ⟨wB.heap.size + 1, 0, none⟩) 0 0] 41) := ⟨_, rfl⟩
  have s2 : w2.heap.size = wB.heap.size + 1 := by rw [hw2]; simp
  have o3 : Only [] w2 w3 := by rw [hw3]; exact Only.alloc _ _
  have o4 : Only [] w3 w4 := by rw [hw4]; exact Only.alloc _ _
  have s3 : w3.heap.size = w2.heap.size + 1 := by rw [hw3]; simp
  have s4 : w4.heap.size = w2.heap.size + 1 + 1 := by rw [hw4]; simp [s3]
  have r4 : Row w4 (w2.heap.size + 1) 41 [.slice (some ⟨w2.heap.size, 0, none⟩) 0 0] := by rw [← s3, hw4, s2]; exact Row.newOf _ _ _ _ rfl
  have ow3 : OwnK w3 w2.heap.size 61 5 (.slice (some ⟨w2.heap.size, 0, none⟩) 0 0) 0 [] := by rw [hw3]; exact OwnK.new (K := 5) (n := 0) [] (Nat.le_refl _) rfl (by omega)
  have o24 := o3.trans0 o4
  have vB := (ownB.only0 o2).view
  have hqb : ∀ a, qo = some a → a.block < w2.heap.size := fun a ha => (vB.2.2.2.2.2.2 a.block (by rw [ha]; simp [blk])).2
  have hI0 : CvI w0 (w2.heap.size + 1) w2.heap.size wB.heap.size [.slice p n c, .string (str pf), .string (str dl), .string (str tk), .int .i64 M] [.string aaa, .int .i64 0, .int .i64 0, .slice qo mo ko, .slice none 0 0] qo (buck ks) [] (some ⟨w2.heap.size, 0, none⟩) 0 0 w4 :=
    ⟨r4, ow3.only0 o4, rfl, by simp [blk], hr2.only0 o24, (HIA.out.only0 oB2).only0 o24, r2.only0 o24, vB.2.2.1.only0 o24, ho2.trans0 o24⟩
  have hen := entries_any aaa 0 0 (.slice none 0 0) rfl qo (buck ks) mo ko pf dl mx w4 hlB (by have := HBl.out; omega) vB.2.2.2.1 hI0.rd ((ho2.trans0 o24).cell Hmx.out (by simp))
  have k1 := hI0.rk.cell (i := 1) rfl
  have k2 := hI0.rk.cell (i := 2) rfl
  have b0 := hI0.bk.cell (i := 0) rfl
  have b1 := hI0.bk.cell (i := 1) rfl
  have b2 := hI0.bk.cell (i := 2) rfl
  have b3 := hI0.bk.cell (i := 3) rfl
  have b4 := hI0.bk.cell (i := 4) rfl
  have HI0 := Lib.hid hI0
  have Hqb := Lib.hid hqb
  have HlB := Lib.hid hlB
  have Hs4 := Lib.hid s4
  have Hs2 := Lib.hid s2
  have HWB : Hid (w0.heap.size + 1 < wB.heap.size ∧ wB.heap.size < w2.heap.size) := Lib.hid ⟨Nat.lt_of_lt_of_le HIA.out.lt oB.size, r2.lt⟩
  have Hw2 := Lib.hid hw2
  have Hw3 := Lib.hid hw3
  have Hw4 := Lib.hid hw4
  unfold bkV' at hen
  unfold bkV
  clear hlB ownB oB o2 r2 oB2 hr2 ho2 hw2 hw3 hw4 o3 o4 s2 s3 s4 r4 ow3 o24 vB hqb hI0 HOA HRA HR1 HIA HRi HO1
  go_upto_region 5 with (fail)
  rw [← Hw2.out, ← Hw3.out, ← Hw4.out, ← Hs2.out]
  go_wp2_with fail
  refine hen.mono ?_
  clear hen k1 k2 b0 b1 b2 b3 b4 Hw2 Hw3 Hw4
  rintro e we ⟨c1, c2, c3, p', k', rfl, hEA, oe, hlo⟩
  have Hcl := Lib.hid hlo
  have Hseq := Lib.hid (entries_seq hEA (by have h1 := HBl.out; have h2 := HlB.out; omega) (fun o ho => by have := (HBk.out o ho).2; omega) hpl hdl)
  have Hcap := Lib.hid hEA.lt
  have HP1 := Lib.hid (HI0.out.step oe)
  have Hxe : Hid (w4.heap.size ≤ we.heap.size) := Lib.hid oe.size
  unfold entF
  have HMg : Hid (18 < w0.heap.size) := Lib.hid (World.block_lt_of_cell? w0 _ Hmx.out)
  clear hEA oe HI0 hlo
  go_wp2_with fail
  obtain ⟨kc, hkc⟩ : ∃ kc : List Value, kc = [.slice p n c, .string (str pf), .string (str dl), .string (str tk), .int .i64 M] := ⟨_, rfl⟩
  obtain ⟨bc, hbc⟩ : ∃ bc : List Value, bc = [.string aaa, .int .i64 0, .int .i64 0, .slice qo mo ko, .slice none 0 0] := ⟨_, rfl⟩
  have HP2 := HP1.out
  rw [← hkc, ← hbc] at HP2
  have HP := Lib.hid HP2
  have Hkc := Lib.hid hkc
  have Hbc := Lib.hid hbc
  clear HP1 HP2 hkc hbc
  have Hst : Hid (∀ zs q m k A B T, CvI w0 (w2.heap.size + 1) w2.heap.size wB.heap.size kc bc qo (buck ks) zs q m k A → Only T A B → (∀ t ∈ T, t ∉ (w2.heap.size + 1) :: blk q ∧ we.heap.size ≤ t) → CvI w0 (w2.heap.size + 1) w2.heap.size wB.heap.size kc bc qo (buck ks) zs q m k B) := Lib.hid (fun zs q m k A B T h ho hT => by
    have hge : ∀ t ∈ T, we.heap.size ≤ t := fun t ht => (hT t ht).2
    have h4 := Hs4.out
    have hxe := Hxe.out
    obtain ⟨hw1, hw2⟩ := HWB.out
    refine ⟨h.rx.only ho (fun hm => (hT _ hm).1 (by simp)), h.own.only ho (fun x hx hm => (hT x hm).1 (by have := ownBlkF hx; simp [this])), h.len, h.ne, h.rk.only ho (fun hm => by have := hge _ hm; omega), h.rb.only ho (fun hm => by have := hge _ hm; omega), h.bk.only ho (fun hm => by have := hge _ hm; omega), h.rd.only ho (fun a ha hm => by have := hge _ hm; have := Hqb.out a ha; omega), h.only.transN ho (fun t ht => by have := hge t ht; omega)⟩)
  refine wp_rangeD (xs := entries pf dl (buck ks)) rfl (enters_of Tryd.func52 (by kernel_rfl) rfl) Hseq.out Hcap.out (by rintro _ _ _ _ ⟨rfl, -⟩; rfl)
    (fun zs D w => ∃ q m k, D = (w2.heap.size + 1) :: blk q ∧ CvI w0 (w2.heap.size + 1) w2.heap.size wB.heap.size kc bc qo (buck ks) zs q m k w)
    (fun _ _ _ _ => False)
    ((w2.heap.size + 1) :: blk (some ⟨w2.heap.size, 0, none⟩)) ?hD0 ?hI (by rintro cd zs D A B T h; exact h.elim) ⟨_, 0, 0, rfl, HP.out⟩ ?round ?done (by rintro cd zs D B h; exact h.elim)
  case hD0 =>
    intro d hd
    have h4 := Hs4.out
    have hxe := Hxe.out
    have h3 := HMg.out
    obtain ⟨hw1, hw2⟩ := HWB.out
    have hd' : d = w2.heap.size + 1 ∨ d = w2.heap.size := by
      rcases List.mem_cons.1 hd with h | h
      · exact .inl h
      · simp [blk] at h; exact .inr h
    refine ⟨fun hm => ?_, by omega⟩
    rcases List.mem_cons.1 hm with e | hm
    · omega
    · have := Hcl.out _ hm; omega
  case hI =>
    rintro zs D A B T ⟨q, m, k, rfl, h⟩ ho hT
    exact ⟨q, m, k, rfl, Hst.out _ _ _ _ _ _ _ h ho hT⟩
  case round =>
    rintro l zs x ts D A vs G hl1 hl2 hDG hG ⟨q, m, k, rfl, hI⟩ hxs ⟨rfl, rfl⟩
    have Hxs := Lib.hid hxs
    have HDG := Lib.hid hDG
    have HI := Lib.hid hI
    obtain ⟨A1, hA1⟩ : ∃ A1, A1 = A.alloc (.cells #[.string (str x.name), .bool x.pre, .int .i64 x.size, .string (str x.etag), .int .i64 x.time] 61) := ⟨_, rfl⟩
    have oA1 : Only [] A A1 := by rw [hA1]; exact Only.alloc _ _
    have rA1 : Row A1 A.heap.size 61 (enCells x) := by rw [hA1]; exact Row.newOf _ _ _ _ rfl
    have HA1 := Lib.hid hA1
    have HoA := Lib.hid oA1
    have HrA := Lib.hid rA1
    unfold enV
    clear hxs hDG hG hI hA1 oA1 rA1
    gi_wp2_with fail
    rw [← HA1.out]
    refine ⟨HoA.out, fun A2 o2 hs2 => ?_⟩
    have oA2 : Only [l] A A2 := (HoA.out.mono (by simp)).trans o2 (fun i hi _ => hi)
    have HI2 := Lib.hid (Hst.out _ _ _ _ _ _ _ HI.out oA2 (fun t ht => by obtain rfl := List.mem_singleton.1 ht; exact ⟨fun hm => (HDG.out _ (List.mem_append_left _ hm)).1 rfl, by omega⟩))
    have HrA2 := Lib.hid (HrA.out.only o2 (by simp; omega))
    have hA2 : A.heap.size < A2.heap.size := HrA2.out.lt
    have HDl : Hid (∀ d ∈ (w2.heap.size + 1) :: blk q, d < A.heap.size) := Lib.hid (fun d hd => (HDG.out d (List.mem_append_left _ hd)).2)
    have HcX := Lib.hid (HI2.out.rx.cell (i := 0) rfl)
    have hlen : zs.length + 1 + ts.length ≤ 128 := by
      have h1 := entries_len pf dl (buck ks)
      have h2 := HBl.out
      rw [Hxs.out] at h1
      simp at h1
      omega
    have hml : m ≤ 127 := by rw [← HI2.out.len]; omega
    clear o2 hlen
    gi_wp2_with fail
    by_cases hm0 : m = 0
    · subst hm0
      -- <<R7A
      refine wpIn_region_rg2 (Only []) [[(4, none)], [(24, some 0)], [(25, some 0)], [(26, some 0)], [(27, some 0), (4, none)], [(27, some 1), (4, none)], [(27, some 2), (29, some 0)], [(27, some 3), (30, some 0)], [(27, some 4), (28, some 3), (31, some 0)], [(27, some 5), (32, some 0)], [(27, some 6), (33, some 0)], [(27, some 7), (5, none)], [(27, some 8), (35, some 0)], [(27, some 9), (34, some 2), (36, some 0)], [(27, some 10), (37, some 0)], [(38, some 0)], [(39, some 0), (4, none)], [(39, some 1), (40, some 0)], [(39, some 2), (41, some 0)], [(39, some 3), (42, some 0)]] [(43, 0)] [none, none, none, none, none, none, none, none, none, none, none, none, none, none, none, none, none, none, none, none, none, none, none, none, some 24, some 25, some 26, some 27, some 28, some 29, some 30, some 31, some 32, some 33, some 34, some 35, some 36, some 37, some 38, some 39, some 40, some 41, some 42, some 43, none, none, none, none, none, none, none, none, none, none, none, none, none, none, none, none, none, none, none, none, none, none, none, none, none, none, none, none, none, none, none, none, none, none, none, none, none, none, none, none, none, none, none, none, none, none, none, none, none, none, none, none, none, none, none, none, none, none, none, none, none, none, none, none, none, none, none, none, none, none, none, none, none, none, none, none, none, none, none, none, none, none, none, none, none, none, none, none, none, none, none, none, none, none, none, none, none, none, none, none] (by kernel_rfl) rfl (by kernel_rfl) (fun _ => Only.refl _ _) (fun _ _ _ h k => h.trans0 k) (Only.drew _) (by kernel_rfl) (by kernel_rfl) ?_
      -- 0: s24 := load 41 t4
      apply rg_ev
      · intro a w hR hf
        obtain ⟨e4, -⟩ := hf
        replace e4 : a.tmps.getD 4 undef = _ := e4
        refine rg_plain rfl fun K hK => ?_
        have g := hR.cell HcX.out (by simp)
        go_simp
        exact hK _ _ rfl (Only.refl _ _)
      -- 1: s25 := call { builtin len, args := #[t24], #[41] }
      apply rg_ev
      · intro a w hR hf
        obtain ⟨e24, -⟩ := hf
        replace e24 : a.tmps.getD 24 undef = _ := e24
        refine rg_plain rfl fun K hK => ?_
        go_simp
        exact hK _ _ rfl (Only.refl _ _)
      -- 2: s26 := binOp Bingtr 3 t25 (const (0:i64)) 3
      apply rg_ev
      · intro a w hR hf
        obtain ⟨e25, -⟩ := hf
        replace e25 : a.tmps.getD 25 undef = _ := e25
        refine rg_plain rfl fun K hK => ?_
        go_simp
        exact hK _ _ rfl (Only.refl _ _)
      -- 3: s27 := move t26
      apply rg_ev
      · intro a w hR hf
        obtain ⟨e26, -⟩ := hf
        replace e26 : a.tmps.getD 26 undef = _ := e26
        refine rg_plain rfl fun K hK => ?_
        go_simp
        exact hK _ _ rfl (Only.refl _ _)
      -- 4: s28 := load 41 t4 [if 3=true]
      apply rg_ev
      · intro a w hR hf
        obtain ⟨e27, e4, -⟩ := hf
        replace e27 : a.tmps.getD 27 undef = _ := e27
        replace e4 : a.tmps.getD 4 undef = _ := e4
        exact rg_skip rfl rfl e27 rfl
      -- 5: s29 := load 41 t4 [if 3=true]
      apply rg_ev
      · intro a w hR hf
        obtain ⟨e27, e4, -⟩ := hf
        replace e27 : a.tmps.getD 27 undef = _ := e27
        replace e4 : a.tmps.getD 4 undef = _ := e4
        exact rg_skip rfl rfl e27 rfl
      -- 6: s30 := call { builtin len, args := #[t29], #[41] } [if 3=true]
      apply rg_ev
      · intro a w hR hf
        obtain ⟨e27, e29, -⟩ := hf
        replace e27 : a.tmps.getD 27 undef = _ := e27
        replace e29 : a.tmps.getD 29 undef = _ := e29
        exact rg_skip rfl rfl e27 rfl
      -- 7: s31 := binOp Binsub 3 t30 (const (1:i64)) 3 [if 3=true]
      apply rg_ev
      · intro a w hR hf
        obtain ⟨e27, e30, -⟩ := hf
        replace e27 : a.tmps.getD 27 undef = _ := e27
        replace e30 : a.tmps.getD 30 undef = _ := e30
        exact rg_skip rfl rfl e27 rfl
      -- 8: s32 := indexAddr 41 t28 t31 [if 3=true]
      apply rg_ev
      · intro a w hR hf
        obtain ⟨e27, e28, e31, -⟩ := hf
        replace e27 : a.tmps.getD 27 undef = _ := e27
        replace e28 : a.tmps.getD 28 undef = _ := e28
        replace e31 : a.tmps.getD 31 undef = _ := e31
        exact rg_skip rfl rfl e27 rfl
      -- 9: s33 := fieldAddr 61 t32 0 [if 3=true]
      apply rg_ev
      · intro a w hR hf
        obtain ⟨e27, e32, -⟩ := hf
        replace e27 : a.tmps.getD 27 undef = _ := e27
        replace e32 : a.tmps.getD 32 undef = _ := e32
        exact rg_skip rfl rfl e27 rfl
      -- 10: s34 := load 9 t33 [if 3=true]
      apply rg_ev
      · intro a w hR hf
        obtain ⟨e27, e33, -⟩ := hf
        replace e27 : a.tmps.getD 27 undef = _ := e27
        replace e33 : a.tmps.getD 33 undef = _ := e33
        exact rg_skip rfl rfl e27 rfl
      -- 11: s35 := fieldAddr 61 t5 0 [if 3=true]
      apply rg_ev
      · intro a w hR hf
        obtain ⟨e27, e5, -⟩ := hf
        replace e27 : a.tmps.getD 27 undef = _ := e27
        replace e5 : a.tmps.getD 5 undef = _ := e5
        exact rg_skip rfl rfl e27 rfl
      -- 12: s36 := load 9 t35 [if 3=true]
      apply rg_ev
      · intro a w hR hf
        obtain ⟨e27, e35, -⟩ := hf
        replace e27 : a.tmps.getD 27 undef = _ := e27
        replace e35 : a.tmps.getD 35 undef = _ := e35
        exact rg_skip rfl rfl e27 rfl
      -- 13: s37 := binOp Bingeq 9 t34 t36 9 [if 3=true]
      apply rg_ev
      · intro a w hR hf
        obtain ⟨e27, e34, e36, -⟩ := hf
        replace e27 : a.tmps.getD 27 undef = _ := e27
        replace e34 : a.tmps.getD 34 undef = _ := e34
        replace e36 : a.tmps.getD 36 undef = _ := e36
        exact rg_skip rfl rfl e27 rfl
      -- 14: s38 := pick t27 t37 (const (Value.bool false))
      apply rg_ev
      · intro a w hR hf
        obtain ⟨e27, e37, -⟩ := hf
        replace e27 : a.tmps.getD 27 undef = _ := e27
        replace e37 : a.tmps.getD 37 undef = _ := e37
        refine rg_plain rfl fun K hK => ?_
        go_simp
        exact hK _ _ rfl (Only.refl _ _)
      -- 15: s39 := move t38
      apply rg_ev
      · intro a w hR hf
        obtain ⟨e38, -⟩ := hf
        replace e38 : a.tmps.getD 38 undef = _ := e38
        refine rg_plain rfl fun K hK => ?_
        go_simp
        exact hK _ _ rfl (Only.refl _ _)
      -- 16: s40 := load 41 t4 [if 15=false]
      apply rg_ev
      · intro a w hR hf
        obtain ⟨e39, e4, -⟩ := hf
        replace e39 : a.tmps.getD 39 undef = _ := e39
        replace e4 : a.tmps.getD 4 undef = _ := e4
        refine rg_want rfl rfl e39 fun K hK => ?_
        clear e39
        have g := hR.cell HcX.out (by simp)
        go_simp
        exact hK _ _ rfl (Only.refl _ _)
      -- 17: s41 := call { builtin len, args := #[t40], #[41] } [if 15=false]
      apply rg_ev
      · intro a w hR hf
        obtain ⟨e39, e40, -⟩ := hf
        replace e39 : a.tmps.getD 39 undef = _ := e39
        replace e40 : a.tmps.getD 40 undef = _ := e40
        refine rg_want rfl rfl e39 fun K hK => ?_
        clear e39
        go_simp
        exact hK _ _ rfl (Only.refl _ _)
      -- 18: s42 := binOp Bingtr 3 t41 (const (200:i64)) 3 [if 15=false]
      apply rg_ev
      · intro a w hR hf
        obtain ⟨e39, e41, -⟩ := hf
        replace e39 : a.tmps.getD 39 undef = _ := e39
        replace e41 : a.tmps.getD 41 undef = _ := e41
        refine rg_want rfl rfl e39 fun K hK => ?_
        clear e39
        go_simp
        exact hK _ _ rfl (Only.refl _ _)
      -- 19: s43 := pick t39 (const (Value.bool true)) t42
      apply rg_ev
      · intro a w hR hf
        obtain ⟨e39, e42, -⟩ := hf
        replace e39 : a.tmps.getD 39 undef = _ := e39
        replace e42 : a.tmps.getD 42 undef = _ := e42
        refine rg_plain rfl fun K hK => ?_
        go_simp
        exact hK _ _ rfl (Only.refl _ _)
      intro fR7A wR7A hRR7A hf
      dsimp only [mergeT]
      obtain ⟨e43, -⟩ := hf
      replace e43 : fR7A 43 = _ := e43
      rw [e43]
      -- R7A>>
      have HI3 := Lib.hid (HI2.out.step hRR7A)
      have HrA3 := Lib.hid (HrA2.out.only0 hRR7A)
      have hs3 : A2.heap.size ≤ wR7A.heap.size := hRR7A.size
      have cX := HI3.out.rx.cell (i := 0) rfl
      have z0 := HrA3.out.cell (i := 0) rfl
      have z1 := HrA3.out.cell (i := 1) rfl
      have z2 := HrA3.out.cell (i := 2) rfl
      have z3 := HrA3.out.cell (i := 3) rfl
      have z4 := HrA3.out.cell (i := 4) rfl
      obtain ⟨p2, k2, w6, Hr, own', o', hat⟩ := push_en _ x HI3.out.own (by have := Hxe.out; have := Hs4.out; omega) (by omega)
      have hXl : w2.heap.size + 1 < wR7A.heap.size := HI3.out.rx.lt
      have rx6 := HI3.out.rx.only o' HI3.out.ne
      have f6 := rx6.free 0
      have c6 := rx6.cell (i := 0) rfl
      obtain ⟨w7, hw7⟩ : ∃ w7, w7 = w6.setCell ⟨w2.heap.size + 1, 0, none⟩ (.slice p2 (0 + 1) k2) := ⟨_, rfl⟩
      have o7 : Only [w2.heap.size + 1] w6 w7 := by rw [hw7]; exact Only.setCell _ ⟨_, _, none⟩ _
      have hp2B : ∀ x ∈ blk p2, w2.heap.size ≤ x ∧ x < w6.heap.size := fun x hx => own'.view.2.2.2.2.2.2 x hx
      have hqB : ∀ x ∈ blk q, w2.heap.size ≤ x := fun x hx => (HI3.out.own.view.2.2.2.2.2.2 x hx).1
      have hp2at : ∀ x ∈ blk p2, x ∈ blk q ∨ wR7A.heap.size ≤ x := fun x hx => by
        rcases hat with rfl | ⟨g, rfl, hg⟩
        · exact .inl hx
        · simp [blk] at hx; subst hx; exact .inr hg
      have hne2 : w2.heap.size + 1 ∉ blk p2 := fun hm => by
        rcases hp2at _ hm with h | h
        · exact HI3.out.ne h
        · omega
      have HIn : Hid (CvI w0 (w2.heap.size + 1) w2.heap.size wB.heap.size kc bc qo (buck ks) (zs ++ [x]) p2 (0 + 1) k2 w7) := Lib.hid (by
        have hI3 := HI3.out
        obtain ⟨hw1, hw2⟩ := HWB.out
        have hX0 : ∀ t, t < w2.heap.size → t ∉ blk q ∧ t ∉ [w2.heap.size + 1] := fun t ht => ⟨fun hm => by have := hqB t hm; omega, fun hm => by have := List.mem_singleton.1 hm; omega⟩
        refine ⟨by rw [hw7]; exact rx6.setCell 0 _, own'.only o7 (fun y hy hm => by have h5 := List.mem_singleton.1 hm; subst h5; exact hne2 (ownBlkF hy)), by rw [List.length_append, hI3.len]; rfl, hne2, ?_, ?_, ?_, ?_, (hI3.only.transN o' (fun t ht => by have := hqB t ht; omega)).transN o7 (fun t ht => by have h5 := List.mem_singleton.1 ht; omega)⟩
        · exact (hI3.rk.only o' (hX0 _ (by omega)).1).only o7 (hX0 _ (by omega)).2
        · exact (hI3.rb.only o' (hX0 _ (by omega)).1).only o7 (hX0 _ (by omega)).2
        · exact (hI3.bk.only o' (hX0 _ (by omega)).1).only o7 (hX0 _ (by omega)).2
        · exact (hI3.rd.only o' (fun a ha => (hX0 _ (Hqb.out a ha)).1)).only o7 (fun a ha => (hX0 _ (Hqb.out a ha)).2))
      have HO : Hid (Only ((w2.heap.size + 1) :: blk q) A2 w7) := Lib.hid ((((hRR7A.mono (by simp)).trans o' (fun i hi _ => List.mem_cons_of_mem _ hi))).trans o7 (fun i hi _ => by have := List.mem_singleton.1 hi; subst this; simp))
      have Hss : Hid (w6.heap.size ≤ w7.heap.size ∧ A2.heap.size ≤ w7.heap.size ∧ A.heap.size < A2.heap.size ∧ A2.heap.size ≤ wR7A.heap.size ∧ w2.heap.size + 1 < A2.heap.size) := Lib.hid ⟨o7.size, HO.out.size, hA2, hs3, HI2.out.rx.lt⟩
      have Hp2B := Lib.hid hp2B
      have Hp2at := Lib.hid hp2at
      have Hw7 := Lib.hid hw7
      clear own' o' hat rx6 hqB hw7 hs2 o7 hp2B hp2at hne2 hRR7A oA2 hs3 hXl
      gi_wp2_with (first | (gi_at_builtin; refine wpli_append (s := .tmp 44) (x := .tmp 46) (fun _ => trivial) rfl rfl rfl rfl Hr.out ?_))
      rw [← Hw7.out]
      refine ⟨(w2.heap.size + 1) :: blk q, (w2.heap.size + 1) :: blk p2, HO.out, fun s hs => .inl (List.mem_append_left _ hs), fun d hd => ?_, p2, 0 + 1, k2, rfl, HIn.out⟩
      obtain ⟨h1, h2, h3, h4, h5⟩ := Hss.out
      rcases List.mem_cons.1 hd with rfl | hd
      · exact ⟨.inl (by simp), by omega⟩
      · refine ⟨?_, by have := (Hp2B.out d hd).2; omega⟩
        rcases Hp2at.out d hd with h | h
        · exact .inl (List.mem_append_left _ (List.mem_cons_of_mem _ h))
        · exact .inr (by omega)
    · obtain ⟨m1, rfl⟩ : ∃ m1, m = m1 + 1 := ⟨m - 1, by omega⟩
      obtain ⟨lst, hlst⟩ : ∃ lst, zs[m1]? = some lst := ⟨_, List.getElem?_eq_getElem (by rw [HI2.out.len]; omega)⟩
      obtain ⟨g, hg, -, -⟩ := HI2.out.own.at (by omega)
      subst hg
      have hle := rd_elem enCells_len HI2.out.own.view.2.2.1 hlst (r := 0) rfl
      rw [Addr.add_lit, Nat.zero_add, Nat.add_zero] at hle
      have Hcl := Lib.hid hle
      have Hz0 := Lib.hid (HrA2.out.cell (i := 0) rfl)
      have hasc := entries_asc (pf := pf) (dl := dl) HBs.out
      rw [Hxs.out] at hasc
      have hlx : lt lst.name x.name := (List.pairwise_append.1 hasc).2.2 lst (List.mem_of_getElem? hlst) x (List.mem_cons_self ..)
      have Hlt : Hid (Op.bytesLess (str lst.name).toList (str x.name).toList = true) := Lib.hid (by rw [str_ltb]; exact decide_eq_true hlx)
      have Hm0 : Hid (decide (0 < m1 + 1) = true) := Lib.hid (by simp)
      have Hm1 : Hid (IntKind.i64.wrap (m1 : Int) = (m1 : Int)) := Lib.hid (IntWalk.i64_in _ (by omega))
      have Hm1l : Hid ((m1 : Int) < (m1 : Int) + 1) := Lib.hid (by omega)
      have Hm1g : Hid ((0 : Int) ≤ (m1 : Int)) := Lib.hid (by omega)
      have H200 : Hid (decide (200 < m1 + 1) = false) := Lib.hid (decide_eq_false (by omega))
      clear hle hlst hasc hlx hm0
      -- <<R7B
      refine wpIn_region_rg2 (Only []) [[(4, none)], [(24, some 0)], [(25, some 0)], [(26, some 0)], [(27, some 0), (4, none)], [(27, some 1), (4, none)], [(27, some 2), (29, some 0)], [(27, some 3), (30, some 0)], [(27, some 4), (28, some 3), (31, some 0)], [(27, some 5), (32, some 0)], [(27, some 6), (33, some 0)], [(27, some 7), (5, none)], [(27, some 8), (35, some 0)], [(27, some 9), (34, some 2), (36, some 0)], [(27, some 10), (37, some 0)], [(38, some 0)], [(39, some 0), (4, none)], [(39, some 1), (40, some 0)], [(39, some 2), (41, some 0)], [(39, some 3), (42, some 0)]] [(43, 0)] [none, none, none, none, none, none, none, none, none, none, none, none, none, none, none, none, none, none, none, none, none, none, none, none, some 24, some 25, some 26, some 27, some 28, some 29, some 30, some 31, some 32, some 33, some 34, some 35, some 36, some 37, some 38, some 39, some 40, some 41, some 42, some 43, none, none, none, none, none, none, none, none, none, none, none, none, none, none, none, none, none, none, none, none, none, none, none, none, none, none, none, none, none, none, none, none, none, none, none, none, none, none, none, none, none, none, none, none, none, none, none, none, none, none, none, none, none, none, none, none, none, none, none, none, none, none, none, none, none, none, none, none, none, none, none, none, none, none, none, none, none, none, none, none, none, none, none, none, none, none, none, none, none, none, none, none, none, none, none, none, none, none, none, none] (by kernel_rfl) rfl (by kernel_rfl) (fun _ => Only.refl _ _) (fun _ _ _ h k => h.trans0 k) (Only.drew _) (by kernel_rfl) (by kernel_rfl) ?_
      -- 0: s24 := load 41 t4
      apply rg_ev
      · intro a w hR hf
        obtain ⟨e4, -⟩ := hf
        replace e4 : a.tmps.getD 4 undef = _ := e4
        refine rg_plain rfl fun K hK => ?_
        have g := hR.cell HcX.out (by simp)
        go_simp
        exact hK _ _ rfl (Only.refl _ _)
      -- 1: s25 := call { builtin len, args := #[t24], #[41] }
      apply rg_ev
      · intro a w hR hf
        obtain ⟨e24, -⟩ := hf
        replace e24 : a.tmps.getD 24 undef = _ := e24
        refine rg_plain rfl fun K hK => ?_
        go_simp
        exact hK _ _ rfl (Only.refl _ _)
      -- 2: s26 := binOp Bingtr 3 t25 (const (0:i64)) 3
      apply rg_ev
      · intro a w hR hf
        obtain ⟨e25, -⟩ := hf
        replace e25 : a.tmps.getD 25 undef = _ := e25
        refine rg_plain rfl fun K hK => ?_
        have h := Hm0.out
        go_simp
        exact hK _ _ rfl (Only.refl _ _)
      -- 3: s27 := move t26
      apply rg_ev
      · intro a w hR hf
        obtain ⟨e26, -⟩ := hf
        replace e26 : a.tmps.getD 26 undef = _ := e26
        refine rg_plain rfl fun K hK => ?_
        go_simp
        exact hK _ _ rfl (Only.refl _ _)
      -- 4: s28 := load 41 t4 [if 3=true]
      apply rg_ev
      · intro a w hR hf
        obtain ⟨e27, e4, -⟩ := hf
        replace e27 : a.tmps.getD 27 undef = _ := e27
        replace e4 : a.tmps.getD 4 undef = _ := e4
        refine rg_want rfl rfl e27 fun K hK => ?_
        clear e27
        have g := hR.cell HcX.out (by simp)
        go_simp
        exact hK _ _ rfl (Only.refl _ _)
      -- 5: s29 := load 41 t4 [if 3=true]
      apply rg_ev
      · intro a w hR hf
        obtain ⟨e27, e4, -⟩ := hf
        replace e27 : a.tmps.getD 27 undef = _ := e27
        replace e4 : a.tmps.getD 4 undef = _ := e4
        refine rg_want rfl rfl e27 fun K hK => ?_
        clear e27
        have g := hR.cell HcX.out (by simp)
        go_simp
        exact hK _ _ rfl (Only.refl _ _)
      -- 6: s30 := call { builtin len, args := #[t29], #[41] } [if 3=true]
      apply rg_ev
      · intro a w hR hf
        obtain ⟨e27, e29, -⟩ := hf
        replace e27 : a.tmps.getD 27 undef = _ := e27
        replace e29 : a.tmps.getD 29 undef = _ := e29
        refine rg_want rfl rfl e27 fun K hK => ?_
        clear e27
        go_simp
        exact hK _ _ rfl (Only.refl _ _)
      -- 7: s31 := binOp Binsub 3 t30 (const (1:i64)) 3 [if 3=true]
      apply rg_ev
      · intro a w hR hf
        obtain ⟨e27, e30, -⟩ := hf
        replace e27 : a.tmps.getD 27 undef = _ := e27
        replace e30 : a.tmps.getD 30 undef = _ := e30
        refine rg_want rfl rfl e27 fun K hK => ?_
        clear e27
        have h := Hm1.out
        go_simp
        exact hK _ _ rfl (Only.refl _ _)
      -- 8: s32 := indexAddr 41 t28 t31 [if 3=true]
      apply rg_ev
      · intro a w hR hf
        obtain ⟨e27, e28, e31, -⟩ := hf
        replace e27 : a.tmps.getD 27 undef = _ := e27
        replace e28 : a.tmps.getD 28 undef = _ := e28
        replace e31 : a.tmps.getD 31 undef = _ := e31
        refine rg_want rfl rfl e27 fun K hK => ?_
        clear e27
        have h := Hm1l.out
        have h2 := Hm1g.out
        go_simp
        exact hK _ _ rfl (Only.refl _ _)
      -- 9: s33 := fieldAddr 61 t32 0 [if 3=true]
      apply rg_ev
      · intro a w hR hf
        obtain ⟨e27, e32, -⟩ := hf
        replace e27 : a.tmps.getD 27 undef = _ := e27
        replace e32 : a.tmps.getD 32 undef = _ := e32
        refine rg_want rfl rfl e27 fun K hK => ?_
        clear e27
        go_simp
        exact hK _ _ rfl (Only.refl _ _)
      -- 10: s34 := load 9 t33 [if 3=true]
      apply rg_ev
      · intro a w hR hf
        obtain ⟨e27, e33, -⟩ := hf
        replace e27 : a.tmps.getD 27 undef = _ := e27
        replace e33 : a.tmps.getD 33 undef = _ := e33
        refine rg_want rfl rfl e27 fun K hK => ?_
        clear e27
        have g := hR.cell Hcl.out (by simp)
        go_simp
        exact hK _ _ rfl (Only.refl _ _)
      -- 11: s35 := fieldAddr 61 t5 0 [if 3=true]
      apply rg_ev
      · intro a w hR hf
        obtain ⟨e27, e5, -⟩ := hf
        replace e27 : a.tmps.getD 27 undef = _ := e27
        replace e5 : a.tmps.getD 5 undef = _ := e5
        refine rg_want rfl rfl e27 fun K hK => ?_
        clear e27
        go_simp
        exact hK _ _ rfl (Only.refl _ _)
      -- 12: s36 := load 9 t35 [if 3=true]
      apply rg_ev
      · intro a w hR hf
        obtain ⟨e27, e35, -⟩ := hf
        replace e27 : a.tmps.getD 27 undef = _ := e27
        replace e35 : a.tmps.getD 35 undef = _ := e35
        refine rg_want rfl rfl e27 fun K hK => ?_
        clear e27
        have g := hR.cell Hz0.out (by simp)
        go_simp
        exact hK _ _ rfl (Only.refl _ _)
      -- 13: s37 := binOp Bingeq 9 t34 t36 9 [if 3=true]
      apply rg_ev
      · intro a w hR hf
        obtain ⟨e27, e34, e36, -⟩ := hf
        replace e27 : a.tmps.getD 27 undef = _ := e27
        replace e34 : a.tmps.getD 34 undef = _ := e34
        replace e36 : a.tmps.getD 36 undef = _ := e36
        refine rg_want rfl rfl e27 fun K hK => ?_
        clear e27
        have h := Hlt.out
        go_simp
        exact hK _ _ rfl (Only.refl _ _)
      -- 14: s38 := pick t27 t37 (const (Value.bool false))
      apply rg_ev
      · intro a w hR hf
        obtain ⟨e27, e37, -⟩ := hf
        replace e27 : a.tmps.getD 27 undef = _ := e27
        replace e37 : a.tmps.getD 37 undef = _ := e37
        refine rg_plain rfl fun K hK => ?_
        go_simp
        exact hK _ _ rfl (Only.refl _ _)
      -- 15: s39 := move t38
      apply rg_ev
      · intro a w hR hf
        obtain ⟨e38, -⟩ := hf
        replace e38 : a.tmps.getD 38 undef = _ := e38
        refine rg_plain rfl fun K hK => ?_
        go_simp
        exact hK _ _ rfl (Only.refl _ _)
      -- 16: s40 := load 41 t4 [if 15=false]
      apply rg_ev
      · intro a w hR hf
        obtain ⟨e39, e4, -⟩ := hf
        replace e39 : a.tmps.getD 39 undef = _ := e39
        replace e4 : a.tmps.getD 4 undef = _ := e4
        refine rg_want rfl rfl e39 fun K hK => ?_
        clear e39
        have g := hR.cell HcX.out (by simp)
        go_simp
        exact hK _ _ rfl (Only.refl _ _)
      -- 17: s41 := call { builtin len, args := #[t40], #[41] } [if 15=false]
      apply rg_ev
      · intro a w hR hf
        obtain ⟨e39, e40, -⟩ := hf
        replace e39 : a.tmps.getD 39 undef = _ := e39
        replace e40 : a.tmps.getD 40 undef = _ := e40
        refine rg_want rfl rfl e39 fun K hK => ?_
        clear e39
        go_simp
        exact hK _ _ rfl (Only.refl _ _)
      -- 18: s42 := binOp Bingtr 3 t41 (const (200:i64)) 3 [if 15=false]
      apply rg_ev
      · intro a w hR hf
        obtain ⟨e39, e41, -⟩ := hf
        replace e39 : a.tmps.getD 39 undef = _ := e39
        replace e41 : a.tmps.getD 41 undef = _ := e41
        refine rg_want rfl rfl e39 fun K hK => ?_
        clear e39
        have h := H200.out
        go_simp
        exact hK _ _ rfl (Only.refl _ _)
      -- 19: s43 := pick t39 (const (Value.bool true)) t42
      apply rg_ev
      · intro a w hR hf
        obtain ⟨e39, e42, -⟩ := hf
        replace e39 : a.tmps.getD 39 undef = _ := e39
        replace e42 : a.tmps.getD 42 undef = _ := e42
        refine rg_plain rfl fun K hK => ?_
        go_simp
        exact hK _ _ rfl (Only.refl _ _)
      intro fR7B wR7B hRR7B hf
      dsimp only [mergeT]
      obtain ⟨e43, -⟩ := hf
      replace e43 : fR7B 43 = _ := e43
      rw [e43]
      -- R7B>>
      have HI3 := Lib.hid (HI2.out.step hRR7B)
      have HrA3 := Lib.hid (HrA2.out.only0 hRR7B)
      have hs3 : A2.heap.size ≤ wR7B.heap.size := hRR7B.size
      have cX := HI3.out.rx.cell (i := 0) rfl
      have z0 := HrA3.out.cell (i := 0) rfl
      have z1 := HrA3.out.cell (i := 1) rfl
      have z2 := HrA3.out.cell (i := 2) rfl
      have z3 := HrA3.out.cell (i := 3) rfl
      have z4 := HrA3.out.cell (i := 4) rfl
      obtain ⟨p2, k2, w6, Hr, own', o', hat⟩ := push_en _ x HI3.out.own (by have := Hxe.out; have := Hs4.out; omega) (by omega)
      have hXl : w2.heap.size + 1 < wR7B.heap.size := HI3.out.rx.lt
      have rx6 := HI3.out.rx.only o' HI3.out.ne
      have f6 := rx6.free 0
      have c6 := rx6.cell (i := 0) rfl
      obtain ⟨w7, hw7⟩ : ∃ w7, w7 = w6.setCell ⟨w2.heap.size + 1, 0, none⟩ (.slice p2 ((m1 + 1) + 1) k2) := ⟨_, rfl⟩
      have o7 : Only [w2.heap.size + 1] w6 w7 := by rw [hw7]; exact Only.setCell _ ⟨_, _, none⟩ _
      have hp2B : ∀ x ∈ blk p2, w2.heap.size ≤ x ∧ x < w6.heap.size := fun x hx => own'.view.2.2.2.2.2.2 x hx
      have hqB : ∀ x ∈ blk (some ⟨g, 0, none⟩), w2.heap.size ≤ x := fun x hx => (HI3.out.own.view.2.2.2.2.2.2 x hx).1
      have hp2at : ∀ x ∈ blk p2, x ∈ blk (some ⟨g, 0, none⟩) ∨ wR7B.heap.size ≤ x := fun x hx => by
        rcases hat with rfl | ⟨g, rfl, hg⟩
        · exact .inl hx
        · simp [blk] at hx; subst hx; exact .inr hg
      have hne2 : w2.heap.size + 1 ∉ blk p2 := fun hm => by
        rcases hp2at _ hm with h | h
        · exact HI3.out.ne h
        · omega
      have HIn : Hid (CvI w0 (w2.heap.size + 1) w2.heap.size wB.heap.size kc bc qo (buck ks) (zs ++ [x]) p2 ((m1 + 1) + 1) k2 w7) := Lib.hid (by
        have hI3 := HI3.out
        obtain ⟨hw1, hw2⟩ := HWB.out
        have hX0 : ∀ t, t < w2.heap.size → t ∉ blk (some ⟨g, 0, none⟩) ∧ t ∉ [w2.heap.size + 1] := fun t ht => ⟨fun hm => by have := hqB t hm; omega, fun hm => by have := List.mem_singleton.1 hm; omega⟩
        refine ⟨by rw [hw7]; exact rx6.setCell 0 _, own'.only o7 (fun y hy hm => by have h5 := List.mem_singleton.1 hm; subst h5; exact hne2 (ownBlkF hy)), by rw [List.length_append, hI3.len]; rfl, hne2, ?_, ?_, ?_, ?_, (hI3.only.transN o' (fun t ht => by have := hqB t ht; omega)).transN o7 (fun t ht => by have h5 := List.mem_singleton.1 ht; omega)⟩
        · exact (hI3.rk.only o' (hX0 _ (by omega)).1).only o7 (hX0 _ (by omega)).2
        · exact (hI3.rb.only o' (hX0 _ (by omega)).1).only o7 (hX0 _ (by omega)).2
        · exact (hI3.bk.only o' (hX0 _ (by omega)).1).only o7 (hX0 _ (by omega)).2
        · exact (hI3.rd.only o' (fun a ha => (hX0 _ (Hqb.out a ha)).1)).only o7 (fun a ha => (hX0 _ (Hqb.out a ha)).2))
      have HO : Hid (Only ((w2.heap.size + 1) :: blk (some ⟨g, 0, none⟩)) A2 w7) := Lib.hid ((((hRR7B.mono (by simp)).trans o' (fun i hi _ => List.mem_cons_of_mem _ hi))).trans o7 (fun i hi _ => by have := List.mem_singleton.1 hi; subst this; simp))
      have Hss : Hid (w6.heap.size ≤ w7.heap.size ∧ A2.heap.size ≤ w7.heap.size ∧ A.heap.size < A2.heap.size ∧ A2.heap.size ≤ wR7B.heap.size ∧ w2.heap.size + 1 < A2.heap.size) := Lib.hid ⟨o7.size, HO.out.size, hA2, hs3, HI2.out.rx.lt⟩
      have Hp2B := Lib.hid hp2B
      have Hp2at := Lib.hid hp2at
      have Hw7 := Lib.hid hw7
      clear own' o' hat rx6 hqB hw7 hs2 o7 hp2B hp2at hne2 hRR7B oA2 hs3 hXl
      gi_wp2_with (first | (gi_at_builtin; refine wpli_append (s := .tmp 44) (x := .tmp 46) (fun _ => trivial) rfl rfl rfl rfl Hr.out ?_))
      rw [← Hw7.out]
      refine ⟨(w2.heap.size + 1) :: blk (some ⟨g, 0, none⟩), (w2.heap.size + 1) :: blk p2, HO.out, fun s hs => .inl (List.mem_append_left _ hs), fun d hd => ?_, p2, (m1 + 1) + 1, k2, rfl, HIn.out⟩
      obtain ⟨h1, h2, h3, h4, h5⟩ := Hss.out
      rcases List.mem_cons.1 hd with rfl | hd
      · exact ⟨.inl (by simp), by omega⟩
      · refine ⟨?_, by have := (Hp2B.out d hd).2; omega⟩
        rcases Hp2at.out d hd with h | h
        · exact .inl (List.mem_append_left _ (List.mem_cons_of_mem _ h))
        · exact .inr (by omega)
  case done =>
    rintro D B ⟨q, m, k, rfl, hI⟩ hd hk
    obtain ⟨es, hes⟩ : ∃ es, entries pf dl (buck ks) = es := ⟨_, rfl⟩
    rw [hes] at hI
    have hbk := hI.bk
    rw [Hbc.out] at hbk
    have b3 := hbk.cell (i := 3) rfl
    have hml : m ≤ 128 := by
      have h1 := entries_len pf dl (buck ks)
      have h2 := HBl.out
      rw [hes, hI.len] at h1
      omega
    have hmo : mo ≤ 128 := by have h1 := HBl.out; have h2 := HlB.out; omega
    have HI := Lib.hid hI
    have Hes := Lib.hid hes
    have Hk := Lib.hid hk
    have Hd0 : Hid (we.heap.size < B.heap.size) := Lib.hid (Array.getElem?_eq_some_iff.1 hk).1
    clear hI hes hd hk hbk
    go_wp2_with fail
    go_loopw [6, 51] (fun s6 s51 wr => ∃ i : Nat, s6 = .int .i64 ((((buck ks).take i).countP (fun o => decide (pf <+: o.key)) : Nat) : Int) ∧ s51 = .int .i64 (i : Int) ∧ i ≤ mo ∧ Hid (Only [] B wr)) (fun _ s51 _ => mo - (intOf s51).toNat)
    case atStart => exact ⟨0, rfl, rfl, Nat.zero_le _, Lib.hid (Only.refl _ _)⟩
    case round =>
      obtain ⟨i, rfl, rfl, him, HO⟩ := hrel
      by_cases hlt : i < mo
      · obtain ⟨o, ho⟩ : ∃ o, (buck ks)[i]? = some o := ⟨_, List.getElem?_eq_getElem (by rw [HlB.out]; exact hlt)⟩
        have hrd := HI.out.rd.only0 HO.out
        have hne : (buck ks).flatMap obCells ≠ [] := fun e' => by have := flat_get obCells 5 obCells_len (buck ks) i o 0 ho (by omega); rw [e'] at this; cases this
        obtain ⟨bo, off, hqo, -⟩ := hrd.lt hne
        have Hbc2 := Hbc.out
        rw [hqo] at hrd
        have d0 := rd_elem obCells_len hrd ho (r := 0) rfl
        have d1 := rd_elem obCells_len hrd ho (r := 1) rfl
        have d2 := rd_elem obCells_len hrd ho (r := 2) rfl
        have d3 := rd_elem obCells_len hrd ho (r := 3) rfl
        have d4 := rd_elem obCells_len hrd ho (r := 4) rfl
        rw [Addr.add_lit, ← Nat.add_assoc] at d0 d1 d2 d3 d4
        rw [Nat.add_zero] at d0
        obtain ⟨wa, hwa⟩ : ∃ wa, wa = wr.alloc (.cells #[.string (str o.key), .int .i64 o.size, .string (str o.etag), .int .i64 (o.time : Int), .slice none 0 0] 59) := ⟨_, rfl⟩
        have oa : Only [] wr wa := by rw [hwa]; exact Only.alloc _ _
        have ra : Row wa wr.heap.size 59 (obCells o) := by rw [hwa]; exact Row.newOf _ _ _ _ rfl
        have HIa := Lib.hid ((HI.out.step HO.out).step oa)
        have HOa := Lib.hid (HO.out.trans0 oa)
        have Hra := Lib.hid ra
        have Hwa := Lib.hid hwa
        have Hom := Lib.hid (List.mem_of_getElem? ho)
        have Hcnt := Lib.hid (countP_take (fun o : Ob => decide (pf <+: o.key)) ho)
        have Hcl1 : Hid (((buck ks).take i).countP (fun o => decide (pf <+: o.key)) ≤ 128) := Lib.hid (by
          have h1 := List.countP_le_length (p := fun o : Ob => decide (pf <+: o.key)) (l := (buck ks).take i)
          rw [List.length_take] at h1
          have := HBl.out
          omega)
        clear hrd oa ra hwa ho hne Hbc2
        obtain ⟨cn, hcn⟩ : ∃ cn, ((buck ks).take i).countP (fun o => decide (pf <+: o.key)) = cn := ⟨_, rfl⟩
        have Hcn := Lib.hid hcn
        have hcl2 := Hcl1.out
        rw [hcn] at hcl2 ⊢
        clear hcn
        subst hqo
        go_upto_region 14 with (fail)
        rw [← Hwa.out]
        clear Hwa d0 d1 d2 d3 d4
        have z0 := Hra.out.cell (i := 0) rfl
        have hkc := HIa.out.rk
        rw [Hkc.out] at hkc
        have k1 := hkc.cell (i := 1) rfl
        have hksz : (str o.key).size = o.key.length := str_size o.key
        have hpsz : (str pf).size = pf.length := str_size pf
        clear hkc
        by_cases hpp : pf <+: o.key
        · obtain ⟨rs, hrs⟩ := hpp
          have hkl2 : o.key.length = pf.length + rs.length := by rw [← hrs, List.length_append]
          have hl1 : decide (o.key.length < pf.length) = false := decide_eq_false (by omega)
          have hl2 : (pf.length : Int) ≤ (o.key.length : Int) := by omega
          have heq1 : ((str o.key).extract 0 pf.length).toList = (str pf).toList := by
            rw [str_ext, List.drop_zero, ← hrs, List.take_left' rfl]
          have Hpp : Hid (pf <+: o.key) := Lib.hid ⟨rs, hrs⟩
          have Hkl : Hid (o.key.length ≤ 200) := Lib.hid (HBk.out o Hom.out).2
          have Hone : Hid (es.countP (fun e => standsFor e o) = 1) := Lib.hid (by rw [← Hes.out]; exact cover_one HBs.out Hom.out ⟨rs, hrs⟩)
          clear hrs hkl2
          go_quiet (fail)
          obtain ⟨wq, hwq⟩ : ∃ wq, wq = wa.drewN nq := ⟨_, rfl⟩
          have oq : Only [] wa wq := by rw [hwq]; exact Only.drewN _ _
          have HIq := Lib.hid (HIa.out.step oq)
          have HOq := Lib.hid (HOa.out.trans0 oq)
          have Hrq := Lib.hid (Hra.out.only0 oq)
          have x0 := HIq.out.rx.cell (i := 0) rfl
          have Hwq := Lib.hid hwq
          rw [← hwq]
          clear oq hwq hl1 hl2 heq1 z0 k1
          go_wp2_with fail
          obtain ⟨wo, rfl⟩ : ∃ wo : World, wo = wr := ⟨_, rfl⟩
          go_loopw [9, 77] (fun s9 s77 wl => ∃ j : Nat, s9 = .int .i64 (((es.take j).countP (fun e => standsFor e o) : Nat) : Int) ∧ s77 = .int .i64 (j : Int) ∧ j ≤ m ∧ Hid (Only [] wq wl)) (fun _ s77 _ => m - (intOf s77).toNat)
          case atStart => exact ⟨0, rfl, rfl, Nat.zero_le _, Lib.hid (Only.refl _ _)⟩
          case round =>
            obtain ⟨j, rfl, rfl, hjm, HOl⟩ := hrel
            by_cases hjl : j < m
            · obtain ⟨e, he⟩ : ∃ e, es[j]? = some e := ⟨_, List.getElem?_eq_getElem (by rw [HI.out.len]; exact hjl)⟩
              have hIl := HIq.out.step HOl.out
              obtain ⟨g, hg, -, -⟩ := hIl.own.at (by omega)
              subst hg
              have hre := hIl.own.view.2.2.1
              have y0 := rd_elem enCells_len hre he (r := 0) rfl
              have y1 := rd_elem enCells_len hre he (r := 1) rfl
              have y2 := rd_elem enCells_len hre he (r := 2) rfl
              have y3 := rd_elem enCells_len hre he (r := 3) rfl
              have y4 := rd_elem enCells_len hre he (r := 4) rfl
              rw [Addr.add_lit, Nat.zero_add] at y0 y1 y2 y3 y4
              rw [Nat.add_zero] at y0
              obtain ⟨wt, hwt⟩ : ∃ wt, wt = wr.alloc (.cells #[.string (str e.name), .bool e.pre, .int .i64 e.size, .string (str e.etag), .int .i64 e.time] 61) := ⟨_, rfl⟩
              have ot : Only [] wr wt := by rw [hwt]; exact Only.alloc _ _
              have rt : Row wt wr.heap.size 61 (enCells e) := by rw [hwt]; exact Row.newOf _ _ _ _ rfl
              have HOt := Lib.hid (HOl.out.trans0 ot)
              have hrq := Hrq.out.only0 HOt.out
              have z0 := hrq.cell (i := 0) rfl
              have z1 := hrq.cell (i := 1) rfl
              have z3 := hrq.cell (i := 3) rfl
              have v0 := rt.cell (i := 0) rfl
              have v1 := rt.cell (i := 1) rfl
              have v2 := rt.cell (i := 2) rfl
              have v4 := rt.cell (i := 4) rfl
              have Hcs := Lib.hid (countP_take (fun e : En => standsFor e o) he)
              have hcc : (es.take j).countP (fun e => standsFor e o) ≤ 128 := by
                have h1 := List.countP_le_length (p := fun e : En => standsFor e o) (l := es.take j)
                rw [List.length_take] at h1
                omega
              obtain ⟨cc, hce⟩ : ∃ cc, (es.take j).countP (fun e => standsFor e o) = cc := ⟨_, rfl⟩
              rw [hce] at hcc Hcs ⊢
              have Hem := Lib.hid (List.mem_of_getElem? he)
              have Hwt := Lib.hid hwt
              have hesz : (str e.name).size = e.name.length := str_size e.name
              clear hIl hre rt ot hrq hce he hwt
              go_upto_region 20 with (fail)
              rw [← Hwt.out]
              clear Hwt y0 y1 y2 y3 y4
              cases hpre : e.pre with
              | true =>
                rw [hpre] at v1
                by_cases hln : e.name.length ≤ o.key.length
                · have hg1 : decide (e.name.length ≤ o.key.length) = true := decide_eq_true hln
                  have hg2 : (e.name.length : Int) ≤ (o.key.length : Int) := by omega
                  have hse : (str o.key).extract 0 e.name.length = str (o.key.take e.name.length) := by rw [str_ext, List.drop_zero]
                  by_cases hnp : e.name <+: o.key
                  · have hst : Hid (standsFor e o = true) := Lib.hid (by unfold standsFor; rw [hpre, decide_eq_true hnp]; rfl)
                    have heq : ((str o.key).extract 0 e.name.length).toList = (str e.name).toList := by
                      rw [hse, str_toList, str_toList]
                      exact (List.prefix_iff_eq_take.1 hnp).symm
                    clear hnp hse hpre hln
                    go_quiet (fail)
                    go_wp2_with fail
                    refine ⟨⟨j + 1, by rw [Hcs.out, if_pos hst.out]; go_num, by go_num, by omega, Lib.hid (HOt.out.trans0 (Only.drewN _ _))⟩, ?_⟩
                    show m - ((j : Int) + 1).toNat < m - ((j : Int)).toNat
                    omega
                  · have hst : Hid (¬ standsFor e o = true) := Lib.hid (by unfold standsFor; rw [hpre, decide_eq_false hnp]; simp)
                    have hneq : ¬ ((str o.key).extract 0 e.name.length).toList = (str e.name).toList := by
                      rw [hse, str_toList, str_toList]
                      exact fun h => hnp (List.prefix_iff_eq_take.2 h.symm)
                    have hneq2 : (((str o.key).extract 0 e.name.length).toList == (str e.name).toList) = false := beq_false_of_ne hneq
                    clear hnp hse hpre hln
                    go_quiet (fail)
                    go_wp2_with fail
                    refine ⟨⟨j + 1, by rw [Hcs.out, if_neg hst.out, Nat.add_zero], by go_num, by omega, Lib.hid (HOt.out.trans0 (Only.drewN _ _))⟩, ?_⟩
                    show m - ((j : Int) + 1).toNat < m - ((j : Int)).toNat
                    omega
                · have hg1 : decide (e.name.length ≤ o.key.length) = false := decide_eq_false hln
                  have hst : Hid (¬ standsFor e o = true) := Lib.hid (by
                    unfold standsFor
                    rw [hpre, decide_eq_false (fun h => hln h.length_le)]
                    simp)
                  clear hpre hln
                  go_quiet (fail)
                  go_wp2_with fail
                  refine ⟨⟨j + 1, by rw [Hcs.out, if_neg hst.out, Nat.add_zero], by go_num, by omega, Lib.hid (HOt.out.trans0 (Only.drewN _ _))⟩, ?_⟩
                  show m - ((j : Int) + 1).toNat < m - ((j : Int)).toNat
                  omega
              | false =>
                rw [hpre] at v1
                by_cases hnk : e.name = o.key
                · obtain ⟨hsz, htm⟩ := stands_key HBs.out Hom.out (by rw [Hes.out]; exact Hem.out) hpre hnk
                  have hst : Hid (standsFor e o = true) := Lib.hid (by unfold standsFor; rw [hpre, decide_eq_true hnk, decide_eq_true hsz, decide_eq_true htm]; rfl)
                  have heq : ((str e.name).toList == (str o.key).toList) = true := by rw [str_eqb, decide_eq_true hnk]
                  have heq2 : (e.size == o.size) = true := by rw [hsz]; simp
                  have heq3 : (e.time == (o.time : Int)) = true := by rw [htm]; simp
                  clear hnk hpre hsz htm
                  go_quiet (fail)
                  go_wp2_with fail
                  refine ⟨⟨j + 1, by rw [Hcs.out, if_pos hst.out]; go_num, by go_num, by omega, Lib.hid (HOt.out.trans0 (Only.drewN _ _))⟩, ?_⟩
                  show m - ((j : Int) + 1).toNat < m - ((j : Int)).toNat
                  omega
                · have hst : Hid (¬ standsFor e o = true) := Lib.hid (by unfold standsFor; rw [hpre, decide_eq_false hnk]; simp)
                  have heq : ((str e.name).toList == (str o.key).toList) = false := by rw [str_eqb, decide_eq_false hnk]
                  have heq4 : ¬ (str e.name).toList = (str o.key).toList := by rw [str_toList, str_toList]; exact hnk
                  clear hnk hpre
                  go_quiet (fail)
                  go_wp2_with fail
                  refine ⟨⟨j + 1, by rw [Hcs.out, if_neg hst.out, Nat.add_zero], by go_num, by omega, Lib.hid (HOt.out.trans0 (Only.drewN _ _))⟩, ?_⟩
                  show m - ((j : Int) + 1).toNat < m - ((j : Int)).toNat
                  omega
            · obtain rfl : j = m := by omega
              have hT : es.take j = es := List.take_of_length_le (by rw [HI.out.len]; exact Nat.le_refl _)
              rw [hT, Hone.out]
              clear hT hjl
              go_wp2_with fail
              refine ⟨⟨i + 1, by rw [Hcnt.out, Hcn.out, if_pos (decide_eq_true Hpp.out)]; go_num, by go_num, by omega, Lib.hid (HOq.out.trans0 HOl.out)⟩, ?_⟩
              show mo - ((i : Int) + 1).toNat < mo - ((i : Int)).toNat
              omega
        · have Hs2 : Hid (¬ decide (pf <+: o.key) = true) := Lib.hid (by simpa using hpp)
          by_cases hlen : o.key.length < pf.length
          · have hl1 : decide (o.key.length < pf.length) = true := decide_eq_true hlen
            clear hpp hlen
            go_quiet (fail)
            go_wp2_with fail
            refine ⟨⟨i + 1, by rw [Hcnt.out, Hcn.out, if_neg Hs2.out, Nat.add_zero], by go_num, by omega, Lib.hid (HOa.out.trans0 (Only.drewN _ _))⟩, ?_⟩
            show mo - ((i : Int) + 1).toNat < mo - ((i : Int)).toNat
            omega
          · have hl1 : decide (o.key.length < pf.length) = false := decide_eq_false hlen
            have hl2 : (pf.length : Int) ≤ (o.key.length : Int) := by omega
            have hse : (str o.key).extract 0 pf.length = str (o.key.take pf.length) := by rw [str_ext, List.drop_zero]
            have hne : ¬ ((str o.key).extract 0 pf.length).toList = (str pf).toList := by
              rw [hse, str_toList, str_toList]
              exact fun e => hpp (by rw [← e]; exact List.take_prefix _ _)
            have hne2 : (((str o.key).extract 0 pf.length).toList == (str pf).toList) = false := beq_false_of_ne hne
            clear hpp hlen hse
            go_quiet (fail)
            go_wp2_with fail
            refine ⟨⟨i + 1, by rw [Hcnt.out, Hcn.out, if_neg Hs2.out, Nat.add_zero], by go_num, by omega, Lib.hid (HOa.out.trans0 (Only.drewN _ _))⟩, ?_⟩
            show mo - ((i : Int) + 1).toNat < mo - ((i : Int)).toNat
            omega
      · obtain rfl : i = mo := by omega
        have hT : (buck ks).take i = buck ks := List.take_of_length_le (by rw [HlB.out]; exact Nat.le_refl _)
        rw [hT]
        have hIe := HI.out.step HO.out
        have hkc := hIe.rk
        rw [Hkc.out] at hkc
        have k2 := hkc.cell (i := 2) rfl
        have x0 := hIe.rx.cell (i := 0) rfl
        have fb := hIe.rb.free 0
        have cb := hIe.rb.cell (i := 0) rfl
        have oS : Only [w0.heap.size + 1] wr (wr.setCell ⟨w0.heap.size + 1, 0, none⟩ (.bool true)) := Only.setCell wr ⟨w0.heap.size + 1, 0, none⟩ _
        have oP := Only.putObj (wr.setCell ⟨w0.heap.size + 1, 0, none⟩ (.bool true)) we.heap.size (.deferred none)
        have h4 := Hs4.out
        have hxe := Hxe.out
        obtain ⟨hw1, hw2⟩ := HWB.out
        have hk2 : (wr.setCell ⟨w0.heap.size + 1, 0, none⟩ (.bool true)).heap[we.heap.size]? = some (.deferred (some [])) := (oS.block _ (Nat.lt_of_lt_of_le Hd0.out HO.out.size) (by simp; omega)).trans ((HO.out.block _ Hd0.out (by simp)).trans Hk.out)
        have hrow := (hIe.rb.setCell 0 (.bool true)).only oP (by simp; omega)
        have HOf := Lib.hid ((hIe.only.transN oS (by simp)).transN oP (by simp; omega))
        have Hk2 := Lib.hid hk2
        have Hrow := Lib.hid hrow
        obtain ⟨cn, hcn⟩ : ∃ cn, (buck ks).countP (fun o => decide (pf <+: o.key)) = cn := ⟨_, rfl⟩
        rw [hcn]
        by_cases hdz : dl = []
        · have hmc : m = cn := by
            rw [← HI.out.len, ← Hes.out, hdz, cover_len, hcn]
          subst hmc
          have hde : (str dl).toList = [] := by rw [hdz, str_toList]
          clear hT hIe hkc oS oP h4 hxe hw1 hw2 hk2 hrow hcn hdz
          go_wp2_with fail
          exact mret1 Hk2.out (results_cellB rfl _ _ _ true rfl (Hrow.out.cell (i := 0) rfl)) ⟨rfl, HOf.out⟩
        · have hde : ¬ (str dl).toList = [] := by rw [str_toList]; exact hdz
          have hde2 : (str dl).toList.isEmpty = false := by rw [str_toList]; cases hq : dl with | nil => exact absurd hq hdz | cons x l => rfl
          clear hT hIe hkc oS oP h4 hxe hw1 hw2 hk2 hrow hcn hdz
          go_wp2_with fail
          exact mret1 Hk2.out (results_cellB rfl _ _ _ true rfl (Hrow.out.cell (i := 0) rfl)) ⟨rfl, HOf.out⟩
end Go.Proofs.YtfoplbolbjcggaaDoor
