/- The walks of bollardref05.Reader: Num, Bytes. -/
import Derived.Test.YtfoplbolbjcggaaDoorReaders
import Derived.Test.YtfoplbolbjcggaaDoorRegions
set_option linter.unusedVariables false
set_option maxRecDepth 100000
namespace Go.Proofs.YtfoplbolbjcggaaDoor
open Go.RowKit

theorem Rd.onlyB {S : List Nat} {w w' : World} {p : Option Addr} {xs : List UInt8} (h : Rd w p (u8s xs)) (ho : Only S w w') (hp : xs ≠ [] → ∀ a, p = some a → a.block ∉ S) : Rd w' p (u8s xs) := by
  by_cases hx : xs = []
  · subst hx; exact Rd.nil _ _
  · exact h.only ho (hp hx)
theorem Rd.old {w : World} {p : Option Addr} {xs : List UInt8} (h : Rd w p (u8s xs)) (hx : xs ≠ []) : ∀ a, p = some a → a.block < w.heap.size := by
  intro a ha
  obtain ⟨b, off, rfl, hlt⟩ := h.lt (by intro e; apply hx; have := congrArg List.length e; rw [u8s_length] at this; exact List.eq_nil_of_length_eq_zero this)
  cases ha; exact hlt
/-- the document's reader: at the block g, over bytes that came in -/
def Rf (w : World) (g : Nat) (p : Option Addr) (n c : Nat) (xs : List UInt8) (pl : Nat) : Prop :=
  Row w g 126 [.slice p n c, .int .i64 (pl : Int)] ∧ Rd w p (u8s xs) ∧ xs.length = n ∧ n ≤ c ∧ c ≤ 9223372036854775807 ∧ (p = none → n = 0 ∧ c = 0) ∧ (xs ≠ [] → ∀ a, p = some a → a.block ≠ g) ∧ pl ≤ n
theorem Rf.only {S : List Nat} {w w' : World} {g : Nat} {p : Option Addr} {n c : Nat} {xs : List UInt8} {pl : Nat} (h : Rf w g p n c xs pl) (ho : Only S w w') (hg : g ∉ S) (hp : xs ≠ [] → ∀ a, p = some a → a.block ∉ S) : Rf w' g p n c xs pl :=
  ⟨h.1.only ho hg, h.2.1.onlyB ho hp, h.2.2⟩
theorem Rf.only0 {w w' : World} {g : Nat} {p : Option Addr} {n c : Nat} {xs : List UInt8} {pl : Nat} (h : Rf w g p n c xs pl) (ho : Only [] w w') : Rf w' g p n c xs pl := h.only ho (by simp) (by simp)
theorem Rf.move {w : World} {g : Nat} {p : Option Addr} {n c : Nat} {xs : List UInt8} {pl q : Nat} (h : Rf w g p n c xs pl) (hq : q ≤ n) : Rf (w.setCell ⟨g, 1, none⟩ (.int .i64 (q : Int))) g p n c xs q :=
  ⟨h.1.setCell 1 _, h.2.1.onlyB (Only.setCell _ _ _) (fun hx a ha => by simpa using h.2.2.2.2.2.2.1 hx a ha), h.2.2.1, h.2.2.2.1, h.2.2.2.2.1, h.2.2.2.2.2.1, h.2.2.2.2.2.2.1, hq⟩

theorem refRead_yes (w : World) (p : Option Addr) (xs : List UInt8) (n c pl m l : Nat) (hn : xs.length = n) (hnc : n ≤ c) (hb : n ≤ 140737488351232) (hc63 : c ≤ 9223372036854775807) (hp : p = none → n = 0 ∧ c = 0) (hx : Rd w p (u8s xs)) (hpl : pl ≤ n) (h : Says (xs.drop pl) m l) :
    Calls Tryd.prog 89 #[.slice p n c, .int .i64 (pl : Int)] w fun e w' => e = .returned (.tuple #[.int .i64 (m : Int), .int .i64 ((pl + l : Nat) : Int), .bool true]) ∧ Only [] w w' := by
  refine (refRead_any w p xs n c pl hn hnc hb hc63 hp hx hpl).mono ?_
  rintro e w' ⟨⟨a, b, ok, rfl, h1, h2⟩, ho⟩
  cases ok
  · exact absurd ⟨m, l, h⟩ (h2 rfl)
  · obtain ⟨n', l', h3, rfl, rfl⟩ := h1 rfl
    obtain ⟨rfl, rfl⟩ := h.uniq h3
    exact ⟨by rw [Int.natCast_add], ho⟩
theorem refRead_no (w : World) (p : Option Addr) (xs : List UInt8) (n c pl : Nat) (hn : xs.length = n) (hnc : n ≤ c) (hb : n ≤ 140737488351232) (hc63 : c ≤ 9223372036854775807) (hp : p = none → n = 0 ∧ c = 0) (hx : Rd w p (u8s xs)) (hpl : pl ≤ n) (h : ¬ ∃ n l : Nat, Says (xs.drop pl) n l) :
    Calls Tryd.prog 89 #[.slice p n c, .int .i64 (pl : Int)] w fun e w' => ∃ a b, e = .returned (.tuple #[.int .i64 a, .int .i64 b, .bool false]) ∧ Only [] w w' := by
  refine (refRead_any w p xs n c pl hn hnc hb hc63 hp hx hpl).mono ?_
  rintro e w' ⟨⟨a, b, ok, rfl, h1, h2⟩, ho⟩
  cases ok
  · exact ⟨a, b, rfl, ho⟩
  · obtain ⟨n', l', h3, _⟩ := h1 rfl
    exact absurd ⟨n', l', h3⟩ h

def TupNo : Value → World → Prop := fun v _ => ∃ a b : Int, v = .tuple #[.int .i64 a, .int .i64 b, .bool false]
theorem TupNo.stable {R : World → World → Prop} : Stable R TupNo := fun _ _ _ h _ => h
def AnyI : Value → World → Prop := fun v _ => ∃ a : Int, v = .int .i64 a
theorem AnyI.stable {R : World → World → Prop} : Stable R AnyI := fun _ _ _ h _ => h

theorem rfNum_says (w : World) (g : Nat) (p : Option Addr) (xs : List UInt8) (n c pl m l : Nat) (most : Int) (hr : Rf w g p n c xs pl) (hb : n ≤ 140737488351232) (h : Says (xs.drop pl) m l) :
    Calls Tryd.prog 64 #[.pointer (some ⟨g, 0, none⟩), .int .i64 most] w fun e w' => CaseP ((m : Int) ≤ most) (e = .returned (.tuple #[.int .i64 (m : Int), .int .i64 0]) ∧ Rf w' g p n c xs (pl + l)) (e = .returned (.tuple #[.int .i64 0, .int .i64 5]) ∧ Rf w' g p n c xs pl) ∧ Only [g] w w' := by
  have hq : pl + l ≤ n := by have := h.2.2; rw [List.length_drop] at this; have := hr.2.2.1; have := hr.2.2.2.2.2.2.2; omega
  obtain ⟨r, hx, hn, hnc, hc63, hp, hne, hpl⟩ := hr
  have hrd := fun w1 (h1 : Only [] w w1) => refRead_yes w1 p xs n c pl m l hn hnc hb hc63 hp (hx.only0 h1) hpl h
  have h0 := r.cell (i := 0) rfl
  have h1 := r.cell (i := 1) rfl
  have hf := r.free 1
  have hr : Rf w g p n c xs pl := ⟨r, hx, hn, hnc, hc63, hp, hne, hpl⟩
  have Hr := Lib.hid hr
  clear r hx hn hnc hp hne h hr
  generalize pl + l = nx at hrd hq ⊢
  go_enter Tryd.func64, Tryd.ntmps64
  go_wp2_with fail
  -- <<n1
  refine wp_region_rg2 (Only []) [[(0, none)], [(10, some 0)], [(11, some 0)], [(12, some 0)], [(0, none)], [(14, some 0)], [(15, some 0)], [(16, some 0)], [(13, some 4), (17, some 0)], [(18, some 0)], [(9, some 0)], [(9, some 1)], [(9, some 2)], [(19, some 2)], [(20, some 2)], [(21, some 2)]] [(6, 2), (7, 1), (8, 0)] [none, none, none, none, none, none, some 6, some 7, some 8, some 9, some 10, some 11, some 12, some 13, some 14, some 15, some 16, some 17, some 18, some 19, some 20, some 21, none, none, none, none, none, none, none, none, none, none, none, none] (by kernel_rfl) rfl (by kernel_rfl) (fun _ => Only.refl _ _) (fun _ _ _ h k => h.trans0 k) (Only.drew _) (by kernel_rfl) ?_
  -- 0: s10 := move t0
  apply rg_ev
  · intro a w hR hf
    obtain ⟨e0, -⟩ := hf
    replace e0 : a.tmps.getD 0 undef = _ := e0
    refine rg_plain rfl fun K hK => ?_
    go_simp
    exact hK _ _ rfl (Only.refl _ _)
  -- 1: s11 := nilCheck t10
  apply rg_ev
  · intro a w hR hf
    obtain ⟨e10, -⟩ := hf
    replace e10 : a.tmps.getD 10 undef = _ := e10
    refine rg_plain rfl fun K hK => ?_
    go_simp
    exact hK _ _ rfl (Only.refl _ _)
  -- 2: s12 := fieldAddr 51 t11 0
  apply rg_ev
  · intro a w hR hf
    obtain ⟨e11, -⟩ := hf
    replace e11 : a.tmps.getD 11 undef = _ := e11
    refine rg_plain rfl fun K hK => ?_
    go_simp
    exact hK _ _ rfl (Only.refl _ _)
  -- 3: s13 := load 26 t12
  apply rg_ev
  · intro a w hR hf
    obtain ⟨e12, -⟩ := hf
    replace e12 : a.tmps.getD 12 undef = _ := e12
    refine rg_plain rfl fun K hK => ?_
    have h0' := hR.cell h0 (by simp)
    go_simp
    exact hK _ _ rfl (Only.refl _ _)
  -- 4: s14 := move t0
  apply rg_ev
  · intro a w hR hf
    obtain ⟨e0, -⟩ := hf
    replace e0 : a.tmps.getD 0 undef = _ := e0
    refine rg_plain rfl fun K hK => ?_
    go_simp
    exact hK _ _ rfl (Only.refl _ _)
  -- 5: s15 := nilCheck t14
  apply rg_ev
  · intro a w hR hf
    obtain ⟨e14, -⟩ := hf
    replace e14 : a.tmps.getD 14 undef = _ := e14
    refine rg_plain rfl fun K hK => ?_
    go_simp
    exact hK _ _ rfl (Only.refl _ _)
  -- 6: s16 := fieldAddr 51 t15 1
  apply rg_ev
  · intro a w hR hf
    obtain ⟨e15, -⟩ := hf
    replace e15 : a.tmps.getD 15 undef = _ := e15
    refine rg_plain rfl fun K hK => ?_
    go_simp
    exact hK _ _ rfl (Only.refl _ _)
  -- 7: s17 := load 3 t16
  apply rg_ev
  · intro a w hR hf
    obtain ⟨e16, -⟩ := hf
    replace e16 : a.tmps.getD 16 undef = _ := e16
    refine rg_plain rfl fun K hK => ?_
    have h1' := hR.cell h1 (by simp)
    go_simp
    exact hK _ _ rfl (Only.refl _ _)
  -- 8: s18 := call { value (Operand.func 40), args := #[t13, t17], #[26, 3] }
  apply rg_ev
  · intro a w hR hf
    obtain ⟨e13, e17, -⟩ := hf
    replace e13 : a.tmps.getD 13 undef = _ := e13
    replace e17 : a.tmps.getD 17 undef = _ := e17
    refine rg_plain rfl fun K hK => ?_
    go_simp
    (with_reducible refine (hrd w hR).mono ?_)
    rintro e w' ⟨rfl, h⟩
    exact hK _ _ rfl h
  -- 9: s9 := move t18
  apply rg_ev
  · intro a w hR hf
    obtain ⟨e18, -⟩ := hf
    replace e18 : a.tmps.getD 18 undef = _ := e18
    refine rg_plain rfl fun K hK => ?_
    go_simp
    exact hK _ _ rfl (Only.refl _ _)
  -- 10: s19 := extract t9 0
  apply rg_ev
  · intro a w hR hf
    obtain ⟨e9, -⟩ := hf
    replace e9 : a.tmps.getD 9 undef = _ := e9
    refine rg_plain rfl fun K hK => ?_
    go_simp
    exact hK _ _ rfl (Only.refl _ _)
  -- 11: s20 := extract t9 1
  apply rg_ev
  · intro a w hR hf
    obtain ⟨e9, -⟩ := hf
    replace e9 : a.tmps.getD 9 undef = _ := e9
    refine rg_plain rfl fun K hK => ?_
    go_simp
    exact hK _ _ rfl (Only.refl _ _)
  -- 12: s21 := extract t9 2
  apply rg_ev
  · intro a w hR hf
    obtain ⟨e9, -⟩ := hf
    replace e9 : a.tmps.getD 9 undef = _ := e9
    refine rg_plain rfl fun K hK => ?_
    go_simp
    exact hK _ _ rfl (Only.refl _ _)
  -- 13: s6 := assign t19
  apply rg_ev
  · intro a w hR hf
    obtain ⟨e19, -⟩ := hf
    replace e19 : a.tmps.getD 19 undef = _ := e19
    refine rg_plain rfl fun K hK => ?_
    go_simp
    exact hK _ _ rfl (Only.refl _ _)
  -- 14: s7 := assign t20
  apply rg_ev
  · intro a w hR hf
    obtain ⟨e20, -⟩ := hf
    replace e20 : a.tmps.getD 20 undef = _ := e20
    refine rg_plain rfl fun K hK => ?_
    go_simp
    exact hK _ _ rfl (Only.refl _ _)
  -- 15: s8 := assign t21
  apply rg_ev
  · intro a w hR hf
    obtain ⟨e21, -⟩ := hf
    replace e21 : a.tmps.getD 21 undef = _ := e21
    refine rg_plain rfl fun K hK => ?_
    go_simp
    exact hK _ _ rfl (Only.refl _ _)
  intro f1 w1 hR1 hf
  dsimp only [mergeT]
  obtain ⟨e6, e7, e8, -⟩ := hf
  replace e6 : f1 6 = _ := e6
  rw [e6]
  replace e7 : f1 7 = _ := e7
  rw [e7]
  replace e8 : f1 8 = _ := e8
  rw [e8]
  -- n1>>
  have hf1 := (hR1.frozen (a := ⟨g, 1, none⟩) (World.block_lt_of_cell? w _ h1) (by simp)).trans hf
  have hc0 := hR1.cell h0 (by simp)
  have hc1 := hR1.cell h1 (by simp)
  clear h0 h1 hf
  by_cases hm : (m : Int) ≤ most
  · have hd : (decide (most < (m : Int))) = false := by simp; omega
    have Hm := Lib.hid hm
    clear hm
    go_wp2_with fail
    go_ret2
    exact ⟨CaseP.ofYes Hm.out ⟨rfl, (Hr.out.only0 hR1).move hq⟩, (hR1.mono (by simp)).trans (Only.setCell w1 ⟨g, 1, none⟩ _) (fun i hi _ => hi)⟩
  · have hd : (decide (most < (m : Int))) = true := by simp; omega
    have Hm := Lib.hid hm
    clear hm
    go_wp2_with fail
    go_ret2
    exact ⟨CaseP.ofNo (by have := Hm.out; omega) ⟨rfl, Hr.out.only0 hR1⟩, hR1.mono (by simp)⟩

theorem rfNum_none (w : World) (g : Nat) (p : Option Addr) (xs : List UInt8) (n c pl : Nat) (most : Int) (hr : Rf w g p n c xs pl) (hb : n ≤ 140737488351232) (h : ¬ ∃ n l : Nat, Says (xs.drop pl) n l) :
    Calls Tryd.prog 64 #[.pointer (some ⟨g, 0, none⟩), .int .i64 most] w fun e w' => e = .returned (.tuple #[.int .i64 0, .int .i64 5]) ∧ Rf w' g p n c xs pl ∧ Only [g] w w' := by
  obtain ⟨r, hx, hn, hnc, hc63, hp, hne, hpl⟩ := hr
  have hrd := fun w1 (h1 : Only [] w w1) => refRead_no w1 p xs n c pl hn hnc hb hc63 hp (hx.only0 h1) hpl h
  have h0 := r.cell (i := 0) rfl
  have h1 := r.cell (i := 1) rfl
  have hr : Rf w g p n c xs pl := ⟨r, hx, hn, hnc, hc63, hp, hne, hpl⟩
  have Hr := Lib.hid hr
  clear r hx hn hnc hp hne h hr
  go_enter Tryd.func64, Tryd.ntmps64
  go_wp2_with fail
  -- <<n1no
  refine wp_region_rg2 (Only []) [[(0, none)], [(10, some 0)], [(11, some 0)], [(12, some 0)], [(0, none)], [(14, some 0)], [(15, some 0)], [(16, some 0)], [(13, some 4), (17, some 0)], [(18, some 0)], [(9, some 0)], [(9, some 1)], [(9, some 2)], [(19, some 2)], [(20, some 2)], [(21, some 2)]] [(6, 2), (7, 1), (8, 0)] [none, none, none, none, none, none, some 6, some 7, some 8, some 9, some 10, some 11, some 12, some 13, some 14, some 15, some 16, some 17, some 18, some 19, some 20, some 21, none, none, none, none, none, none, none, none, none, none, none, none] (by kernel_rfl) rfl (by kernel_rfl) (fun _ => Only.refl _ _) (fun _ _ _ h k => h.trans0 k) (Only.drew _) (by kernel_rfl) ?_
  -- 0: s10 := move t0
  apply rg_ev
  · intro a w hR hf
    obtain ⟨e0, -⟩ := hf
    replace e0 : a.tmps.getD 0 undef = _ := e0
    refine rg_plain rfl fun K hK => ?_
    go_simp
    exact hK _ _ rfl (Only.refl _ _)
  -- 1: s11 := nilCheck t10
  apply rg_ev
  · intro a w hR hf
    obtain ⟨e10, -⟩ := hf
    replace e10 : a.tmps.getD 10 undef = _ := e10
    refine rg_plain rfl fun K hK => ?_
    go_simp
    exact hK _ _ rfl (Only.refl _ _)
  -- 2: s12 := fieldAddr 51 t11 0
  apply rg_ev
  · intro a w hR hf
    obtain ⟨e11, -⟩ := hf
    replace e11 : a.tmps.getD 11 undef = _ := e11
    refine rg_plain rfl fun K hK => ?_
    go_simp
    exact hK _ _ rfl (Only.refl _ _)
  -- 3: s13 := load 26 t12
  apply rg_ev
  · intro a w hR hf
    obtain ⟨e12, -⟩ := hf
    replace e12 : a.tmps.getD 12 undef = _ := e12
    refine rg_plain rfl fun K hK => ?_
    have h0' := hR.cell h0 (by simp)
    go_simp
    exact hK _ _ rfl (Only.refl _ _)
  -- 4: s14 := move t0
  apply rg_ev
  · intro a w hR hf
    obtain ⟨e0, -⟩ := hf
    replace e0 : a.tmps.getD 0 undef = _ := e0
    refine rg_plain rfl fun K hK => ?_
    go_simp
    exact hK _ _ rfl (Only.refl _ _)
  -- 5: s15 := nilCheck t14
  apply rg_ev
  · intro a w hR hf
    obtain ⟨e14, -⟩ := hf
    replace e14 : a.tmps.getD 14 undef = _ := e14
    refine rg_plain rfl fun K hK => ?_
    go_simp
    exact hK _ _ rfl (Only.refl _ _)
  -- 6: s16 := fieldAddr 51 t15 1
  apply rg_ev
  · intro a w hR hf
    obtain ⟨e15, -⟩ := hf
    replace e15 : a.tmps.getD 15 undef = _ := e15
    refine rg_plain rfl fun K hK => ?_
    go_simp
    exact hK _ _ rfl (Only.refl _ _)
  -- 7: s17 := load 3 t16
  apply rg_ev
  · intro a w hR hf
    obtain ⟨e16, -⟩ := hf
    replace e16 : a.tmps.getD 16 undef = _ := e16
    refine rg_plain rfl fun K hK => ?_
    have h1' := hR.cell h1 (by simp)
    go_simp
    exact hK _ _ rfl (Only.refl _ _)
  -- 8: s18 := call { value (Operand.func 40), args := #[t13, t17], #[26, 3] }
  refine ⟨TupNo, TupNo.stable, fun a w hR hf => ?_, ?_⟩
  · obtain ⟨e13, e17, -⟩ := hf
    replace e13 : a.tmps.getD 13 undef = _ := e13
    replace e17 : a.tmps.getD 17 undef = _ := e17
    refine rg_plain rfl fun K hK => ?_
    go_simp
    (with_reducible refine (hrd w hR).mono ?_)
    rintro e w' ⟨a, b, rfl, h⟩
    exact hK _ _ ⟨a, b, rfl⟩ h
  -- 9: s9 := move t18
  refine ⟨TupNo, TupNo.stable, fun a w hR hf => ?_, ?_⟩
  · obtain ⟨e18, -⟩ := hf
    replace e18 : TupNo (a.tmps.getD 18 undef) w := e18
    refine rg_plain rfl fun K hK => ?_
    generalize hv18 : a.tmps.getD 18 undef = v18 at e18
    go_simp
    exact hK _ _ e18 (Only.refl _ _)
  -- 10: s19 := extract t9 0
  refine ⟨AnyI, AnyI.stable, fun a w hR hf => ?_, ?_⟩
  · obtain ⟨e9, -⟩ := hf
    replace e9 : TupNo (a.tmps.getD 9 undef) w := e9
    refine rg_plain rfl fun K hK => ?_
    obtain ⟨x, y, e9⟩ := e9
    go_simp
    exact hK _ _ ⟨_, rfl⟩ (Only.refl _ _)
  -- 11: s20 := extract t9 1
  refine ⟨AnyI, AnyI.stable, fun a w hR hf => ?_, ?_⟩
  · obtain ⟨e9, -⟩ := hf
    replace e9 : TupNo (a.tmps.getD 9 undef) w := e9
    refine rg_plain rfl fun K hK => ?_
    obtain ⟨x, y, e9⟩ := e9
    go_simp
    exact hK _ _ ⟨_, rfl⟩ (Only.refl _ _)
  -- 12: s21 := extract t9 2
  apply rg_ev
  · intro a w hR hf
    obtain ⟨e9, -⟩ := hf
    replace e9 : TupNo (a.tmps.getD 9 undef) w := e9
    refine rg_plain rfl fun K hK => ?_
    obtain ⟨x, y, e9⟩ := e9
    go_simp
    exact hK _ _ rfl (Only.refl _ _)
  -- 13: s6 := assign t19
  refine ⟨AnyI, AnyI.stable, fun a w hR hf => ?_, ?_⟩
  · obtain ⟨e19, -⟩ := hf
    replace e19 : AnyI (a.tmps.getD 19 undef) w := e19
    refine rg_plain rfl fun K hK => ?_
    generalize hv19 : a.tmps.getD 19 undef = v19 at e19
    go_simp
    exact hK _ _ e19 (Only.refl _ _)
  -- 14: s7 := assign t20
  refine ⟨AnyI, AnyI.stable, fun a w hR hf => ?_, ?_⟩
  · obtain ⟨e20, -⟩ := hf
    replace e20 : AnyI (a.tmps.getD 20 undef) w := e20
    refine rg_plain rfl fun K hK => ?_
    generalize hv20 : a.tmps.getD 20 undef = v20 at e20
    go_simp
    exact hK _ _ e20 (Only.refl _ _)
  -- 15: s8 := assign t21
  apply rg_ev
  · intro a w hR hf
    obtain ⟨e21, -⟩ := hf
    replace e21 : a.tmps.getD 21 undef = _ := e21
    refine rg_plain rfl fun K hK => ?_
    go_simp
    exact hK _ _ rfl (Only.refl _ _)
  intro f1 w1 hR1 hf
  dsimp only [mergeT]
  obtain ⟨e6, e7, e8, -⟩ := hf
  replace e6 : AnyI (f1 6) w1 := e6
  replace e7 : AnyI (f1 7) w1 := e7
  replace e8 : f1 8 = _ := e8
  rw [e8]
  -- n1no>>
  obtain ⟨a6, e6⟩ := e6
  obtain ⟨a7, e7⟩ := e7
  rw [e6, e7]
  clear h0 h1
  go_wp2_with fail
  go_ret2
  exact ⟨rfl, Hr.out.only0 hR1, hR1.mono (by simp)⟩

theorem rfNum_any (w : World) (g : Nat) (p : Option Addr) (xs : List UInt8) (n c pl : Nat) (most : Int) (hr : Rf w g p n c xs pl) (hb : n ≤ 140737488351232) :
    Calls Tryd.prog 64 #[.pointer (some ⟨g, 0, none⟩), .int .i64 most] w fun e w' => e = .returned (.tuple #[.int .i64 (numV xs pl most : Int), .int .i64 (numE xs pl most : Int)]) ∧ Rf w' g p n c xs (numQ xs pl most) ∧ Only [g] w w' := by
  by_cases h : ∃ n l : Nat, Says (xs.drop pl) n l
  · obtain ⟨m, l, h⟩ := h
    have e1 : numOk xs pl most = if (m : Int) ≤ most then some (m, pl + l) else none := by rw [numOk, numAt_yes h]; rfl
    refine (rfNum_says w g p xs n c pl m l most hr hb h).mono ?_
    rintro e w' ⟨h0, h2⟩
    rw [numV, numE, numQ, e1]
    by_cases hm : (m : Int) ≤ most
    · obtain ⟨rfl, h1⟩ := h0.yes hm
      rw [if_pos hm]
      exact ⟨rfl, h1, h2⟩
    · obtain ⟨rfl, h1⟩ := h0.no hm
      rw [if_neg hm]
      exact ⟨rfl, h1, h2⟩
  · have e1 : numOk xs pl most = none := by rw [numOk, numAt_no h]; rfl
    refine (rfNum_none w g p xs n c pl most hr hb h).mono ?_
    rintro e w' ⟨rfl, h1, h2⟩
    rw [numV, numE, numQ, e1]
    exact ⟨rfl, h1, h2⟩

theorem rfBy_says (w : World) (g : Nat) (p : Option Addr) (xs : List UInt8) (n c pl m l : Nat) (most : Int) (hr : Rf w g p n c xs pl) (hb : n ≤ 140737488351232) (h : Says (xs.drop pl) m l) :
    Calls Tryd.prog 62 #[.pointer (some ⟨g, 0, none⟩), .int .i64 most] w fun e w' => CaseP ((m : Int) ≤ most ∧ pl + l + m ≤ n) ((∃ q k, e = .returned (.tuple #[.slice q m k, .int .i64 0]) ∧ Own w' w.heap.size 5 (.slice q m k) (u8s ((xs.drop (pl + l)).take m))) ∧ Rf w' g p n c xs (pl + l + m)) (e = .returned (.tuple #[.slice none 0 0, .int .i64 5]) ∧ Rf w' g p n c xs pl) ∧ Only [g] w w' := by
  have hq : pl + l ≤ n := by have := h.2.2; rw [List.length_drop] at this; have := hr.2.2.1; have := hr.2.2.2.2.2.2.2; omega
  have hm63 := h.1
  have hpos : 0 < xs.length := by
    have := h.len
    have := nb_pos m
    have := hr.2.2.1
    omega
  obtain ⟨r, hx, hn, hnc, hc63, hp, hne, hpl⟩ := hr
  have hrd := fun w1 (h1 : Only [] w w1) => refRead_yes w1 p xs n c pl m l hn hnc hb hc63 hp (hx.only0 h1) hpl h
  have h0 := r.cell (i := 0) rfl
  have h1 := r.cell (i := 1) rfl
  have hf := r.free 1
  have hr : Rf w g p n c xs pl := ⟨r, hx, hn, hnc, hc63, hp, hne, hpl⟩
  have Hr := Lib.hid hr
  clear r hx hn hnc hp hne h hr
  generalize pl + l = nx at hrd hq ⊢
  go_enter Tryd.func62, Tryd.ntmps62
  go_wp2_with fail
  -- <<b1
  refine wp_region_rg2 (Only []) [[(0, none)], [(10, some 0)], [(11, some 0)], [(12, some 0)], [(0, none)], [(14, some 0)], [(15, some 0)], [(16, some 0)], [(13, some 4), (17, some 0)], [(18, some 0)], [(9, some 0)], [(9, some 1)], [(9, some 2)], [(19, some 2)], [(20, some 2)], [(21, some 2)]] [(6, 2), (7, 1), (8, 0)] [none, none, none, none, none, none, some 6, some 7, some 8, some 9, some 10, some 11, some 12, some 13, some 14, some 15, some 16, some 17, some 18, some 19, some 20, some 21, none, none, none, none, none, none, none, none, none, none, none, none, none, none, none, none, none, none, none, none, none, none, none, none, none, none, none, none, none, none, none, none, none, none, none, none] (by kernel_rfl) rfl (by kernel_rfl) (fun _ => Only.refl _ _) (fun _ _ _ h k => h.trans0 k) (Only.drew _) (by kernel_rfl) ?_
  -- 0: s10 := move t0
  apply rg_ev
  · intro a w hR hf
    obtain ⟨e0, -⟩ := hf
    replace e0 : a.tmps.getD 0 undef = _ := e0
    refine rg_plain rfl fun K hK => ?_
    go_simp
    exact hK _ _ rfl (Only.refl _ _)
  -- 1: s11 := nilCheck t10
  apply rg_ev
  · intro a w hR hf
    obtain ⟨e10, -⟩ := hf
    replace e10 : a.tmps.getD 10 undef = _ := e10
    refine rg_plain rfl fun K hK => ?_
    go_simp
    exact hK _ _ rfl (Only.refl _ _)
  -- 2: s12 := fieldAddr 51 t11 0
  apply rg_ev
  · intro a w hR hf
    obtain ⟨e11, -⟩ := hf
    replace e11 : a.tmps.getD 11 undef = _ := e11
    refine rg_plain rfl fun K hK => ?_
    go_simp
    exact hK _ _ rfl (Only.refl _ _)
  -- 3: s13 := load 26 t12
  apply rg_ev
  · intro a w hR hf
    obtain ⟨e12, -⟩ := hf
    replace e12 : a.tmps.getD 12 undef = _ := e12
    refine rg_plain rfl fun K hK => ?_
    have h0' := hR.cell h0 (by simp)
    go_simp
    exact hK _ _ rfl (Only.refl _ _)
  -- 4: s14 := move t0
  apply rg_ev
  · intro a w hR hf
    obtain ⟨e0, -⟩ := hf
    replace e0 : a.tmps.getD 0 undef = _ := e0
    refine rg_plain rfl fun K hK => ?_
    go_simp
    exact hK _ _ rfl (Only.refl _ _)
  -- 5: s15 := nilCheck t14
  apply rg_ev
  · intro a w hR hf
    obtain ⟨e14, -⟩ := hf
    replace e14 : a.tmps.getD 14 undef = _ := e14
    refine rg_plain rfl fun K hK => ?_
    go_simp
    exact hK _ _ rfl (Only.refl _ _)
  -- 6: s16 := fieldAddr 51 t15 1
  apply rg_ev
  · intro a w hR hf
    obtain ⟨e15, -⟩ := hf
    replace e15 : a.tmps.getD 15 undef = _ := e15
    refine rg_plain rfl fun K hK => ?_
    go_simp
    exact hK _ _ rfl (Only.refl _ _)
  -- 7: s17 := load 3 t16
  apply rg_ev
  · intro a w hR hf
    obtain ⟨e16, -⟩ := hf
    replace e16 : a.tmps.getD 16 undef = _ := e16
    refine rg_plain rfl fun K hK => ?_
    have h1' := hR.cell h1 (by simp)
    go_simp
    exact hK _ _ rfl (Only.refl _ _)
  -- 8: s18 := call { value (Operand.func 40), args := #[t13, t17], #[26, 3] }
  apply rg_ev
  · intro a w hR hf
    obtain ⟨e13, e17, -⟩ := hf
    replace e13 : a.tmps.getD 13 undef = _ := e13
    replace e17 : a.tmps.getD 17 undef = _ := e17
    refine rg_plain rfl fun K hK => ?_
    go_simp
    (with_reducible refine (hrd w hR).mono ?_)
    rintro e w' ⟨rfl, h⟩
    exact hK _ _ rfl h
  -- 9: s9 := move t18
  apply rg_ev
  · intro a w hR hf
    obtain ⟨e18, -⟩ := hf
    replace e18 : a.tmps.getD 18 undef = _ := e18
    refine rg_plain rfl fun K hK => ?_
    go_simp
    exact hK _ _ rfl (Only.refl _ _)
  -- 10: s19 := extract t9 0
  apply rg_ev
  · intro a w hR hf
    obtain ⟨e9, -⟩ := hf
    replace e9 : a.tmps.getD 9 undef = _ := e9
    refine rg_plain rfl fun K hK => ?_
    go_simp
    exact hK _ _ rfl (Only.refl _ _)
  -- 11: s20 := extract t9 1
  apply rg_ev
  · intro a w hR hf
    obtain ⟨e9, -⟩ := hf
    replace e9 : a.tmps.getD 9 undef = _ := e9
    refine rg_plain rfl fun K hK => ?_
    go_simp
    exact hK _ _ rfl (Only.refl _ _)
  -- 12: s21 := extract t9 2
  apply rg_ev
  · intro a w hR hf
    obtain ⟨e9, -⟩ := hf
    replace e9 : a.tmps.getD 9 undef = _ := e9
    refine rg_plain rfl fun K hK => ?_
    go_simp
    exact hK _ _ rfl (Only.refl _ _)
  -- 13: s6 := assign t19
  apply rg_ev
  · intro a w hR hf
    obtain ⟨e19, -⟩ := hf
    replace e19 : a.tmps.getD 19 undef = _ := e19
    refine rg_plain rfl fun K hK => ?_
    go_simp
    exact hK _ _ rfl (Only.refl _ _)
  -- 14: s7 := assign t20
  apply rg_ev
  · intro a w hR hf
    obtain ⟨e20, -⟩ := hf
    replace e20 : a.tmps.getD 20 undef = _ := e20
    refine rg_plain rfl fun K hK => ?_
    go_simp
    exact hK _ _ rfl (Only.refl _ _)
  -- 15: s8 := assign t21
  apply rg_ev
  · intro a w hR hf
    obtain ⟨e21, -⟩ := hf
    replace e21 : a.tmps.getD 21 undef = _ := e21
    refine rg_plain rfl fun K hK => ?_
    go_simp
    exact hK _ _ rfl (Only.refl _ _)
  intro f1 w1 hR1 hf
  dsimp only [mergeT]
  obtain ⟨e6, e7, e8, -⟩ := hf
  replace e6 : f1 6 = _ := e6
  rw [e6]
  replace e7 : f1 7 = _ := e7
  rw [e7]
  replace e8 : f1 8 = _ := e8
  rw [e8]
  -- b1>>
  have hf1 := (hR1.frozen (a := ⟨g, 1, none⟩) (World.block_lt_of_cell? w _ h1) (by simp)).trans hf
  have hc0 := hR1.cell h0 (by simp)
  have hc1 := hR1.cell h1 (by simp)
  clear h0 h1 hf
  by_cases hm : (m : Int) ≤ most
  · have hd : (decide (most < (m : Int))) = false := by simp; omega
    by_cases hm2 : nx + m ≤ n
    · have hd2 : (decide ((n : Int) - (nx : Int) < (m : Int))) = false := by simp; omega
      have Hm := Lib.hid (And.intro hm hm2)
      clear hm
      go_wp2_with fail
      have ho1 : Only [g] w (w1.setCell ⟨g, 1, none⟩ (.int .i64 ((nx : Int) + (m : Int)))) := (hR1.mono (by simp)).trans (Only.setCell w1 ⟨g, 1, none⟩ _) (fun i hi _ => hi)
      have hmv := (Hr.out.only0 hR1).move hm2
      rw [Int.natCast_add] at hmv
      generalize w1.setCell ⟨g, 1, none⟩ (.int .i64 ((nx : Int) + (m : Int))) = w2 at ho1 hmv
      have Hmv := Lib.hid hmv
      clear hc0 hc1 hf1 Hr
      obtain ⟨r, hx, hn, hnc, hc63, hp, hne, hpl⟩ := hmv
      have hc0 := r.cell (i := 0) rfl
      have hc1 := r.cell (i := 1) rfl
      obtain ⟨b0, off, rfl, -⟩ := hx.bytes hpos
      have rdk : Rd w2 (some ⟨b0, off + nx, none⟩) (u8s ((xs.drop nx).take m)) := by rw [← u8s_take, ← u8s_drop]; exact (hx.skip nx).take m
      have hlk : ((xs.drop nx).take m).length = m := by rw [List.length_take, List.length_drop]; omega
      have Hlk := Lib.hid hlk
      clear hlk r hx hn
      -- <<b5
      refine wp_region_rg2 (Only []) [[], [(0, none)], [(47, some 0)], [(48, some 0)], [(49, some 0)], [(7, none)], [(0, none)], [(52, some 0)], [(53, some 0)], [(54, some 0)], [(50, some 5), (51, some 4), (55, some 0)], [(46, some 10), (56, some 0)], [(57, some 0)], []] [(4, 1), (5, 0)] [none, none, none, none, some 4, some 5, none, none, none, none, none, none, none, none, none, none, none, none, none, none, none, none, none, none, none, none, none, none, none, none, none, none, none, none, none, none, none, none, none, none, none, none, none, none, none, none, some 46, some 47, some 48, some 49, some 50, some 51, some 52, some 53, some 54, some 55, some 56, some 57] (by kernel_rfl) rfl (by kernel_rfl) (fun _ => Only.refl _ _) (fun _ _ _ h k => h.trans0 k) (Only.drew _) (by kernel_rfl) ?_
      -- 0: s46 := buildSlice 26 0 #[]
      refine ⟨Own0 w2.heap.size, fun v w w' h ho => Own0.stable _ h ho, fun a w hR hf => ?_, ?_⟩
      · refine rg_plain rfl fun K hK => ?_
        go_simp
        exact hK _ _ ⟨_, rfl, Own.ofRow (vs := []) (rest := []) hR.size (Row.new w _ _) rfl (by omega)⟩ (Only.alloc _ _)
      -- 1: s47 := move t0
      apply rg_ev
      · intro a w hR hf
        obtain ⟨e0, -⟩ := hf
        replace e0 : a.tmps.getD 0 undef = _ := e0
        refine rg_plain rfl fun K hK => ?_
        go_simp
        exact hK _ _ rfl (Only.refl _ _)
      -- 2: s48 := nilCheck t47
      apply rg_ev
      · intro a w hR hf
        obtain ⟨e47, -⟩ := hf
        replace e47 : a.tmps.getD 47 undef = _ := e47
        refine rg_plain rfl fun K hK => ?_
        go_simp
        exact hK _ _ rfl (Only.refl _ _)
      -- 3: s49 := fieldAddr 51 t48 0
      apply rg_ev
      · intro a w hR hf
        obtain ⟨e48, -⟩ := hf
        replace e48 : a.tmps.getD 48 undef = _ := e48
        refine rg_plain rfl fun K hK => ?_
        go_simp
        exact hK _ _ rfl (Only.refl _ _)
      -- 4: s50 := load 26 t49
      apply rg_ev
      · intro a w hR hf
        obtain ⟨e49, -⟩ := hf
        replace e49 : a.tmps.getD 49 undef = _ := e49
        refine rg_plain rfl fun K hK => ?_
        have h0' := hR.cell hc0 (by simp)
        go_simp
        exact hK _ _ rfl (Only.refl _ _)
      -- 5: s51 := move t7
      apply rg_ev
      · intro a w hR hf
        obtain ⟨e7, -⟩ := hf
        replace e7 : a.tmps.getD 7 undef = _ := e7
        refine rg_plain rfl fun K hK => ?_
        go_simp
        exact hK _ _ rfl (Only.refl _ _)
      -- 6: s52 := move t0
      apply rg_ev
      · intro a w hR hf
        obtain ⟨e0, -⟩ := hf
        replace e0 : a.tmps.getD 0 undef = _ := e0
        refine rg_plain rfl fun K hK => ?_
        go_simp
        exact hK _ _ rfl (Only.refl _ _)
      -- 7: s53 := nilCheck t52
      apply rg_ev
      · intro a w hR hf
        obtain ⟨e52, -⟩ := hf
        replace e52 : a.tmps.getD 52 undef = _ := e52
        refine rg_plain rfl fun K hK => ?_
        go_simp
        exact hK _ _ rfl (Only.refl _ _)
      -- 8: s54 := fieldAddr 51 t53 1
      apply rg_ev
      · intro a w hR hf
        obtain ⟨e53, -⟩ := hf
        replace e53 : a.tmps.getD 53 undef = _ := e53
        refine rg_plain rfl fun K hK => ?_
        go_simp
        exact hK _ _ rfl (Only.refl _ _)
      -- 9: s55 := load 3 t54
      apply rg_ev
      · intro a w hR hf
        obtain ⟨e54, -⟩ := hf
        replace e54 : a.tmps.getD 54 undef = _ := e54
        refine rg_plain rfl fun K hK => ?_
        have h1' := hR.cell hc1 (by simp)
        go_simp
        exact hK _ _ rfl (Only.refl _ _)
      -- 10: s56 := slice 26 t50 (some t51) (some t55) none
      refine ⟨IsBy ((xs.drop nx).take m) m, IsBy.stable _ _, fun a w hR hf => ?_, ?_⟩
      · obtain ⟨e50, e51, e55, -⟩ := hf
        replace e50 : a.tmps.getD 50 undef = _ := e50
        replace e51 : a.tmps.getD 51 undef = _ := e51
        replace e55 : a.tmps.getD 55 undef = _ := e55
        refine rg_plain rfl fun K hK => ?_
        go_simp
        have hk3 : ((nx : Int) + (m : Int)).toNat - nx = m := by omega
        rw [if_pos ⟨by omega, by omega⟩, if_pos (by omega), hk3]
        go_simp
        refine hK _ _ ⟨Hlk.out, _, _, rfl, ?_, by split <;> simp⟩ (Only.refl _ _)
        split
        · rw [List.take_eq_nil_iff.2 (.inl (by omega : m = 0))]; exact Rd.nil _ _
        · exact rdk.only0 hR
      -- 11: s57 := call { builtin append, args := #[t46, t56], #[26, 26] }
      refine ⟨OwnBy ((xs.drop nx).take m) m w2.heap.size, OwnBy.stable _ _ _, fun a w hR hf => ?_, ?_⟩
      · obtain ⟨e46, e56, -⟩ := hf
        replace e46 : Own0 w2.heap.size (a.tmps.getD 46 undef) w := e46
        replace e56 : IsBy ((xs.drop nx).take m) m (a.tmps.getD 56 undef) w := e56
        refine rg_plain rfl fun K hK => ?_
        obtain ⟨p46, e46, o46⟩ := e46
        obtain ⟨l56, p56, k56, e56, r56, n56⟩ := e56
        obtain ⟨p', c', w3, hr, o3, h3⟩ := append_fresh (P := Tryd.prog) (bytes := 1) (c := k56) (t := 22) (ty := 22) w Tryd.underlying22 infoU8w rfl o46 r56 (by rw [u8s_length, l56]) n56 (fun v hv => u8s_one hv) (by omega) (by omega) hR.size
        refine rg_append (s := .tmp 46) (x := .tmp 56) rfl e46 e56 hr ?_
        exact hK _ _ ⟨p', c', rfl, o3⟩ h3
      -- 12: s4 := assign t57
      refine ⟨OwnBy ((xs.drop nx).take m) m w2.heap.size, OwnBy.stable _ _ _, fun a w hR hf => ?_, ?_⟩
      · obtain ⟨e57, -⟩ := hf
        replace e57 : OwnBy ((xs.drop nx).take m) m w2.heap.size (a.tmps.getD 57 undef) w := e57
        refine rg_plain rfl fun K hK => ?_
        generalize hv57 : a.tmps.getD 57 undef = v57 at e57
        go_simp
        exact hK _ _ e57 (Only.refl _ _)
      -- 13: s5 := assign (const (0:i64))
      apply rg_ev
      · intro a w hR hf
        refine rg_plain rfl fun K hK => ?_
        go_simp
        exact hK _ _ rfl (Only.refl _ _)
      intro f5 w5 hR5 hf
      dsimp only [mergeT]
      obtain ⟨e4, e5, -⟩ := hf
      replace e4 : OwnBy ((xs.drop nx).take m) m w2.heap.size (f5 4) w5 := e4
      replace e5 : f5 5 = _ := e5
      rw [e5]
      -- b5>>
      go_wp2_with fail
      go_ret2
      obtain ⟨q, k, e57, o⟩ := e4
      rw [e57]
      exact ⟨CaseP.ofYes Hm.out ⟨⟨q, k, rfl, o.weaken ho1.size⟩, Hmv.out.only0 hR5⟩, ho1.trans0 hR5⟩
    · have hd2 : (decide ((n : Int) - (nx : Int) < (m : Int))) = true := by simp; omega
      have Hm := Lib.hid (fun z : (m : Int) ≤ most ∧ nx + m ≤ n => hm2 z.2)
      clear hm hm2
      go_wp2_with fail
      go_ret2
      exact ⟨CaseP.ofNo (by have := Hm.out; omega) ⟨rfl, Hr.out.only0 hR1⟩, hR1.mono (by simp)⟩
  · have hd : (decide (most < (m : Int))) = true := by simp; omega
    have Hm := Lib.hid (fun z : (m : Int) ≤ most ∧ nx + m ≤ n => hm z.1)
    clear hm
    go_wp2_with fail
    go_ret2
    exact ⟨CaseP.ofNo (by have := Hm.out; omega) ⟨rfl, Hr.out.only0 hR1⟩, hR1.mono (by simp)⟩

theorem rfBy_none (w : World) (g : Nat) (p : Option Addr) (xs : List UInt8) (n c pl : Nat) (most : Int) (hr : Rf w g p n c xs pl) (hb : n ≤ 140737488351232) (h : ¬ ∃ n l : Nat, Says (xs.drop pl) n l) :
    Calls Tryd.prog 62 #[.pointer (some ⟨g, 0, none⟩), .int .i64 most] w fun e w' => e = .returned (.tuple #[.slice none 0 0, .int .i64 5]) ∧ Rf w' g p n c xs pl ∧ Only [g] w w' := by
  obtain ⟨r, hx, hn, hnc, hc63, hp, hne, hpl⟩ := hr
  have hrd := fun w1 (h1 : Only [] w w1) => refRead_no w1 p xs n c pl hn hnc hb hc63 hp (hx.only0 h1) hpl h
  have h0 := r.cell (i := 0) rfl
  have h1 := r.cell (i := 1) rfl
  have hr : Rf w g p n c xs pl := ⟨r, hx, hn, hnc, hc63, hp, hne, hpl⟩
  have Hr := Lib.hid hr
  clear r hx hn hnc hp hne h hr
  go_enter Tryd.func62, Tryd.ntmps62
  go_wp2_with fail
  -- <<b1no
  refine wp_region_rg2 (Only []) [[(0, none)], [(10, some 0)], [(11, some 0)], [(12, some 0)], [(0, none)], [(14, some 0)], [(15, some 0)], [(16, some 0)], [(13, some 4), (17, some 0)], [(18, some 0)], [(9, some 0)], [(9, some 1)], [(9, some 2)], [(19, some 2)], [(20, some 2)], [(21, some 2)]] [(6, 2), (7, 1), (8, 0)] [none, none, none, none, none, none, some 6, some 7, some 8, some 9, some 10, some 11, some 12, some 13, some 14, some 15, some 16, some 17, some 18, some 19, some 20, some 21, none, none, none, none, none, none, none, none, none, none, none, none, none, none, none, none, none, none, none, none, none, none, none, none, none, none, none, none, none, none, none, none, none, none, none, none] (by kernel_rfl) rfl (by kernel_rfl) (fun _ => Only.refl _ _) (fun _ _ _ h k => h.trans0 k) (Only.drew _) (by kernel_rfl) ?_
  -- 0: s10 := move t0
  apply rg_ev
  · intro a w hR hf
    obtain ⟨e0, -⟩ := hf
    replace e0 : a.tmps.getD 0 undef = _ := e0
    refine rg_plain rfl fun K hK => ?_
    go_simp
    exact hK _ _ rfl (Only.refl _ _)
  -- 1: s11 := nilCheck t10
  apply rg_ev
  · intro a w hR hf
    obtain ⟨e10, -⟩ := hf
    replace e10 : a.tmps.getD 10 undef = _ := e10
    refine rg_plain rfl fun K hK => ?_
    go_simp
    exact hK _ _ rfl (Only.refl _ _)
  -- 2: s12 := fieldAddr 51 t11 0
  apply rg_ev
  · intro a w hR hf
    obtain ⟨e11, -⟩ := hf
    replace e11 : a.tmps.getD 11 undef = _ := e11
    refine rg_plain rfl fun K hK => ?_
    go_simp
    exact hK _ _ rfl (Only.refl _ _)
  -- 3: s13 := load 26 t12
  apply rg_ev
  · intro a w hR hf
    obtain ⟨e12, -⟩ := hf
    replace e12 : a.tmps.getD 12 undef = _ := e12
    refine rg_plain rfl fun K hK => ?_
    have h0' := hR.cell h0 (by simp)
    go_simp
    exact hK _ _ rfl (Only.refl _ _)
  -- 4: s14 := move t0
  apply rg_ev
  · intro a w hR hf
    obtain ⟨e0, -⟩ := hf
    replace e0 : a.tmps.getD 0 undef = _ := e0
    refine rg_plain rfl fun K hK => ?_
    go_simp
    exact hK _ _ rfl (Only.refl _ _)
  -- 5: s15 := nilCheck t14
  apply rg_ev
  · intro a w hR hf
    obtain ⟨e14, -⟩ := hf
    replace e14 : a.tmps.getD 14 undef = _ := e14
    refine rg_plain rfl fun K hK => ?_
    go_simp
    exact hK _ _ rfl (Only.refl _ _)
  -- 6: s16 := fieldAddr 51 t15 1
  apply rg_ev
  · intro a w hR hf
    obtain ⟨e15, -⟩ := hf
    replace e15 : a.tmps.getD 15 undef = _ := e15
    refine rg_plain rfl fun K hK => ?_
    go_simp
    exact hK _ _ rfl (Only.refl _ _)
  -- 7: s17 := load 3 t16
  apply rg_ev
  · intro a w hR hf
    obtain ⟨e16, -⟩ := hf
    replace e16 : a.tmps.getD 16 undef = _ := e16
    refine rg_plain rfl fun K hK => ?_
    have h1' := hR.cell h1 (by simp)
    go_simp
    exact hK _ _ rfl (Only.refl _ _)
  -- 8: s18 := call { value (Operand.func 40), args := #[t13, t17], #[26, 3] }
  refine ⟨TupNo, TupNo.stable, fun a w hR hf => ?_, ?_⟩
  · obtain ⟨e13, e17, -⟩ := hf
    replace e13 : a.tmps.getD 13 undef = _ := e13
    replace e17 : a.tmps.getD 17 undef = _ := e17
    refine rg_plain rfl fun K hK => ?_
    go_simp
    (with_reducible refine (hrd w hR).mono ?_)
    rintro e w' ⟨a, b, rfl, h⟩
    exact hK _ _ ⟨a, b, rfl⟩ h
  -- 9: s9 := move t18
  refine ⟨TupNo, TupNo.stable, fun a w hR hf => ?_, ?_⟩
  · obtain ⟨e18, -⟩ := hf
    replace e18 : TupNo (a.tmps.getD 18 undef) w := e18
    refine rg_plain rfl fun K hK => ?_
    generalize hv18 : a.tmps.getD 18 undef = v18 at e18
    go_simp
    exact hK _ _ e18 (Only.refl _ _)
  -- 10: s19 := extract t9 0
  refine ⟨AnyI, AnyI.stable, fun a w hR hf => ?_, ?_⟩
  · obtain ⟨e9, -⟩ := hf
    replace e9 : TupNo (a.tmps.getD 9 undef) w := e9
    refine rg_plain rfl fun K hK => ?_
    obtain ⟨x, y, e9⟩ := e9
    go_simp
    exact hK _ _ ⟨_, rfl⟩ (Only.refl _ _)
  -- 11: s20 := extract t9 1
  refine ⟨AnyI, AnyI.stable, fun a w hR hf => ?_, ?_⟩
  · obtain ⟨e9, -⟩ := hf
    replace e9 : TupNo (a.tmps.getD 9 undef) w := e9
    refine rg_plain rfl fun K hK => ?_
    obtain ⟨x, y, e9⟩ := e9
    go_simp
    exact hK _ _ ⟨_, rfl⟩ (Only.refl _ _)
  -- 12: s21 := extract t9 2
  apply rg_ev
  · intro a w hR hf
    obtain ⟨e9, -⟩ := hf
    replace e9 : TupNo (a.tmps.getD 9 undef) w := e9
    refine rg_plain rfl fun K hK => ?_
    obtain ⟨x, y, e9⟩ := e9
    go_simp
    exact hK _ _ rfl (Only.refl _ _)
  -- 13: s6 := assign t19
  refine ⟨AnyI, AnyI.stable, fun a w hR hf => ?_, ?_⟩
  · obtain ⟨e19, -⟩ := hf
    replace e19 : AnyI (a.tmps.getD 19 undef) w := e19
    refine rg_plain rfl fun K hK => ?_
    generalize hv19 : a.tmps.getD 19 undef = v19 at e19
    go_simp
    exact hK _ _ e19 (Only.refl _ _)
  -- 14: s7 := assign t20
  refine ⟨AnyI, AnyI.stable, fun a w hR hf => ?_, ?_⟩
  · obtain ⟨e20, -⟩ := hf
    replace e20 : AnyI (a.tmps.getD 20 undef) w := e20
    refine rg_plain rfl fun K hK => ?_
    generalize hv20 : a.tmps.getD 20 undef = v20 at e20
    go_simp
    exact hK _ _ e20 (Only.refl _ _)
  -- 15: s8 := assign t21
  apply rg_ev
  · intro a w hR hf
    obtain ⟨e21, -⟩ := hf
    replace e21 : a.tmps.getD 21 undef = _ := e21
    refine rg_plain rfl fun K hK => ?_
    go_simp
    exact hK _ _ rfl (Only.refl _ _)
  intro f1 w1 hR1 hf
  dsimp only [mergeT]
  obtain ⟨e6, e7, e8, -⟩ := hf
  replace e6 : AnyI (f1 6) w1 := e6
  replace e7 : AnyI (f1 7) w1 := e7
  replace e8 : f1 8 = _ := e8
  rw [e8]
  -- b1no>>
  obtain ⟨a6, e6⟩ := e6
  obtain ⟨a7, e7⟩ := e7
  rw [e6, e7]
  clear h0 h1
  go_wp2_with fail
  go_ret2
  exact ⟨rfl, Hr.out.only0 hR1, hR1.mono (by simp)⟩

theorem rfBy_any (w : World) (g : Nat) (p : Option Addr) (xs : List UInt8) (n c pl : Nat) (most : Int) (hr : Rf w g p n c xs pl) (hb : n ≤ 140737488351232) :
    Calls Tryd.prog 62 #[.pointer (some ⟨g, 0, none⟩), .int .i64 most] w fun e w' => ∃ q m k, e = .returned (.tuple #[.slice q m k, .int .i64 (byE xs pl most : Int)]) ∧ Hid ((byV xs pl most).length = m) ∧ Own w' w.heap.size 5 (.slice q m k) (u8s (byV xs pl most)) ∧ Rf w' g p n c xs (byQ xs pl most) ∧ Only [g] w w' := by
  have hn := hr.2.2.1
  by_cases h : ∃ n l : Nat, Says (xs.drop pl) n l
  · obtain ⟨m, l, h⟩ := h
    have e1 : byOk xs pl most = if (m : Int) ≤ most ∧ pl + l + m ≤ n then some ((xs.drop (pl + l)).take m, pl + l + m) else none := by rw [byOk, numAt_yes h, ← hn]; rfl
    refine (rfBy_says w g p xs n c pl m l most hr hb h).mono ?_
    rintro e w' ⟨h0, h2⟩
    rw [byV, byE, byQ, e1]
    by_cases hm : (m : Int) ≤ most ∧ pl + l + m ≤ n
    · rw [if_pos hm]
      obtain ⟨⟨q, k, rfl, o⟩, h1⟩ := h0.yes hm
      exact ⟨q, m, k, rfl, by show (List.take _ _).length = m; rw [List.length_take, List.length_drop]; omega, o, h1, h2⟩
    · rw [if_neg hm]
      obtain ⟨rfl, h1⟩ := h0.no hm
      exact ⟨none, 0, 0, rfl, rfl, Own.nil _ _ _, h1, h2⟩
  · have e1 : byOk xs pl most = none := by rw [byOk, numAt_no h]; rfl
    refine (rfBy_none w g p xs n c pl most hr hb h).mono ?_
    rintro e w' ⟨rfl, h1, h2⟩
    rw [byV, byE, byQ, e1]
    exact ⟨none, 0, 0, rfl, rfl, Own.nil _ _ _, h1, h2⟩
end Go.Proofs.YtfoplbolbjcggaaDoor
