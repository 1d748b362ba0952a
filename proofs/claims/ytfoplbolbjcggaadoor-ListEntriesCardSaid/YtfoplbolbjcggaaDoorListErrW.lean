/- The walks of list.Page and bollardref20.Page where they refuse. -/
import Derived.Test.YtfoplbolbjcggaaDoorRefPageW
import Derived.Test.YtfoplbolbjcggaaDoorErrNumW
import Derived.Test.YtfoplbolbjcggaaDoorRegions
import Derived.WalkMore
set_option linter.unusedVariables false
set_option maxRecDepth 100000
namespace Go.Proofs.YtfoplbolbjcggaaDoor
open Go.RowKit Go.Shelf

def SetPg (X : Nat) : Value → World → Prop := fun _ w => Row w X 43 [.slice none 0 0, .string (str [])]
theorem SetPg.stable {X : Nat} : Stable (Only []) (SetPg X) := fun _ _ _ h ho => Row.only0 h ho
/-- the head of list.Page: the world behind its four boxes -/
def PgHead (w0 w4 : World) (nm : ByteArray) (tt dd : Int) (p : Option Addr) (n c : Nat) (u : Value) (tk : Bs) (M : Int) : Prop :=
  Only [] w0 w4 ∧ Row w4 w0.heap.size 39 [.string nm, .int .i64 tt, .int .i64 dd, .slice p n c, u] ∧ Row w4 (w0.heap.size + 1) 9 [.string (str tk)] ∧ Row w4 (w0.heap.size + 1 + 1) 3 [.int .i64 M] ∧ Row w4 (w0.heap.size + 1 + 1 + 1) 43 [.slice none 0 0, .string (str [])]
theorem pgHead (w0 : World) (nm : ByteArray) (tt dd : Int) (p : Option Addr) (n c : Nat) (u : Value) (tk : Bs) (M : Int) :
    ∃ w4, w4 = (((w0.alloc (.cells #[.string nm, .int .i64 tt, .int .i64 dd, .slice p n c, u] 39)).alloc (.cells #[.string (str tk)] 9)).alloc (.cells #[.int .i64 M] 3)).alloc (.cells #[.slice none 0 0, .string ⟨#[]⟩] 43) ∧ PgHead w0 w4 nm tt dd p n c u tk M := by
  obtain ⟨w1, hw1⟩ : ∃ w1, w1 = w0.alloc (.cells #[.string nm, .int .i64 tt, .int .i64 dd, .slice p n c, u] 39) := ⟨_, rfl⟩
  obtain ⟨w2, hw2⟩ : ∃ w2, w2 = w1.alloc (.cells #[.string (str tk)] 9) := ⟨_, rfl⟩
  obtain ⟨w3, hw3⟩ : ∃ w3, w3 = w2.alloc (.cells #[.int .i64 M] 3) := ⟨_, rfl⟩
  obtain ⟨w4, hw4⟩ : ∃ w4, w4 = w3.alloc (.cells #[.slice none 0 0, .string ⟨#[]⟩] 43) := ⟨_, rfl⟩
  have o1 : Only [] w0 w1 := by rw [hw1]; exact Only.alloc _ _
  have o2 : Only [] w1 w2 := by rw [hw2]; exact Only.alloc _ _
  have o3 : Only [] w2 w3 := by rw [hw3]; exact Only.alloc _ _
  have o4 : Only [] w3 w4 := by rw [hw4]; exact Only.alloc _ _
  have s1 : w1.heap.size = w0.heap.size + 1 := by rw [hw1]; simp
  have s2 : w2.heap.size = w0.heap.size + 1 + 1 := by rw [hw2]; simp [s1]
  have s3 : w3.heap.size = w0.heap.size + 1 + 1 + 1 := by rw [hw3]; simp [s2]
  refine ⟨w4, by rw [hw4, hw3, hw2, hw1], ((o1.trans0 o2).trans0 o3).trans0 o4, ?_, ?_, ?_, ?_⟩
  · have : Row w1 w0.heap.size 39 [.string nm, .int .i64 tt, .int .i64 dd, .slice p n c, u] := by rw [hw1]; exact Row.newOf _ _ _ _ rfl
    exact ((this.only0 o2).only0 o3).only0 o4
  · have : Row w2 w1.heap.size 9 [.string (str tk)] := by rw [hw2]; exact Row.newOf _ _ _ _ rfl
    rw [s1] at this
    exact (this.only0 o3).only0 o4
  · have : Row w3 w2.heap.size 3 [.int .i64 M] := by rw [hw3]; exact Row.newOf _ _ _ _ rfl
    rw [s2] at this
    exact this.only0 o4
  · rw [← s3, hw4]; exact Row.newOf _ _ _ _ rfl
set_option maxHeartbeats 4000000 in
theorem page_number (nm : ByteArray) (tt dd : Int) (u : Value) (p : Option Addr) (n c : Nat) (pf dl tk : Bs) (M : Int) (w0 : World) (hM : ¬ (1 ≤ M ∧ M ≤ 100)) (aN : Addr) (hE : ErrAt w0 1 aN) :
    Calls Tryd.prog 23 #[bkV' nm tt dd p n c u, .string (str pf), .string (str dl), .string (str tk), .int .i64 M] w0 fun e w' => e = .returned (.tuple #[pgV none 0 0 (str []), ev aN]) ∧ Only [] w0 w' := by
  obtain ⟨w4, hw4, hO, h1, h2, h3, h4⟩ := pgHead w0 nm tt dd p n c u tk M
  obtain ⟨X0, hX0⟩ : ∃ X0, X0 = w0.heap.size + 1 + 1 + 1 := ⟨_, rfl⟩
  have c3 := h3.cell (i := 0) rfl
  have HE := Lib.hid (hE.only0 hO)
  have HR := Lib.hid h4
  have HO := Lib.hid hO
  have Hw4 := Lib.hid hw4
  have HX := Lib.hid hX0
  have Hlt : Hid (1 < w0.heap.size) := Lib.hid hE.lt.1
  rw [hw4] at c3
  unfold bkV'
  clear hE hO h1 h2 h3 h4 hw4 hX0
  have hcE := HE.out.cell
  have hgX : 1 ∉ [X0] := by have := HX.out; have := Hlt.out; simp; omega
  have HcE := Lib.hid hcE
  have HgX := Lib.hid hgX
  clear hcE hgX
  rcases Int.lt_or_le M 1 with hm1 | hm1
  · clear hM
    refine calls_of_marks Tryd.func23 rfl ?_
    simp only [Tryd.ntmps23, List.size_toArray, List.length_cons, List.length_nil, Nat.reduceAdd, Nat.reduceSub, Array.replicate_succ, Array.replicate_zero, List.push_toArray, List.append_toArray, List.nil_append, List.cons_append]
    go_wp2_with fail
    go_step3
    go_wp2_with fail
    rw [← Hw4.out, ← HX.out]
    have HR2 := HR.out
    rw [← HX.out] at HR2
    clear Hw4 c3
    have hcE := HcE.out
    have hgX := HgX.out
    have hRr : ∀ a, Only [X0] a a := fun a => Only.refl _ _
    have hRt : ∀ a b e, Only [X0] a b → Only [X0] b e → Only [X0] a e := fun a b e h h2 => h.trans h2 (fun i hi _ => hi)
    have hRd : Only [X0] w4 w4.drew := (Only.drew _).mono (by simp)
    have hC0 : ∀ d ∈ [2], (fun (_ : Nat) (a : World) => Row a X0 43 [.slice none 0 0, .string (str [])]) d w4.drew := fun _ _ => HR2.only0 (Only.drew _)
    -- <<RN1
    refine wp_region_rg4 (Only [X0]) (Dirt [(2, [X0])]) (fun (_ : Nat) (a : World) => Row a X0 43 [.slice none 0 0, .string (str [])]) [2] [[], [], [(10, none), (22, some 1)], [(23, some 1)]] [(11, 0)] [none, none, none, none, none, none, none, none, none, none, none, some 11, none, none, none, none, none, none, none, none, none, none, some 22, some 23, none, none, none, none, none, none, none, none, none, none, none, none, none, none, none, none, none, none, none, none, none, none, none, none, none, none, none, none, none, none, none, none, none, none, none, none, none, none, none, none, none, none, none, none, none] (by kernel_rfl) rfl (by kernel_rfl) hRr hRt (fun _ _ => Only.refl _ _) hRd hC0 (by kernel_rfl) (by kernel_rfl) ?_
    -- 0: s22 := build 43 #[]
    apply rgd_ev
    · intro a w hR hC hf
      refine rg_plain rfl fun K hK => ?_
      go_simp
      exact hK _ _ rfl ⟨hRr _, Only.refl _ _, fun _ _ _ _ h => h⟩
    -- 1: s23 := load 45 (Operand.global 1)
    apply rgd_ev
    · intro a w hR hC hf
      refine rg_plain rfl fun K hK => ?_
      have hg := hR.cell hcE hgX
      go_simp
      exact hK _ _ rfl ⟨hRr _, Only.refl _ _, fun _ _ _ _ h => h⟩
    -- 2: sNone := store 43 t10 t22
    refine ⟨SetPg X0, stands_of SetPg.stable (by intro x hx hk; obtain rfl := List.mem_singleton.1 hx; simp at hk), fun a w hR hC hf => ?_, ?_⟩
    · obtain ⟨e10, e22, -⟩ := hf
      replace e10 : a.tmps.getD 10 undef = _ := e10
      replace e22 : a.tmps.getD 22 undef = _ := e22
      refine rg_plain rfl fun K hK => ?_
      have hC2 : Row w X0 43 [.slice none 0 0, .string (str [])] := hC 2 (by simp) (by kernel_rfl)
      have o := Only.setRow w X0 #[.slice none 0 0, .string (str [])]
      refine rg_store rfl e10 e22 (hC2.storeAt (P := Tryd.prog) (ty := 43) (us := [.slice none 0 0, .string (str [])]) pgInfo rfl (by simp [Value.oneCell'])) ?_
      exact hK _ _ (hC2.setRow [.slice none 0 0, .string (str [])]) ⟨o, o, fun i hi hne _ _ => absurd (List.mem_singleton.1 hi) hne⟩
    -- 3: s11 := assign t23
    apply rgd_ev
    · intro a w hR hC hf
      obtain ⟨e23, -⟩ := hf
      replace e23 : a.tmps.getD 23 undef = _ := e23
      refine rg_plain rfl fun K hK => ?_
      go_simp
      exact hK _ _ rfl ⟨hRr _, Only.refl _ _, fun _ _ _ _ h => h⟩
    intro fRN1 wRN1 hRRN1 hf hzRN1
    dsimp only [mergeT]
    obtain ⟨e11, -⟩ := hf
    replace e11 : fRN1 11 = _ := e11
    rw [e11]
    -- RN1>>
    obtain ⟨v2, hrow⟩ := hzRN1 _ (List.mem_cons_of_mem _ (List.mem_cons_self ..))
    have hrow : Row wRN1 X0 43 [.slice none 0 0, .string (str [])] := hrow
    have hO : Only [] w0 wRN1 := HO.out.transN hRRN1 (by have := HX.out; simp; omega)
    clear hzRN1
    go_wp2_with fail
    exact mret0 (results_c2 rfl _ _ _ rfl hrow Tryd.underlying43 pgInfo) ⟨rfl, hO⟩
  · have hm2 : 100 < M := by omega
    have hm1' : ¬ M < 1 := by omega
    clear hM hm1
    refine calls_of_marks Tryd.func23 rfl ?_
    simp only [Tryd.ntmps23, List.size_toArray, List.length_cons, List.length_nil, Nat.reduceAdd, Nat.reduceSub, Array.replicate_succ, Array.replicate_zero, List.push_toArray, List.append_toArray, List.nil_append, List.cons_append]
    go_wp2_with fail
    go_step3
    go_wp2_with fail
    rw [← Hw4.out, ← HX.out]
    have HR2 := HR.out
    rw [← HX.out] at HR2
    clear Hw4 c3
    have hcE := HcE.out
    have hgX := HgX.out
    have hRr : ∀ a, Only [X0] a a := fun a => Only.refl _ _
    have hRt : ∀ a b e, Only [X0] a b → Only [X0] b e → Only [X0] a e := fun a b e h h2 => h.trans h2 (fun i hi _ => hi)
    have hRd : Only [X0] w4 w4.drew := (Only.drew _).mono (by simp)
    have hC0 : ∀ d ∈ [2], (fun (_ : Nat) (a : World) => Row a X0 43 [.slice none 0 0, .string (str [])]) d w4.drew := fun _ _ => HR2.only0 (Only.drew _)
    -- <<RN2
    refine wp_region_rg4 (Only [X0]) (Dirt [(2, [X0])]) (fun (_ : Nat) (a : World) => Row a X0 43 [.slice none 0 0, .string (str [])]) [2] [[], [], [(10, none), (22, some 1)], [(23, some 1)]] [(11, 0)] [none, none, none, none, none, none, none, none, none, none, none, some 11, none, none, none, none, none, none, none, none, none, none, some 22, some 23, none, none, none, none, none, none, none, none, none, none, none, none, none, none, none, none, none, none, none, none, none, none, none, none, none, none, none, none, none, none, none, none, none, none, none, none, none, none, none, none, none, none, none, none, none] (by kernel_rfl) rfl (by kernel_rfl) hRr hRt (fun _ _ => Only.refl _ _) hRd hC0 (by kernel_rfl) (by kernel_rfl) ?_
    -- 0: s22 := build 43 #[]
    apply rgd_ev
    · intro a w hR hC hf
      refine rg_plain rfl fun K hK => ?_
      go_simp
      exact hK _ _ rfl ⟨hRr _, Only.refl _ _, fun _ _ _ _ h => h⟩
    -- 1: s23 := load 45 (Operand.global 1)
    apply rgd_ev
    · intro a w hR hC hf
      refine rg_plain rfl fun K hK => ?_
      have hg := hR.cell hcE hgX
      go_simp
      exact hK _ _ rfl ⟨hRr _, Only.refl _ _, fun _ _ _ _ h => h⟩
    -- 2: sNone := store 43 t10 t22
    refine ⟨SetPg X0, stands_of SetPg.stable (by intro x hx hk; obtain rfl := List.mem_singleton.1 hx; simp at hk), fun a w hR hC hf => ?_, ?_⟩
    · obtain ⟨e10, e22, -⟩ := hf
      replace e10 : a.tmps.getD 10 undef = _ := e10
      replace e22 : a.tmps.getD 22 undef = _ := e22
      refine rg_plain rfl fun K hK => ?_
      have hC2 : Row w X0 43 [.slice none 0 0, .string (str [])] := hC 2 (by simp) (by kernel_rfl)
      have o := Only.setRow w X0 #[.slice none 0 0, .string (str [])]
      refine rg_store rfl e10 e22 (hC2.storeAt (P := Tryd.prog) (ty := 43) (us := [.slice none 0 0, .string (str [])]) pgInfo rfl (by simp [Value.oneCell'])) ?_
      exact hK _ _ (hC2.setRow [.slice none 0 0, .string (str [])]) ⟨o, o, fun i hi hne _ _ => absurd (List.mem_singleton.1 hi) hne⟩
    -- 3: s11 := assign t23
    apply rgd_ev
    · intro a w hR hC hf
      obtain ⟨e23, -⟩ := hf
      replace e23 : a.tmps.getD 23 undef = _ := e23
      refine rg_plain rfl fun K hK => ?_
      go_simp
      exact hK _ _ rfl ⟨hRr _, Only.refl _ _, fun _ _ _ _ h => h⟩
    intro fRN2 wRN2 hRRN2 hf hzRN2
    dsimp only [mergeT]
    obtain ⟨e11, -⟩ := hf
    replace e11 : fRN2 11 = _ := e11
    rw [e11]
    -- RN2>>
    obtain ⟨v2, hrow⟩ := hzRN2 _ (List.mem_cons_of_mem _ (List.mem_cons_self ..))
    have hrow : Row wRN2 X0 43 [.slice none 0 0, .string (str [])] := hrow
    have hO : Only [] w0 wRN2 := HO.out.transN hRRN2 (by have := HX.out; simp; omega)
    clear hzRN2
    go_wp2_with fail
    exact mret0 (results_c2 rfl _ _ _ rfl hrow Tryd.underlying43 pgInfo) ⟨rfl, hO⟩
set_option maxHeartbeats 4000000 in
theorem page_data (nm : ByteArray) (tt dd : Int) (u : Value) (p : Option Addr) (n c : Nat) (pf dl tk : Bs) (M : Int) (w0 : World) (hM1 : 1 ≤ M) (hM2 : M ≤ 100) (htl : tk.length ≤ 140737488351232) (hun : unhexB tk = none) (aN : Addr) (hE : ErrAt w0 4 aN) :
    Calls Tryd.prog 23 #[bkV' nm tt dd p n c u, .string (str pf), .string (str dl), .string (str tk), .int .i64 M] w0 fun e w' => e = .returned (.tuple #[pgV none 0 0 (str []), ev aN]) ∧ Only [] w0 w' := by
  obtain ⟨w4, hw4, hO, h1, h2, h3, h4⟩ := pgHead w0 nm tt dd p n c u tk M
  obtain ⟨X0, hX0⟩ : ∃ X0, X0 = w0.heap.size + 1 + 1 + 1 := ⟨_, rfl⟩
  have huh := unhex_any tk (str tk) rfl w4 (by omega)
  have HE := Lib.hid (hE.only0 hO)
  have HR := Lib.hid h4
  have HO := Lib.hid hO
  have Hw4 := Lib.hid hw4
  have HX := Lib.hid hX0
  have Hun := Lib.hid hun
  have Hlt : Hid (4 < w0.heap.size) := Lib.hid hE.lt.1
  have hm1 : ¬ M < 1 := by omega
  have hm2 : ¬ 100 < M := by omega
  unfold bkV'
  clear hE hO h1 h2 h3 h4 hw4 hX0 hun
  refine calls_of_marks Tryd.func23 rfl ?_
  simp only [Tryd.ntmps23, List.size_toArray, List.length_cons, List.length_nil, Nat.reduceAdd, Nat.reduceSub, Array.replicate_succ, Array.replicate_zero, List.push_toArray, List.append_toArray, List.nil_append, List.cons_append]
  go_wp2_with fail
  go_step3
  go_wp2_with fail
  rw [← Hw4.out]
  refine huh.mono ?_
  clear huh
  rintro e wu ⟨pn, cn, ys, ok, rfl, own, ou, hok⟩
  obtain rfl : ok = false := by
    rcases hok with ⟨h1, h2⟩ | ⟨h1, h2, h3⟩
    · rw [Hun.out] at h2; cases h2
    · exact h1
  obtain ⟨wa, hwa⟩ : ∃ wa, wa = wu.alloc (.cells #[.slice pn ys.length cn] 22) := ⟨_, rfl⟩
  have oa : Only [] wu wa := by rw [hwa]; exact Only.alloc _ _
  have HEx := Lib.hid (((HE.out.only0 ou).only0 oa))
  have HRx := Lib.hid ((HR.out.only0 ou).only0 oa)
  have HOx := Lib.hid ((HO.out.trans0 ou).trans0 oa)
  have Hwa := Lib.hid hwa
  clear own ou oa hwa hok HE HR HO
  go_wp2_with fail
  rw [← Hwa.out, ← HX.out]
  have hcE := HEx.out.cell
  have hgX : 4 ∉ [X0] := by have := HX.out; have := Hlt.out; simp; omega
  have HR2 := HRx.out
  rw [← HX.out] at HR2
  clear Hwa
  have hRr : ∀ a, Only [X0] a a := fun a => Only.refl _ _
  have hRt : ∀ a b e, Only [X0] a b → Only [X0] b e → Only [X0] a e := fun a b e h h2 => h.trans h2 (fun i hi _ => hi)
  have hRd : Only [X0] wa wa.drew := (Only.drew _).mono (by simp)
  have hC0 : ∀ d ∈ [2], (fun (_ : Nat) (a : World) => Row a X0 43 [.slice none 0 0, .string (str [])]) d wa.drew := fun _ _ => HR2.only0 (Only.drew _)
  -- <<RD
  refine wp_region_rg4 (Only [X0]) (Dirt [(2, [X0])]) (fun (_ : Nat) (a : World) => Row a X0 43 [.slice none 0 0, .string (str [])]) [2] [[], [], [(10, none), (31, some 1)], [(32, some 1)]] [(11, 0)] [none, none, none, none, none, none, none, none, none, none, none, some 11, none, none, none, none, none, none, none, none, none, none, none, none, none, none, none, none, none, none, none, some 31, some 32, none, none, none, none, none, none, none, none, none, none, none, none, none, none, none, none, none, none, none, none, none, none, none, none, none, none, none, none, none, none, none, none, none, none, none, none] (by kernel_rfl) rfl (by kernel_rfl) hRr hRt (fun _ _ => Only.refl _ _) hRd hC0 (by kernel_rfl) (by kernel_rfl) ?_
  -- 0: s31 := build 43 #[]
  apply rgd_ev
  · intro a w hR hC hf
    refine rg_plain rfl fun K hK => ?_
    go_simp
    exact hK _ _ rfl ⟨hRr _, Only.refl _ _, fun _ _ _ _ h => h⟩
  -- 1: s32 := load 45 (Operand.global 4)
  apply rgd_ev
  · intro a w hR hC hf
    refine rg_plain rfl fun K hK => ?_
    have hg := hR.cell hcE hgX
    go_simp
    exact hK _ _ rfl ⟨hRr _, Only.refl _ _, fun _ _ _ _ h => h⟩
  -- 2: sNone := store 43 t10 t31
  refine ⟨SetPg X0, stands_of SetPg.stable (by intro x hx hk; obtain rfl := List.mem_singleton.1 hx; simp at hk), fun a w hR hC hf => ?_, ?_⟩
  · obtain ⟨e10, e31, -⟩ := hf
    replace e10 : a.tmps.getD 10 undef = _ := e10
    replace e31 : a.tmps.getD 31 undef = _ := e31
    refine rg_plain rfl fun K hK => ?_
    have hC2 : Row w X0 43 [.slice none 0 0, .string (str [])] := hC 2 (by simp) (by kernel_rfl)
    have o := Only.setRow w X0 #[.slice none 0 0, .string (str [])]
    refine rg_store rfl e10 e31 (hC2.storeAt (P := Tryd.prog) (ty := 43) (us := [.slice none 0 0, .string (str [])]) pgInfo rfl (by simp [Value.oneCell'])) ?_
    exact hK _ _ (hC2.setRow [.slice none 0 0, .string (str [])]) ⟨o, o, fun i hi hne _ _ => absurd (List.mem_singleton.1 hi) hne⟩
  -- 3: s11 := assign t32
  apply rgd_ev
  · intro a w hR hC hf
    obtain ⟨e32, -⟩ := hf
    replace e32 : a.tmps.getD 32 undef = _ := e32
    refine rg_plain rfl fun K hK => ?_
    go_simp
    exact hK _ _ rfl ⟨hRr _, Only.refl _ _, fun _ _ _ _ h => h⟩
  intro fRD wRD hRRD hf hzRD
  dsimp only [mergeT]
  obtain ⟨e11, -⟩ := hf
  replace e11 : fRD 11 = _ := e11
  rw [e11]
  -- RD>>
  obtain ⟨v2, hrow⟩ := hzRD _ (List.mem_cons_of_mem _ (List.mem_cons_self ..))
  have hrow : Row wRD X0 43 [.slice none 0 0, .string (str [])] := hrow
  have hO : Only [] w0 wRD := HOx.out.transN hRRD (by have := HX.out; simp; omega)
  clear hzRD
  go_wp2_with fail
  exact mret0 (results_c2 rfl _ _ _ rfl hrow Tryd.underlying43 pgInfo) ⟨rfl, hO⟩
def zpg (X : Nat) : Value := .pointer (some ⟨X, 0, none⟩)
set_option maxHeartbeats 4000000 in
theorem refPage_number (nm : ByteArray) (tt dd : Int) (u : Value) (p : Option Addr) (n c : Nat) (pf dl tk : Bs) (M : Int) (w0 : World) (hM : ¬ (1 ≤ M ∧ M ≤ 100)) :
    Calls Tryd.prog 24 #[bkV' nm tt dd p n c u, .string (str pf), .string (str dl), .string (str tk), .int .i64 M] w0 fun e w' => e = .returned (.tuple #[pgV none 0 0 (str []), .int .i64 2]) ∧ Only [] w0 w' := by
  obtain ⟨w1, hw1⟩ : ∃ w1, w1 = w0.alloc (.cells #[.string nm, .int .i64 tt, .int .i64 dd, .slice p n c, u] 39) := ⟨_, rfl⟩
  obtain ⟨w2, hw2⟩ : ∃ w2, w2 = w1.alloc (.cells #[.slice none 0 0, .string ⟨#[]⟩] 43) := ⟨_, rfl⟩
  have o1 : Only [] w0 w1 := by rw [hw1]; exact Only.alloc _ _
  have o2 : Only [] w1 w2 := by rw [hw2]; exact Only.alloc _ _
  have s1 : w1.heap.size = w0.heap.size + 1 := by rw [hw1]; simp
  have r2 : Row w2 (w0.heap.size + 1) 43 [.slice none 0 0, .string (str [])] := by rw [← s1, hw2]; exact Row.newOf _ _ _ _ rfl
  have o12 := o1.trans0 o2
  have Hst := Lib.hid (r2.storeAt (P := Tryd.prog) (ty := 43) (us := [.slice none 0 0, .string (str [])]) pgInfo rfl (by simp [Value.oneCell']))
  have Hrow := Lib.hid (r2.setRow [.slice none 0 0, .string (str [])])
  have HO := Lib.hid (o12.transN (Only.setRow w2 (w0.heap.size + 1) #[.slice none 0 0, .string (str [])]) (by simp))
  have Hw1 := Lib.hid hw1
  have Hw2 := Lib.hid hw2
  unfold bkV'
  clear o1 o2 s1 hw1 hw2 r2 o12
  rcases Int.lt_or_le M 1 with hm1 | hm1
  · clear hM
    go_enter Tryd.func24, Tryd.ntmps24
    go_upto_region 2 with (fail)
    rw [← Hw1.out, ← Hw2.out]
    clear Hw1 Hw2
    go_wp2_with (first | ((with_reducible show wpList _ _ _ _ _ _); refine wpl_store (ty := 43) (x := .tmp 10) (y := .tmp 23) rfl rfl rfl rfl Hst.out ?_))
    exact bodyPost_ret (results_c2 rfl _ _ _ rfl Hrow.out Tryd.underlying43 pgInfo) rfl ⟨rfl, HO.out⟩
  · have hm2 : 100 < M := by omega
    have hm1' : ¬ M < 1 := by omega
    clear hM hm1
    go_enter Tryd.func24, Tryd.ntmps24
    go_upto_region 2 with (fail)
    rw [← Hw1.out, ← Hw2.out]
    clear Hw1 Hw2
    go_wp2_with (first | ((with_reducible show wpList _ _ _ _ _ _); refine wpl_store (ty := 43) (x := .tmp 10) (y := .tmp 23) rfl rfl rfl rfl Hst.out ?_))
    exact bodyPost_ret (results_c2 rfl _ _ _ rfl Hrow.out Tryd.underlying43 pgInfo) rfl ⟨rfl, HO.out⟩
set_option maxHeartbeats 4000000 in
theorem refPage_data (nm : ByteArray) (tt dd : Int) (u : Value) (p : Option Addr) (n c : Nat) (pf dl tk : Bs) (M : Int) (w0 : World) (hM1 : 1 ≤ M) (hM2 : M ≤ 100) (htl : tk.length ≤ 140737488351232) (hun : unhexB tk = none) :
    Calls Tryd.prog 24 #[bkV' nm tt dd p n c u, .string (str pf), .string (str dl), .string (str tk), .int .i64 M] w0 fun e w' => e = .returned (.tuple #[pgV none 0 0 (str []), .int .i64 3]) ∧ Only [] w0 w' := by
  obtain ⟨w1, hw1⟩ : ∃ w1, w1 = w0.alloc (.cells #[.string nm, .int .i64 tt, .int .i64 dd, .slice p n c, u] 39) := ⟨_, rfl⟩
  obtain ⟨w2, hw2⟩ : ∃ w2, w2 = w1.alloc (.cells #[.slice none 0 0, .string ⟨#[]⟩] 43) := ⟨_, rfl⟩
  have o1 : Only [] w0 w1 := by rw [hw1]; exact Only.alloc _ _
  have o2 : Only [] w1 w2 := by rw [hw2]; exact Only.alloc _ _
  have s1 : w1.heap.size = w0.heap.size + 1 := by rw [hw1]; simp
  have r2 : Row w2 (w0.heap.size + 1) 43 [.slice none 0 0, .string (str [])] := by rw [← s1, hw2]; exact Row.newOf _ _ _ _ rfl
  have o12 := o1.trans0 o2
  have Hst := Lib.hid (r2.storeAt (P := Tryd.prog) (ty := 43) (us := [.slice none 0 0, .string (str [])]) pgInfo rfl (by simp [Value.oneCell']))
  have Hrow := Lib.hid (r2.setRow [.slice none 0 0, .string (str [])])
  have HO := Lib.hid (o12.transN (Only.setRow w2 (w0.heap.size + 1) #[.slice none 0 0, .string (str [])]) (by simp))
  have Hw1 := Lib.hid hw1
  have Hw2 := Lib.hid hw2
  unfold bkV'
  clear o1 o2 s1 hw1 hw2
  have huh := refUnhex_any tk (str tk) rfl w2 (by omega)
  have hm1 : ¬ M < 1 := by omega
  have hm2 : ¬ 100 < M := by omega
  have Hun := Lib.hid hun
  have HR2 := Lib.hid r2
  have HO2 := Lib.hid o12
  clear hun r2 o12
  go_enter Tryd.func24, Tryd.ntmps24
  go_upto_region 3 with (fail)
  rw [← Hw1.out, ← Hw2.out]
  clear Hw1 Hw2
  go_wp2_with fail
  refine huh.mono ?_
  clear huh
  rintro e wu ⟨pn, cn, ys, ok, rfl, own, ou, hok⟩
  obtain rfl : ok = false := by
    rcases hok with ⟨h1, h2⟩ | ⟨h1, h2, h3⟩
    · rw [Hun.out] at h2; cases h2
    · exact h1
  have rX := HR2.out.only0 ou
  have Hst2 := Lib.hid (rX.storeAt (P := Tryd.prog) (ty := 43) (us := [.slice none 0 0, .string (str [])]) pgInfo rfl (by simp [Value.oneCell']))
  have Hrow2 := Lib.hid (rX.setRow [.slice none 0 0, .string (str [])])
  have HOu := Lib.hid ((HO2.out.trans0 ou).transN (Only.setRow wu (w0.heap.size + 1) #[.slice none 0 0, .string (str [])]) (by simp))
  clear own ou hok rX
  go_wp2_with (first | ((with_reducible show wpList _ _ _ _ _ _); refine wpl_store (ty := 43) (x := .tmp 10) (y := .tmp 31) rfl rfl rfl rfl Hst2.out ?_))
  exact bodyPost_ret (results_c2 rfl _ _ _ rfl Hrow2.out Tryd.underlying43 pgInfo) rfl ⟨rfl, HOu.out⟩
end Go.Proofs.YtfoplbolbjcggaaDoor
