/- The walk of (*rs.system).clear. -/
import Derived.Test.YtlgcclhepegggaaDoorRsSysW
import Derived.Test.YtlgcclhepegggaaDoorRegDirt
set_option linter.unusedVariables false
set_option maxRecDepth 100000
namespace Go.Proofs.YtlgcclhepegggaaDoor
open Go.RowKit

/-- a slice of bytes at the head of a block of its own, from 'base' on -/
def IsNewB (zs : List UInt8) (L base : Nat) : Value → World → Prop := fun v w => zs.length = L ∧ ∃ g, v = .slice (some ⟨g, 0, none⟩) L L ∧ base ≤ g ∧ Row w g 5 (u8s zs)
theorem IsNewB.stable {zs : List UInt8} {L base : Nat} {D : List Nat} (h : ∀ x ∈ D, x < base) : Stable (Only D) (IsNewB zs L base) := fun _ _ _ ⟨hl, g, e, hg, r⟩ ho => ⟨hl, g, e, hg, r.only ho (fun hm => by have := h _ hm; omega)⟩
theorem scale_k {q : Option Addr} {x : UInt8} {ys : List UInt8} {n d : Nat} (w : World) (hm : ys.length = n) (bm : n ≤ 140737488351232) (hy : Rd w q (u8s ys)) :
    Calls Tryd.prog 76 #[.int .u8 (x.toNat : Int), .slice q n d] w fun e w' => ∃ v, e = .returned v ∧ IsNewB (addS [] x ys) n w.heap.size v w' ∧ Only [] w w' := by
  subst hm
  refine (scale_any x q ys d w bm hy).mono ?_
  rintro e w' ⟨g, rfl, hg, r, o⟩
  have hl : (eachS (fun a b => gadd a (gmul x b)) [] ys).length = ys.length := by rw [eachS_length]; simp
  rw [hl]
  exact ⟨_, rfl, ⟨hl, g, rfl, hg, r⟩, o⟩
theorem addScaled_k {p q : Option Addr} {x : UInt8} {xs ys : List UInt8} {n c d : Nat} (w : World) (hn : xs.length = n) (hm : ys.length = n) (bm : n ≤ 140737488351232) (hx : Rd w p (u8s xs)) (hy : Rd w q (u8s ys)) :
    Calls Tryd.prog 63 #[.slice p n c, .int .u8 (x.toNat : Int), .slice q n d] w fun e w' => ∃ v, e = .returned v ∧ IsNewB (addS xs x ys) n w.heap.size v w' ∧ Only [] w w' := by
  have h0 := addScaled_any x p q xs ys c d w (by omega) (by omega) hx hy
  have hl : (eachS (fun a b => gadd a (gmul x b)) xs ys).length = n := by rw [eachS_length, hn, hm, Nat.max_self]
  rw [hn, hm] at h0
  refine h0.mono ?_
  rintro e w' ⟨g, rfl, hg, r, o⟩
  rw [hl]
  exact ⟨_, rfl, ⟨hl, g, rfl, hg, r⟩, o⟩
theorem IsNewB.low {zs : List UInt8} {L b b' : Nat} {v : Value} {w : World} (h : IsNewB zs L b v w) (hb : b' ≤ b) : IsNewB zs L b' v w := by
  obtain ⟨hl, g, e, hg, r⟩ := h
  exact ⟨hl, g, e, by omega, r⟩
/-- block G is a row whose i-th cell has turned: a list of bytes in a block of its own -/
def CellSet (G : Nat) (vs rest : List Value) (i : Nat) (zs : List UInt8) (n base : Nat) : Value → World → Prop :=
  fun _ w => zs.length = n ∧ ∃ g, base ≤ g ∧ Row w G 27 (vs.set i (.slice (some ⟨g, 0, none⟩) n n) ++ rest) ∧ Row w g 5 (u8s zs)
theorem CellSet.stable {G : Nat} {vs rest : List Value} {i : Nat} {zs : List UInt8} {n base : Nat} {D : List Nat} (h : ∀ x ∈ D, x < base) (hG : G ∉ D) : Stable (Only D) (CellSet G vs rest i zs n base) :=
  fun _ _ _ ⟨hl, g, hg, r, r2⟩ ho => ⟨hl, g, hg, r.only ho hG, r2.only ho (fun hm => by have := h _ hm; omega)⟩
theorem CellSet.make {w : World} {G : Nat} {vs rest : List Value} {i : Nat} {zs : List UInt8} {n base g : Nat} (hl : zs.length = n) (hi : i < vs.length) (r : Row w G 27 (vs ++ rest)) (r2 : Row w g 5 (u8s zs)) (hg : base ≤ g) (hG : G < base) :
    CellSet G vs rest i zs n base undef (w.setCell ⟨G, i, none⟩ (.slice (some ⟨g, 0, none⟩) n n)) := by
  refine ⟨hl, g, hg, ?_, r2.only (Only.setCell w ⟨G, i, none⟩ _) (by simp; omega)⟩
  have := r.setCell i (.slice (some ⟨g, 0, none⟩) n n)
  rwa [List.set_append_left _ _ hi] at this
theorem one_dirt {ops : Array Oper} {a k : Nat} {A : List Nat} {Z : Nat × List Nat → Prop} (h1 : (a == k || (ancs ops k).contains a) = false → Z (a, A)) :
    ∀ x ∈ [(a, A)], (x.1 == k || (ancs ops k).contains x.1) = false → Z x := by
  intro x hx
  obtain rfl := List.mem_singleton.1 hx
  exact h1
section
variable {w w' : World} {B gr gv cr cv k : Nat} {rs vs rr rv : List Value} {Rs Vs : List (List UInt8)}
theorem Sys.setR (h : Sys w B gr gv cr cv k rs vs rr rv Rs Vs) (ho : Only [gr] w w') {i n : Nat} {zs : List UInt8} {v : Value} (hc : CellSet gr rs rr i zs n w.heap.size v w') :
    ∃ rs', Sys w' B gr gv cr cv k rs' vs rr rv (Rs.set i zs) Vs := by
  obtain ⟨hl, g, hg, r, r2⟩ := hc
  refine ⟨rs.set i (.slice (some ⟨g, 0, none⟩) n n), h.turnR ho r (by rw [List.length_set]; exact h.lr) ?_⟩
  have hB := h.st.lt
  have hgr := h.r.lt
  have hgv := h.v.lt
  rw [← hl]
  refine (h.er.only ho (by simp)).set i (some ⟨g, 0, none⟩) _ zs r2.rd0 (by simp) (Nat.le_refl _) ?_
  intro _ a ha
  cases ha
  simp only [List.mem_cons, List.not_mem_nil, or_false, not_or]
  exact ⟨by omega, by omega, by omega⟩
theorem Sys.setV (h : Sys w B gr gv cr cv k rs vs rr rv Rs Vs) (ho : Only [gv] w w') {i n : Nat} {zs : List UInt8} {v : Value} (hc : CellSet gv vs rv i zs n w.heap.size v w') :
    ∃ vs', Sys w' B gr gv cr cv k rs vs' rr rv Rs (Vs.set i zs) := by
  obtain ⟨hl, g, hg, r, r2⟩ := hc
  refine ⟨vs.set i (.slice (some ⟨g, 0, none⟩) n n), h.turnV ho r (by rw [List.length_set]; exact h.lv) ?_⟩
  have hB := h.st.lt
  have hgr := h.r.lt
  have hgv := h.v.lt
  rw [← hl]
  refine (h.ea.only ho (by simp)).set i (some ⟨g, 0, none⟩) _ zs r2.rd0 (by simp) (Nat.le_refl _) ?_
  intro _ a ha
  cases ha
  simp only [List.mem_cons, List.not_mem_nil, or_false, not_or]
  exact ⟨by omega, by omega, by omega⟩
theorem Sys.setB (h : Sys w B gr gv cr cv k rs vs rr rv Rs Vs) (ho : Only [gr, gv] w w') {i n m : Nat} {zs ys : List UInt8} {v v2 : Value} (hc : CellSet gr rs rr i zs n w.heap.size v w') (hd : CellSet gv vs rv i ys m w.heap.size v2 w') :
    ∃ rs' vs', Sys w' B gr gv cr cv k rs' vs' rr rv (Rs.set i zs) (Vs.set i ys) := by
  obtain ⟨hl, g, hg, r, r2⟩ := hc
  obtain ⟨hl3, g3, hg3, r3, r4⟩ := hd
  have hB := h.st.lt
  have hgr := h.r.lt
  have hgv := h.v.lt
  have hne := h.ne
  refine ⟨rs.set i (.slice (some ⟨g, 0, none⟩) n n), vs.set i (.slice (some ⟨g3, 0, none⟩) m m), h.st.only ho (by simp; exact ⟨hne.1, hne.2.1⟩), r, r3, by rw [List.length_set]; exact h.lr, by rw [List.length_set]; exact h.lv, ?_, ?_, hne, h.kc⟩
  · rw [← hl]
    refine (h.er.only ho (by simp)).set i (some ⟨g, 0, none⟩) _ zs r2.rd0 (by simp) (Nat.le_refl _) ?_
    intro _ a ha
    cases ha
    simp only [List.mem_cons, List.not_mem_nil, or_false, not_or]
    exact ⟨by omega, by omega, by omega⟩
  · rw [← hl3]
    refine (h.ea.only ho (by simp)).set i (some ⟨g3, 0, none⟩) _ ys r4.rd0 (by simp) (Nat.le_refl _) ?_
    intro _ a ha
    cases ha
    simp only [List.mem_cons, List.not_mem_nil, or_false, not_or]
    exact ⟨by omega, by omega, by omega⟩
/-- a row of the system, read -/
theorem Sys.rowAt (h : Sys w B gr gv cr cv k rs vs rr rv Rs Vs) {i n : Nat} (hi : i < k) (hn : (Rs.getD i []).length = n) : ∃ q c, (rs ++ rr)[i]? = some (.slice q n c) ∧ Rd w q (u8s (Rs.getD i [])) ∧ (Rs.getD i [] ≠ [] → ∀ a, q = some a → a.block ∉ [B, gr, gv]) := by
  have hR := h.lR
  have e : Rs[i]? = some (Rs.getD i []) := by rw [List.getD_eq_getElem?_getD, List.getElem?_eq_getElem (by omega)]; rfl
  obtain ⟨q, c, h1, h2, h3, h5, h4⟩ := h.er.at e
  exact ⟨q, c, by rw [List.getElem?_append_left (by rw [h.lr]; exact hi), h1, hn], h2, h4⟩
theorem Sys.valAt (h : Sys w B gr gv cr cv k rs vs rr rv Rs Vs) {i n : Nat} (hi : i < k) (hn : (Vs.getD i []).length = n) : ∃ q c, (vs ++ rv)[i]? = some (.slice q n c) ∧ Rd w q (u8s (Vs.getD i [])) ∧ (Vs.getD i [] ≠ [] → ∀ a, q = some a → a.block ∉ [B, gr, gv]) := by
  have hR := h.lV
  have e : Vs[i]? = some (Vs.getD i []) := by rw [List.getD_eq_getElem?_getD, List.getElem?_eq_getElem (by omega)]; rfl
  obtain ⟨q, c, h1, h2, h3, h5, h4⟩ := h.ea.at e
  exact ⟨q, c, by rw [List.getElem?_append_left (by rw [h.lv]; exact hi), h1, hn], h2, h4⟩
end
theorem rd_ent {w : World} {q : Option Addr} {Rs : List (List UInt8)} {i j n : Nat} (h : Rd w q (u8s (Rs.getD i []))) (hn : (Rs.getD i []).length = n) (hj : j < n) : ∃ b off, q = some ⟨b, off, none⟩ ∧ w.cell? ⟨b, off + j, none⟩ = some (.int .u8 ((ent Rs i j).toNat : Int)) := by
  obtain ⟨b, off, e, hc⟩ := h.bytes (by omega)
  refine ⟨b, off, e, ?_⟩
  rw [hc j (by omega)]
  unfold ent
  rw [getD_at (by omega)]

set_option maxHeartbeats 8000000 in
theorem clear_any (w0 : World) (B gr gv cr cv k size col : Nat) (rs vs rr rv : List Value) (Rs Vs : List (List UInt8)) (h : Sys w0 B gr gv cr cv k rs vs rr rv Rs Vs) (hsh : Shape k size (Rs, Vs)) (hc : col < k) (hk : k ≤ 1000) (hz : size ≤ 100000) :
    Calls Tryd.prog 73 #[.pointer (some ⟨B, 0, none⟩), .int .i64 (col : Int)] w0 fun e w' => ∃ rs' vs', e = .returned (.tuple #[]) ∧ Sys w' B gr gv cr cv k rs' vs' rr rv (clearS col (Rs, Vs)).1 (clearS col (Rs, Vs)).2 ∧ Only [gr, gv] w0 w' := by
  have c0 := h.st.cell (i := 0) rfl
  have c1 := h.st.cell (i := 1) rfl
  have hc' : (col : Int) < (k : Int) := by omega
  have n1 := getD_len (j := col) hsh.er (by rw [hsh.r]; exact hc)
  have n2 := getD_len (j := col) hsh.ev (by rw [hsh.v]; exact hc)
  obtain ⟨q1, k1, hx1, rd1, nb1⟩ := h.rowAt hc n1
  obtain ⟨q2, k2, hx2, rd2, nb2⟩ := h.valAt hc n2
  have cx := h.r.cell hx1
  obtain ⟨b1, off1, rfl, ce⟩ := rd_ent rd1 n1 hc
  have hinv := inv_any (ent Rs col col) w0
  obtain ⟨x, hx⟩ : ∃ x, x = ginvZ (ent Rs col col) := ⟨_, rfl⟩
  rw [← hx] at hinv
  have hcl0 : clear0 col (Rs, Vs) = (Rs.set col (addS [] x (Rs.getD col [])), Vs.set col (addS [] x (Vs.getD col []))) := by rw [hx]; rfl
  have Hcl0 := Lib.hid hcl0
  have N1 := Lib.hid n1
  have N2 := Lib.hid n2
  have Rd1 := Lib.hid rd1
  have Rd2 := Lib.hid rd2
  have Nb1 := Lib.hid nb1
  have Nb2 := Lib.hid nb2
  have Hx1 := Lib.hid hx1
  have Hx2 := Lib.hid hx2
  have Hs := Lib.hid h
  have Hsh := Lib.hid hsh
  have hlr := h.lr
  have hlv := h.lv
  have Hlr := Lib.hid hlr
  have Hlv := Lib.hid hlv
  obtain ⟨e1, e2, e3⟩ := h.ne
  have lB := h.st.lt
  have lr := h.r.lt
  have lv := h.v.lt
  clear n1 n2 rd1 rd2 nb1 nb2 hx1 hx2 h hsh hx hcl0 hlr hlv
  generalize nz (ent Rs col col) = bz at *
  go_enter Tryd.func73, Tryd.ntmps73
  go_wp2_with fail
  (with_reducible refine (hinv).mono ?_)
  rintro e w' ⟨rfl, rfl⟩
  go_wp2_with fail
  clear cx ce hinv
  have hRr : ∀ a, Only [gr, gv] a a := fun a => Only.refl _ _
  have hRt : ∀ a b e, Only [gr, gv] a b → Only [gr, gv] b e → Only [gr, gv] a e := fun a b e h h2 => h.trans h2 (fun i hi _ => hi)
  have hRd : Only [gr, gv] w0 w0.drew := (Only.drew _).mono (by simp)
  have hC0 : ∀ i ∈ [29, 31], (fun (i : Nat) (a : World) => (i = 29 → Row a gr 27 (rs ++ rr)) ∧ (i = 31 → Row a gv 27 (vs ++ rv))) i w0.drew := fun _ _ => ⟨fun _ => Hs.out.r.only0 (Only.drew _), fun _ => Hs.out.v.only0 (Only.drew _)⟩
  have nB : B ∉ [gr, gv] := by simp; exact ⟨e1, e2⟩
  have hl2 : ∀ x ∈ [gr], x < w0.heap.size := by simpa using lr
  have hl3 : ∀ x ∈ [gv], x < w0.heap.size := by simpa using lv
  -- <<C1
  refine wp_region_rg4 (Only [gr, gv]) (Dirt [(29, [gr]), (31, [gv])]) (fun (i : Nat) (a : World) => (i = 29 → Row a gr 27 (rs ++ rr)) ∧ (i = 31 → Row a gv 27 (vs ++ rv))) [29, 31] [[(0, none)], [(22, some 0)], [(23, some 0)], [(24, some 0)], [(1, none)], [(0, none)], [(27, some 0)], [(28, some 0)], [(29, some 0)], [(1, none)], [(4, none)], [(0, none)], [(33, some 0)], [(34, some 0)], [(35, some 0)], [(1, none)], [(36, some 1), (37, some 0)], [(38, some 0)], [(32, some 7), (39, some 0)], [(4, none)], [(0, none)], [(42, some 0)], [(43, some 0)], [(44, some 0)], [(1, none)], [(45, some 1), (46, some 0)], [(47, some 0)], [(41, some 7), (48, some 0)], [(25, some 24), (26, some 23)], [(50, some 0), (40, some 10)], [(30, some 21), (31, some 20)], [(51, some 0), (49, some 3)]] [] [none, none, none, none, none, none, none, none, none, none, none, none, none, none, none, none, none, none, none, none, none, none, some 22, some 23, some 24, some 25, some 26, some 27, some 28, some 29, some 30, some 31, some 32, some 33, some 34, some 35, some 36, some 37, some 38, some 39, some 40, some 41, some 42, some 43, some 44, some 45, some 46, some 47, some 48, some 49, some 50, some 51, none, none, none, none, none, none, none, none, none, none, none, none, none, none, none, none, none, none, none, none, none, none, none, none, none, none, none, none, none, none, none, none, none, none, none, none, none, none, none, none, none, none, none, none, none, none, none, none, none, none, none, none, none, none, none, none, none, none, none, none, none, none, none, none, none, none, none, none, none, none] (by kernel_rfl) rfl (by kernel_rfl) hRr hRt (fun _ _ => Only.refl _ _) hRd hC0 (by kernel_rfl) (by kernel_rfl) ?_
  -- 0: s22 := move t0
  apply rgd_ev
  · intro a w hR hC hf
    obtain ⟨e0, -⟩ := hf
    replace e0 : a.tmps.getD 0 undef = _ := e0
    refine rg_plain rfl fun K hK => ?_
    go_simp
    exact hK _ _ rfl ⟨hRr _, Only.refl _ _, fun _ _ _ _ h => h⟩
  -- 1: s23 := nilCheck t22
  apply rgd_ev
  · intro a w hR hC hf
    obtain ⟨e22, -⟩ := hf
    replace e22 : a.tmps.getD 22 undef = _ := e22
    refine rg_plain rfl fun K hK => ?_
    go_simp
    exact hK _ _ rfl ⟨hRr _, Only.refl _ _, fun _ _ _ _ h => h⟩
  -- 2: s24 := fieldAddr 116 t23 0
  apply rgd_ev
  · intro a w hR hC hf
    obtain ⟨e23, -⟩ := hf
    replace e23 : a.tmps.getD 23 undef = _ := e23
    refine rg_plain rfl fun K hK => ?_
    go_simp
    exact hK _ _ rfl ⟨hRr _, Only.refl _ _, fun _ _ _ _ h => h⟩
  -- 3: s25 := load 64 t24
  apply rgd_ev
  · intro a w hR hC hf
    obtain ⟨e24, -⟩ := hf
    replace e24 : a.tmps.getD 24 undef = _ := e24
    refine rg_plain rfl fun K hK => ?_
    have h3 := hR.cell c0 nB
    go_simp
    exact hK _ _ rfl ⟨hRr _, Only.refl _ _, fun _ _ _ _ h => h⟩
  -- 4: s26 := move t1
  apply rgd_ev
  · intro a w hR hC hf
    obtain ⟨e1, -⟩ := hf
    replace e1 : a.tmps.getD 1 undef = _ := e1
    refine rg_plain rfl fun K hK => ?_
    go_simp
    exact hK _ _ rfl ⟨hRr _, Only.refl _ _, fun _ _ _ _ h => h⟩
  -- 5: s27 := move t0
  apply rgd_ev
  · intro a w hR hC hf
    obtain ⟨e0, -⟩ := hf
    replace e0 : a.tmps.getD 0 undef = _ := e0
    refine rg_plain rfl fun K hK => ?_
    go_simp
    exact hK _ _ rfl ⟨hRr _, Only.refl _ _, fun _ _ _ _ h => h⟩
  -- 6: s28 := nilCheck t27
  apply rgd_ev
  · intro a w hR hC hf
    obtain ⟨e27, -⟩ := hf
    replace e27 : a.tmps.getD 27 undef = _ := e27
    refine rg_plain rfl fun K hK => ?_
    go_simp
    exact hK _ _ rfl ⟨hRr _, Only.refl _ _, fun _ _ _ _ h => h⟩
  -- 7: s29 := fieldAddr 116 t28 1
  apply rgd_ev
  · intro a w hR hC hf
    obtain ⟨e28, -⟩ := hf
    replace e28 : a.tmps.getD 28 undef = _ := e28
    refine rg_plain rfl fun K hK => ?_
    go_simp
    exact hK _ _ rfl ⟨hRr _, Only.refl _ _, fun _ _ _ _ h => h⟩
  -- 8: s30 := load 64 t29
  apply rgd_ev
  · intro a w hR hC hf
    obtain ⟨e29, -⟩ := hf
    replace e29 : a.tmps.getD 29 undef = _ := e29
    refine rg_plain rfl fun K hK => ?_
    have h3 := hR.cell c1 nB
    go_simp
    exact hK _ _ rfl ⟨hRr _, Only.refl _ _, fun _ _ _ _ h => h⟩
  -- 9: s31 := move t1
  apply rgd_ev
  · intro a w hR hC hf
    obtain ⟨e1, -⟩ := hf
    replace e1 : a.tmps.getD 1 undef = _ := e1
    refine rg_plain rfl fun K hK => ?_
    go_simp
    exact hK _ _ rfl ⟨hRr _, Only.refl _ _, fun _ _ _ _ h => h⟩
  -- 10: s32 := move t4
  apply rgd_ev
  · intro a w hR hC hf
    obtain ⟨e4, -⟩ := hf
    replace e4 : a.tmps.getD 4 undef = _ := e4
    refine rg_plain rfl fun K hK => ?_
    go_simp
    exact hK _ _ rfl ⟨hRr _, Only.refl _ _, fun _ _ _ _ h => h⟩
  -- 11: s33 := move t0
  apply rgd_ev
  · intro a w hR hC hf
    obtain ⟨e0, -⟩ := hf
    replace e0 : a.tmps.getD 0 undef = _ := e0
    refine rg_plain rfl fun K hK => ?_
    go_simp
    exact hK _ _ rfl ⟨hRr _, Only.refl _ _, fun _ _ _ _ h => h⟩
  -- 12: s34 := nilCheck t33
  apply rgd_ev
  · intro a w hR hC hf
    obtain ⟨e33, -⟩ := hf
    replace e33 : a.tmps.getD 33 undef = _ := e33
    refine rg_plain rfl fun K hK => ?_
    go_simp
    exact hK _ _ rfl ⟨hRr _, Only.refl _ _, fun _ _ _ _ h => h⟩
  -- 13: s35 := fieldAddr 116 t34 0
  apply rgd_ev
  · intro a w hR hC hf
    obtain ⟨e34, -⟩ := hf
    replace e34 : a.tmps.getD 34 undef = _ := e34
    refine rg_plain rfl fun K hK => ?_
    go_simp
    exact hK _ _ rfl ⟨hRr _, Only.refl _ _, fun _ _ _ _ h => h⟩
  -- 14: s36 := load 64 t35
  apply rgd_ev
  · intro a w hR hC hf
    obtain ⟨e35, -⟩ := hf
    replace e35 : a.tmps.getD 35 undef = _ := e35
    refine rg_plain rfl fun K hK => ?_
    have h3 := hR.cell c0 nB
    go_simp
    exact hK _ _ rfl ⟨hRr _, Only.refl _ _, fun _ _ _ _ h => h⟩
  -- 15: s37 := move t1
  apply rgd_ev
  · intro a w hR hC hf
    obtain ⟨e1, -⟩ := hf
    replace e1 : a.tmps.getD 1 undef = _ := e1
    refine rg_plain rfl fun K hK => ?_
    go_simp
    exact hK _ _ rfl ⟨hRr _, Only.refl _ _, fun _ _ _ _ h => h⟩
  -- 16: s38 := indexAddr 64 t36 t37
  apply rgd_ev
  · intro a w hR hC hf
    obtain ⟨e36, e37, -⟩ := hf
    replace e36 : a.tmps.getD 36 undef = _ := e36
    replace e37 : a.tmps.getD 37 undef = _ := e37
    refine rg_plain rfl fun K hK => ?_
    go_simp
    exact hK _ _ rfl ⟨hRr _, Only.refl _ _, fun _ _ _ _ h => h⟩
  -- 17: s39 := load 27 t38
  apply rgd_ev
  · intro a w hR hC hf
    obtain ⟨e38, -⟩ := hf
    replace e38 : a.tmps.getD 38 undef = _ := e38
    refine rg_plain rfl fun K hK => ?_
    have h17 := ((hC 29 (by simp) (by kernel_rfl)).1 rfl).cell Hx1.out
    go_simp
    exact hK _ _ rfl ⟨hRr _, Only.refl _ _, fun _ _ _ _ h => h⟩
  -- 18: s40 := call { value (Operand.func 76), args := #[t32, t39], #[5, 27] }
  refine ⟨IsNewB (addS [] x (Rs.getD col [])) k w0.heap.size, stands_of (IsNewB.stable (by simp)) (two_dirt (Z := fun x => Stable (Only x.2) (IsNewB _ _ _)) (fun _ => IsNewB.stable hl2) (fun _ => IsNewB.stable hl3)), fun a w hR hC hf => ?_, ?_⟩
  · obtain ⟨e32, e39, -⟩ := hf
    replace e32 : a.tmps.getD 32 undef = _ := e32
    replace e39 : a.tmps.getD 39 undef = _ := e39
    refine rg_plain rfl fun K hK => ?_
    go_simp
    (with_reducible refine (scale_k w N1.out (by omega) (Rd1.out.onlyNe hR (fun hne a ha hm => absurd (List.mem_cons_of_mem _ hm) (Nb1.out hne a ha)))).mono ?_)
    rintro e w' ⟨v, rfl, hv, ho⟩
    exact hK _ _ (hv.low hR.size) ⟨ho.mono (by simp), ho, fun i _ _ _ hc => ⟨fun e => (hc.1 e).only0 ho, fun e => (hc.2 e).only0 ho⟩⟩
  -- 19: s41 := move t4
  apply rgd_ev
  · intro a w hR hC hf
    obtain ⟨e4, -⟩ := hf
    replace e4 : a.tmps.getD 4 undef = _ := e4
    refine rg_plain rfl fun K hK => ?_
    go_simp
    exact hK _ _ rfl ⟨hRr _, Only.refl _ _, fun _ _ _ _ h => h⟩
  -- 20: s42 := move t0
  apply rgd_ev
  · intro a w hR hC hf
    obtain ⟨e0, -⟩ := hf
    replace e0 : a.tmps.getD 0 undef = _ := e0
    refine rg_plain rfl fun K hK => ?_
    go_simp
    exact hK _ _ rfl ⟨hRr _, Only.refl _ _, fun _ _ _ _ h => h⟩
  -- 21: s43 := nilCheck t42
  apply rgd_ev
  · intro a w hR hC hf
    obtain ⟨e42, -⟩ := hf
    replace e42 : a.tmps.getD 42 undef = _ := e42
    refine rg_plain rfl fun K hK => ?_
    go_simp
    exact hK _ _ rfl ⟨hRr _, Only.refl _ _, fun _ _ _ _ h => h⟩
  -- 22: s44 := fieldAddr 116 t43 1
  apply rgd_ev
  · intro a w hR hC hf
    obtain ⟨e43, -⟩ := hf
    replace e43 : a.tmps.getD 43 undef = _ := e43
    refine rg_plain rfl fun K hK => ?_
    go_simp
    exact hK _ _ rfl ⟨hRr _, Only.refl _ _, fun _ _ _ _ h => h⟩
  -- 23: s45 := load 64 t44
  apply rgd_ev
  · intro a w hR hC hf
    obtain ⟨e44, -⟩ := hf
    replace e44 : a.tmps.getD 44 undef = _ := e44
    refine rg_plain rfl fun K hK => ?_
    have h3 := hR.cell c1 nB
    go_simp
    exact hK _ _ rfl ⟨hRr _, Only.refl _ _, fun _ _ _ _ h => h⟩
  -- 24: s46 := move t1
  apply rgd_ev
  · intro a w hR hC hf
    obtain ⟨e1, -⟩ := hf
    replace e1 : a.tmps.getD 1 undef = _ := e1
    refine rg_plain rfl fun K hK => ?_
    go_simp
    exact hK _ _ rfl ⟨hRr _, Only.refl _ _, fun _ _ _ _ h => h⟩
  -- 25: s47 := indexAddr 64 t45 t46
  apply rgd_ev
  · intro a w hR hC hf
    obtain ⟨e45, e46, -⟩ := hf
    replace e45 : a.tmps.getD 45 undef = _ := e45
    replace e46 : a.tmps.getD 46 undef = _ := e46
    refine rg_plain rfl fun K hK => ?_
    go_simp
    exact hK _ _ rfl ⟨hRr _, Only.refl _ _, fun _ _ _ _ h => h⟩
  -- 26: s48 := load 27 t47
  apply rgd_ev
  · intro a w hR hC hf
    obtain ⟨e47, -⟩ := hf
    replace e47 : a.tmps.getD 47 undef = _ := e47
    refine rg_plain rfl fun K hK => ?_
    have h17 := ((hC 31 (by simp) (by kernel_rfl)).2 rfl).cell Hx2.out
    go_simp
    exact hK _ _ rfl ⟨hRr _, Only.refl _ _, fun _ _ _ _ h => h⟩
  -- 27: s49 := call { value (Operand.func 76), args := #[t41, t48], #[5, 27] }
  refine ⟨IsNewB (addS [] x (Vs.getD col [])) size w0.heap.size, stands_of (IsNewB.stable (by simp)) (two_dirt (Z := fun x => Stable (Only x.2) (IsNewB _ _ _)) (fun _ => IsNewB.stable hl2) (fun _ => IsNewB.stable hl3)), fun a w hR hC hf => ?_, ?_⟩
  · obtain ⟨e41, e48, -⟩ := hf
    replace e41 : a.tmps.getD 41 undef = _ := e41
    replace e48 : a.tmps.getD 48 undef = _ := e48
    refine rg_plain rfl fun K hK => ?_
    go_simp
    (with_reducible refine (scale_k w N2.out (by omega) (Rd2.out.onlyNe hR (fun hne a ha hm => absurd (List.mem_cons_of_mem _ hm) (Nb2.out hne a ha)))).mono ?_)
    rintro e w' ⟨v, rfl, hv, ho⟩
    exact hK _ _ (hv.low hR.size) ⟨ho.mono (by simp), ho, fun i _ _ _ hc => ⟨fun e => (hc.1 e).only0 ho, fun e => (hc.2 e).only0 ho⟩⟩
  -- 28: s50 := indexAddr 64 t25 t26
  apply rgd_ev
  · intro a w hR hC hf
    obtain ⟨e25, e26, -⟩ := hf
    replace e25 : a.tmps.getD 25 undef = _ := e25
    replace e26 : a.tmps.getD 26 undef = _ := e26
    refine rg_plain rfl fun K hK => ?_
    go_simp
    exact hK _ _ rfl ⟨hRr _, Only.refl _ _, fun _ _ _ _ h => h⟩
  -- 29: sNone := store 27 t50 t40
  refine ⟨CellSet gr rs rr col (addS [] x (Rs.getD col [])) k w0.heap.size, stands_of (CellSet.stable (by simp) (by simp)) (two_dirt (Z := fun x => Stable (Only x.2) (CellSet _ _ _ _ _ _ _)) (fun h => by simp at h) (fun _ => CellSet.stable hl3 (by simpa using e3))), fun a w hR hC hf => ?_, ?_⟩
  · obtain ⟨e50, e40, -⟩ := hf
    replace e50 : a.tmps.getD 50 undef = _ := e50
    replace e40 : IsNewB (addS [] x (Rs.getD col [])) k w0.heap.size (a.tmps.getD 40 undef) w := e40
    refine rg_plain rfl fun K hK => ?_
    have hC29 := (hC 29 (by simp) (by kernel_rfl)).1 rfl
    obtain ⟨hl, g, e40, hg, rg⟩ := e40
    have h29 := hC29.cell Hx1.out
    have h29f := hC29.free col
    go_simp
    have hst : Only [gr] w (w.setCell ⟨gr, col, none⟩ (.slice (some ⟨g, 0, none⟩) k k)) := Only.setCell w ⟨gr, col, none⟩ _
    refine hK undef _ (CellSet.make hl (by rw [Hlr.out]; exact hc) hC29 rg hg lr) ⟨hst.mono (by simp), hst, ?_⟩
    intro i hi hne ha hc
    simp only [List.mem_cons, List.not_mem_nil, or_false] at hi
    rcases hi with rfl | rfl
    · exact absurd rfl hne
    · exact ⟨fun e => by omega, fun e => (hc.2 e).only hst (by simp; exact fun e => e3 e.symm)⟩
  -- 30: s51 := indexAddr 64 t30 t31
  apply rgd_ev
  · intro a w hR hC hf
    obtain ⟨e30, e31, -⟩ := hf
    replace e30 : a.tmps.getD 30 undef = _ := e30
    replace e31 : a.tmps.getD 31 undef = _ := e31
    refine rg_plain rfl fun K hK => ?_
    go_simp
    exact hK _ _ rfl ⟨hRr _, Only.refl _ _, fun _ _ _ _ h => h⟩
  -- 31: sNone := store 27 t51 t49
  refine ⟨CellSet gv vs rv col (addS [] x (Vs.getD col [])) size w0.heap.size, stands_of (CellSet.stable (by simp) (by simp)) (two_dirt (Z := fun x => Stable (Only x.2) (CellSet _ _ _ _ _ _ _)) (fun _ => CellSet.stable hl2 (by simpa using fun e => e3 e.symm)) (fun h => by simp at h)), fun a w hR hC hf => ?_, ?_⟩
  · obtain ⟨e51, e49, -⟩ := hf
    replace e51 : a.tmps.getD 51 undef = _ := e51
    replace e49 : IsNewB (addS [] x (Vs.getD col [])) size w0.heap.size (a.tmps.getD 49 undef) w := e49
    refine rg_plain rfl fun K hK => ?_
    have hC31 := (hC 31 (by simp) (by kernel_rfl)).2 rfl
    obtain ⟨hl, g, e49, hg, rg⟩ := e49
    have h31 := hC31.cell Hx2.out
    have h31f := hC31.free col
    go_simp
    have hst : Only [gv] w (w.setCell ⟨gv, col, none⟩ (.slice (some ⟨g, 0, none⟩) size size)) := Only.setCell w ⟨gv, col, none⟩ _
    refine hK undef _ (CellSet.make hl (by rw [Hlv.out]; exact hc) hC31 rg hg lv) ⟨hst.mono (by simp), hst, ?_⟩
    intro i hi hne ha hc
    simp only [List.mem_cons, List.not_mem_nil, or_false] at hi
    rcases hi with rfl | rfl
    · exact ⟨fun e => (hc.1 e).only hst (by simpa using e3), fun e => by omega⟩
    · exact absurd rfl hne
  intro f1 w1 hR1 hf hz1
  dsimp only [mergeT]
  -- C1>>
  obtain ⟨v31, S31⟩ := hz1 _ (List.mem_cons_self ..)
  obtain ⟨v29, S29⟩ := hz1 _ (List.mem_cons_of_mem _ (List.mem_cons_of_mem _ (List.mem_cons_self ..)))
  obtain ⟨rs1, vs1, S1⟩ := Hs.out.setB hR1 S29 S31
  have hS1 : Sys w1 B gr gv cr cv k rs1 vs1 rr rv (clearUp col (Rs, Vs) 0).1 (clearUp col (Rs, Vs) 0).2 := by
    show Sys w1 B gr gv cr cv k rs1 vs1 rr rv (clear0 col (Rs, Vs)).1 (clear0 col (Rs, Vs)).2
    rw [Hcl0.out]; exact S1
  have HS1 := Lib.hid hS1
  have HO1 := Lib.hid hR1
  clear S31 S29 S1 hS1 hz1 hR1 hRr hRt hRd hC0 hl2 hl3 Hlr Hlv c1 Hcl0 N1 N2 Rd1 Rd2 Nb1 Nb2 Hx1 Hx2 nB c0 Hs
  have c0 := HS1.out.st.cell (i := 0) rfl
  go_wp2_with fail
  go_loopw [57] (fun i wr => ∃ (j : Nat) (rs2 vs2 : List Value), i = .int .i64 (j : Int) ∧ j ≤ k ∧ Hid (Sys wr B gr gv cr cv k rs2 vs2 rr rv (clearUp col (Rs, Vs) j).1 (clearUp col (Rs, Vs) j).2) ∧ Hid (Only [gr, gv] w0 wr)) (fun i _ => k - (intOf i).toNat)
  case atStart => exact ⟨0, rs1, vs1, rfl, Nat.zero_le _, HS1, HO1⟩
  case round =>
    clear HS1 HO1 c0
    obtain ⟨i, rs2, vs2, rfl, hi, HS, HO⟩ := hrel
    by_cases hlt : i < k
    · have hti : (i : Int) < (k : Int) := by omega
      have hshi := Hsh.out.clearUp hc i (by omega)
      have hnext : clearUp col (Rs, Vs) (i + 1) = clearI col i (clearUp col (Rs, Vs) i) := rfl
      have Hnext := Lib.hid hnext
      have HshU := Lib.hid hshi
      clear hnext hshi
      generalize clearUp col (Rs, Vs) i = U at *
      obtain ⟨R, V⟩ := U
      dsimp only at HS
      have c0 := HS.out.st.cell (i := 0) rfl
      have n1 := getD_len (j := i) HshU.out.er (by rw [HshU.out.r]; exact hlt)
      have m1 := getD_len (j := col) HshU.out.er (by rw [HshU.out.r]; exact hc)
      have n2 := getD_len (j := i) HshU.out.ev (by rw [HshU.out.v]; exact hlt)
      have m2 := getD_len (j := col) HshU.out.ev (by rw [HshU.out.v]; exact hc)
      dsimp only at n1 m1 n2 m2
      obtain ⟨q1, k1, hx1, rd1, nb1⟩ := HS.out.rowAt hlt n1
      obtain ⟨q3, k3, hx3, rd3, nb3⟩ := HS.out.rowAt hc m1
      have cx := HS.out.r.cell hx1
      obtain ⟨b1, off1, rfl, ce⟩ := rd_ent rd1 n1 hc
      have Hx1 := Lib.hid hx1
      have Hx3 := Lib.hid hx3
      have Rd1 := Lib.hid rd1
      have Rd3 := Lib.hid rd3
      have Nb1 := Lib.hid nb1
      have Nb3 := Lib.hid nb3
      have N1 := Lib.hid n1
      have M1 := Lib.hid m1
      have N2 := Lib.hid n2
      have M2 := Lib.hid m2
      have Hlr := Lib.hid HS.out.lr
      have Hlv := Lib.hid HS.out.lv
      have lBr := HS.out.st.lt
      have lrr := HS.out.r.lt
      have lvr := HS.out.v.lt
      clear n1 m1 n2 m2 hx1 hx3 rd1 rd3 nb1 nb3
      by_cases hic : i = col
      · have hic' : ((i : Int) != (col : Int)) = false := by simp [hic]
        have Hn2 : Hid (clearUp col (Rs, Vs) (i + 1) = (R, V)) := Lib.hid (by rw [Hnext.out]; unfold clearI; rw [if_pos (.inl hic)])
        clear hic
        go_wp2_with fail
        refine ⟨⟨i + 1, rs2, vs2, by go_num, by omega, ?_, HO⟩, by simp [intOf]; omega⟩
        rw [Hn2.out]; exact HS
      · have hic' : ((i : Int) != (col : Int)) = true := by simp; omega
        obtain ⟨y, hy⟩ : ∃ y, y = ent R i col := ⟨_, rfl⟩
        rw [← hy] at ce
        by_cases hy0 : y = 0
        · have hy' : ((y.toNat : Int) != 0) = false := by rw [hy0]; rfl
          have Hn2 : Hid (clearUp col (Rs, Vs) (i + 1) = (R, V)) := Lib.hid (by rw [Hnext.out]; unfold clearI; rw [if_pos (.inr (by rw [← hy, hy0]))])
          clear hy hy0
          go_wp2_with fail
          refine ⟨⟨i + 1, rs2, vs2, by go_num, by omega, ?_, HO⟩, by simp [intOf]; omega⟩
          rw [Hn2.out]; exact HS
        · have hy' : ((y.toNat : Int) != 0) = true := by
            simp
            intro e
            exact hy0 (UInt8.toNat_inj.1 (by simpa using e))
          have Hn2 : Hid (clearUp col (Rs, Vs) (i + 1) = (R.set i (addS (R.getD i []) y (R.getD col [])), V.set i (addS (V.getD i []) y (V.getD col [])))) := Lib.hid (by
            rw [Hnext.out]; unfold clearI; rw [if_neg (by rintro (e | e); exact hic e; exact hy0 (by rw [hy]; exact e)), ← hy])
          have Hic := Lib.hid hic
          clear hy hy0 hic
          go_wp2_with fail
          have nB : B ∉ [gr] := by simp; exact e1
          have hRr : ∀ a, Only [gr] a a := fun a => Only.refl _ _
          have hRt : ∀ a b e, Only [gr] a b → Only [gr] b e → Only [gr] a e := fun a b e h h2 => h.trans h2 (fun i hi _ => hi)
          have hRd : Only [gr] wr wr.drew := (Only.drew _).mono (by simp)
          have hC0 : ∀ i ∈ [22], (fun (i : Nat) (a : World) => Row a gr 27 (rs2 ++ rr)) i wr.drew := fun _ _ => HS.out.r.only0 (Only.drew _)
          have hl2 : ∀ x ∈ [gr], x < wr.heap.size := by simpa using lrr
          clear cx ce
          -- <<C7
          refine wp_region_rg4 (Only [gr]) (Dirt [(22, [gr])]) (fun (i : Nat) (a : World) => Row a gr 27 (rs2 ++ rr)) [22] [[(0, none)], [(77, some 0)], [(78, some 0)], [(79, some 0)], [(6, none)], [(0, none)], [(82, some 0)], [(83, some 0)], [(84, some 0)], [(6, none)], [(85, some 1), (86, some 0)], [(87, some 0)], [(7, none)], [(0, none)], [(90, some 0)], [(91, some 0)], [(92, some 0)], [(1, none)], [(93, some 1), (94, some 0)], [(95, some 0)], [(88, some 8), (89, some 7), (96, some 0)], [(80, some 17), (81, some 16)], [(98, some 0), (97, some 1)]] [] [none, none, none, none, none, none, none, none, none, none, none, none, none, none, none, none, none, none, none, none, none, none, none, none, none, none, none, none, none, none, none, none, none, none, none, none, none, none, none, none, none, none, none, none, none, none, none, none, none, none, none, none, none, none, none, none, none, none, none, none, none, none, none, none, none, none, none, none, none, none, none, none, none, none, none, none, none, some 77, some 78, some 79, some 80, some 81, some 82, some 83, some 84, some 85, some 86, some 87, some 88, some 89, some 90, some 91, some 92, some 93, some 94, some 95, some 96, some 97, some 98, none, none, none, none, none, none, none, none, none, none, none, none, none, none, none, none, none, none, none, none, none, none, none] (by kernel_rfl) rfl (by kernel_rfl) hRr hRt (fun _ _ => Only.refl _ _) hRd hC0 (by kernel_rfl) (by kernel_rfl) ?_
          -- 0: s77 := move t0
          apply rgd_ev
          · intro a w hR hC hf
            obtain ⟨e0, -⟩ := hf
            replace e0 : a.tmps.getD 0 undef = _ := e0
            refine rg_plain rfl fun K hK => ?_
            go_simp
            exact hK _ _ rfl ⟨hRr _, Only.refl _ _, fun _ _ _ _ h => h⟩
          -- 1: s78 := nilCheck t77
          apply rgd_ev
          · intro a w hR hC hf
            obtain ⟨e77, -⟩ := hf
            replace e77 : a.tmps.getD 77 undef = _ := e77
            refine rg_plain rfl fun K hK => ?_
            go_simp
            exact hK _ _ rfl ⟨hRr _, Only.refl _ _, fun _ _ _ _ h => h⟩
          -- 2: s79 := fieldAddr 116 t78 0
          apply rgd_ev
          · intro a w hR hC hf
            obtain ⟨e78, -⟩ := hf
            replace e78 : a.tmps.getD 78 undef = _ := e78
            refine rg_plain rfl fun K hK => ?_
            go_simp
            exact hK _ _ rfl ⟨hRr _, Only.refl _ _, fun _ _ _ _ h => h⟩
          -- 3: s80 := load 64 t79
          apply rgd_ev
          · intro a w hR hC hf
            obtain ⟨e79, -⟩ := hf
            replace e79 : a.tmps.getD 79 undef = _ := e79
            refine rg_plain rfl fun K hK => ?_
            have h3 := hR.cell c0 nB
            go_simp
            exact hK _ _ rfl ⟨hRr _, Only.refl _ _, fun _ _ _ _ h => h⟩
          -- 4: s81 := move t6
          apply rgd_ev
          · intro a w hR hC hf
            obtain ⟨e6, -⟩ := hf
            replace e6 : a.tmps.getD 6 undef = _ := e6
            refine rg_plain rfl fun K hK => ?_
            go_simp
            exact hK _ _ rfl ⟨hRr _, Only.refl _ _, fun _ _ _ _ h => h⟩
          -- 5: s82 := move t0
          apply rgd_ev
          · intro a w hR hC hf
            obtain ⟨e0, -⟩ := hf
            replace e0 : a.tmps.getD 0 undef = _ := e0
            refine rg_plain rfl fun K hK => ?_
            go_simp
            exact hK _ _ rfl ⟨hRr _, Only.refl _ _, fun _ _ _ _ h => h⟩
          -- 6: s83 := nilCheck t82
          apply rgd_ev
          · intro a w hR hC hf
            obtain ⟨e82, -⟩ := hf
            replace e82 : a.tmps.getD 82 undef = _ := e82
            refine rg_plain rfl fun K hK => ?_
            go_simp
            exact hK _ _ rfl ⟨hRr _, Only.refl _ _, fun _ _ _ _ h => h⟩
          -- 7: s84 := fieldAddr 116 t83 0
          apply rgd_ev
          · intro a w hR hC hf
            obtain ⟨e83, -⟩ := hf
            replace e83 : a.tmps.getD 83 undef = _ := e83
            refine rg_plain rfl fun K hK => ?_
            go_simp
            exact hK _ _ rfl ⟨hRr _, Only.refl _ _, fun _ _ _ _ h => h⟩
          -- 8: s85 := load 64 t84
          apply rgd_ev
          · intro a w hR hC hf
            obtain ⟨e84, -⟩ := hf
            replace e84 : a.tmps.getD 84 undef = _ := e84
            refine rg_plain rfl fun K hK => ?_
            have h3 := hR.cell c0 nB
            go_simp
            exact hK _ _ rfl ⟨hRr _, Only.refl _ _, fun _ _ _ _ h => h⟩
          -- 9: s86 := move t6
          apply rgd_ev
          · intro a w hR hC hf
            obtain ⟨e6, -⟩ := hf
            replace e6 : a.tmps.getD 6 undef = _ := e6
            refine rg_plain rfl fun K hK => ?_
            go_simp
            exact hK _ _ rfl ⟨hRr _, Only.refl _ _, fun _ _ _ _ h => h⟩
          -- 10: s87 := indexAddr 64 t85 t86
          apply rgd_ev
          · intro a w hR hC hf
            obtain ⟨e85, e86, -⟩ := hf
            replace e85 : a.tmps.getD 85 undef = _ := e85
            replace e86 : a.tmps.getD 86 undef = _ := e86
            refine rg_plain rfl fun K hK => ?_
            go_simp
            exact hK _ _ rfl ⟨hRr _, Only.refl _ _, fun _ _ _ _ h => h⟩
          -- 11: s88 := load 27 t87
          apply rgd_ev
          · intro a w hR hC hf
            obtain ⟨e87, -⟩ := hf
            replace e87 : a.tmps.getD 87 undef = _ := e87
            refine rg_plain rfl fun K hK => ?_
            have h17 := (hC 22 (by simp) (by kernel_rfl)).cell Hx1.out
            go_simp
            exact hK _ _ rfl ⟨hRr _, Only.refl _ _, fun _ _ _ _ h => h⟩
          -- 12: s89 := move t7
          apply rgd_ev
          · intro a w hR hC hf
            obtain ⟨e7, -⟩ := hf
            replace e7 : a.tmps.getD 7 undef = _ := e7
            refine rg_plain rfl fun K hK => ?_
            go_simp
            exact hK _ _ rfl ⟨hRr _, Only.refl _ _, fun _ _ _ _ h => h⟩
          -- 13: s90 := move t0
          apply rgd_ev
          · intro a w hR hC hf
            obtain ⟨e0, -⟩ := hf
            replace e0 : a.tmps.getD 0 undef = _ := e0
            refine rg_plain rfl fun K hK => ?_
            go_simp
            exact hK _ _ rfl ⟨hRr _, Only.refl _ _, fun _ _ _ _ h => h⟩
          -- 14: s91 := nilCheck t90
          apply rgd_ev
          · intro a w hR hC hf
            obtain ⟨e90, -⟩ := hf
            replace e90 : a.tmps.getD 90 undef = _ := e90
            refine rg_plain rfl fun K hK => ?_
            go_simp
            exact hK _ _ rfl ⟨hRr _, Only.refl _ _, fun _ _ _ _ h => h⟩
          -- 15: s92 := fieldAddr 116 t91 0
          apply rgd_ev
          · intro a w hR hC hf
            obtain ⟨e91, -⟩ := hf
            replace e91 : a.tmps.getD 91 undef = _ := e91
            refine rg_plain rfl fun K hK => ?_
            go_simp
            exact hK _ _ rfl ⟨hRr _, Only.refl _ _, fun _ _ _ _ h => h⟩
          -- 16: s93 := load 64 t92
          apply rgd_ev
          · intro a w hR hC hf
            obtain ⟨e92, -⟩ := hf
            replace e92 : a.tmps.getD 92 undef = _ := e92
            refine rg_plain rfl fun K hK => ?_
            have h3 := hR.cell c0 nB
            go_simp
            exact hK _ _ rfl ⟨hRr _, Only.refl _ _, fun _ _ _ _ h => h⟩
          -- 17: s94 := move t1
          apply rgd_ev
          · intro a w hR hC hf
            obtain ⟨e1, -⟩ := hf
            replace e1 : a.tmps.getD 1 undef = _ := e1
            refine rg_plain rfl fun K hK => ?_
            go_simp
            exact hK _ _ rfl ⟨hRr _, Only.refl _ _, fun _ _ _ _ h => h⟩
          -- 18: s95 := indexAddr 64 t93 t94
          apply rgd_ev
          · intro a w hR hC hf
            obtain ⟨e93, e94, -⟩ := hf
            replace e93 : a.tmps.getD 93 undef = _ := e93
            replace e94 : a.tmps.getD 94 undef = _ := e94
            refine rg_plain rfl fun K hK => ?_
            go_simp
            exact hK _ _ rfl ⟨hRr _, Only.refl _ _, fun _ _ _ _ h => h⟩
          -- 19: s96 := load 27 t95
          apply rgd_ev
          · intro a w hR hC hf
            obtain ⟨e95, -⟩ := hf
            replace e95 : a.tmps.getD 95 undef = _ := e95
            refine rg_plain rfl fun K hK => ?_
            have h17 := (hC 22 (by simp) (by kernel_rfl)).cell Hx3.out
            go_simp
            exact hK _ _ rfl ⟨hRr _, Only.refl _ _, fun _ _ _ _ h => h⟩
          -- 20: s97 := call { value (Operand.func 63), args := #[t88, t89, t96], #[27, 5, 27] }
          refine ⟨IsNewB (addS (R.getD i []) y (R.getD col [])) k wr.heap.size, stands_of (IsNewB.stable (by simp)) (one_dirt (Z := fun x => Stable (Only x.2) (IsNewB _ _ _)) (fun _ => IsNewB.stable hl2)), fun a w hR hC hf => ?_, ?_⟩
          · obtain ⟨e88, e89, e96, -⟩ := hf
            replace e88 : a.tmps.getD 88 undef = _ := e88
            replace e89 : a.tmps.getD 89 undef = _ := e89
            replace e96 : a.tmps.getD 96 undef = _ := e96
            refine rg_plain rfl fun K hK => ?_
            go_simp
            (with_reducible refine (addScaled_k w N1.out M1.out (by omega) (Rd1.out.onlyNe hR (fun hne a ha hm => absurd (show a.block ∈ [B, gr, gv] by simp at hm ⊢; simp [hm]) (Nb1.out hne a ha))) (Rd3.out.onlyNe hR (fun hne a ha hm => absurd (show a.block ∈ [B, gr, gv] by simp at hm ⊢; simp [hm]) (Nb3.out hne a ha)))).mono ?_)
            rintro e w' ⟨v, rfl, hv, ho⟩
            exact hK _ _ (hv.low hR.size) ⟨ho.mono (by simp), ho, fun i _ _ _ hc => hc.only0 ho⟩
          -- 21: s98 := indexAddr 64 t80 t81
          apply rgd_ev
          · intro a w hR hC hf
            obtain ⟨e80, e81, -⟩ := hf
            replace e80 : a.tmps.getD 80 undef = _ := e80
            replace e81 : a.tmps.getD 81 undef = _ := e81
            refine rg_plain rfl fun K hK => ?_
            go_simp
            exact hK _ _ rfl ⟨hRr _, Only.refl _ _, fun _ _ _ _ h => h⟩
          -- 22: sNone := store 27 t98 t97
          refine ⟨CellSet gr rs2 rr i (addS (R.getD i []) y (R.getD col [])) k wr.heap.size, stands_of (CellSet.stable (by simp) (by simp)) (one_dirt (Z := fun x => Stable (Only x.2) (CellSet _ _ _ _ _ _ _)) (fun h => by simp at h)), fun a w hR hC hf => ?_, ?_⟩
          · obtain ⟨e98, e97, -⟩ := hf
            replace e98 : a.tmps.getD 98 undef = _ := e98
            replace e97 : IsNewB (addS (R.getD i []) y (R.getD col [])) k wr.heap.size (a.tmps.getD 97 undef) w := e97
            refine rg_plain rfl fun K hK => ?_
            have hC29 := hC 22 (by simp) (by kernel_rfl)
            obtain ⟨hl, g, e97, hg, rg⟩ := e97
            have h29 := hC29.cell Hx1.out
            have h29f := hC29.free i
            go_simp
            have hst : Only [gr] w (w.setCell ⟨gr, i, none⟩ (.slice (some ⟨g, 0, none⟩) k k)) := Only.setCell w ⟨gr, i, none⟩ _
            refine hK undef _ (CellSet.make hl (by rw [Hlr.out]; exact hlt) hC29 rg hg lrr) ⟨hst.mono (by simp), hst, ?_⟩
            intro i hi hne ha hc
            exact absurd (List.mem_singleton.1 hi) hne
          intro f7 w7 hR7 hf hz7
          dsimp only [mergeT]
          -- C7>>
          obtain ⟨v22, S22⟩ := hz7 _ (List.mem_cons_self ..)
          obtain ⟨rs3, S3⟩ := HS.out.setR hR7 S22
          have HO7 : Hid (Only [gr, gv] w0 w7) := Lib.hid (HO.out.trans hR7 (by simp))
          have HS3 := Lib.hid S3
          clear S22 S3 hz7 hR7 hRr hRt hRd hC0 hl2 c0 nB Hx1 Hx3 Rd1 Rd3 Nb1 Nb3 HO
          have c1 := HS3.out.st.cell (i := 1) rfl
          obtain ⟨q1, k1, hx1, rd1, nb1⟩ := HS3.out.valAt hlt N2.out
          obtain ⟨q3, k3, hx3, rd3, nb3⟩ := HS3.out.valAt hc M2.out
          have Hx1 := Lib.hid hx1
          have Hx3 := Lib.hid hx3
          have Rd1 := Lib.hid rd1
          have Rd3 := Lib.hid rd3
          have Nb1 := Lib.hid nb1
          have Nb3 := Lib.hid nb3
          clear hx1 hx3 rd1 rd3 nb1 nb3
          have lB7 := HS3.out.st.lt
          have lr7 := HS3.out.r.lt
          have lv7 := HS3.out.v.lt
          have nB : B ∉ [gv] := by simp; exact e2
          have hRr : ∀ a, Only [gv] a a := fun a => Only.refl _ _
          have hRt : ∀ a b e, Only [gv] a b → Only [gv] b e → Only [gv] a e := fun a b e h h2 => h.trans h2 (fun i hi _ => hi)
          have hRd : Only [gv] w7 w7.drew := (Only.drew _).mono (by simp)
          have hC0 : ∀ i ∈ [22], (fun (i : Nat) (a : World) => Row a gv 27 (vs2 ++ rv)) i w7.drew := fun _ _ => HS3.out.v.only0 (Only.drew _)
          have hl2 : ∀ x ∈ [gv], x < w7.heap.size := by simpa using lv7
          go_wp2_with fail
          -- <<C8
          refine wp_region_rg4 (Only [gv]) (Dirt [(22, [gv])]) (fun (i : Nat) (a : World) => Row a gv 27 (vs2 ++ rv)) [22] [[(0, none)], [(99, some 0)], [(100, some 0)], [(101, some 0)], [(6, none)], [(0, none)], [(104, some 0)], [(105, some 0)], [(106, some 0)], [(6, none)], [(107, some 1), (108, some 0)], [(109, some 0)], [(7, none)], [(0, none)], [(112, some 0)], [(113, some 0)], [(114, some 0)], [(1, none)], [(115, some 1), (116, some 0)], [(117, some 0)], [(110, some 8), (111, some 7), (118, some 0)], [(102, some 17), (103, some 16)], [(120, some 0), (119, some 1)]] [] [none, none, none, none, none, none, none, none, none, none, none, none, none, none, none, none, none, none, none, none, none, none, none, none, none, none, none, none, none, none, none, none, none, none, none, none, none, none, none, none, none, none, none, none, none, none, none, none, none, none, none, none, none, none, none, none, none, none, none, none, none, none, none, none, none, none, none, none, none, none, none, none, none, none, none, none, none, none, none, none, none, none, none, none, none, none, none, none, none, none, none, none, none, none, none, none, none, none, none, some 99, some 100, some 101, some 102, some 103, some 104, some 105, some 106, some 107, some 108, some 109, some 110, some 111, some 112, some 113, some 114, some 115, some 116, some 117, some 118, some 119, some 120, none] (by kernel_rfl) rfl (by kernel_rfl) hRr hRt (fun _ _ => Only.refl _ _) hRd hC0 (by kernel_rfl) (by kernel_rfl) ?_
          -- 0: s99 := move t0
          apply rgd_ev
          · intro a w hR hC hf
            obtain ⟨e0, -⟩ := hf
            replace e0 : a.tmps.getD 0 undef = _ := e0
            refine rg_plain rfl fun K hK => ?_
            go_simp
            exact hK _ _ rfl ⟨hRr _, Only.refl _ _, fun _ _ _ _ h => h⟩
          -- 1: s100 := nilCheck t99
          apply rgd_ev
          · intro a w hR hC hf
            obtain ⟨e99, -⟩ := hf
            replace e99 : a.tmps.getD 99 undef = _ := e99
            refine rg_plain rfl fun K hK => ?_
            go_simp
            exact hK _ _ rfl ⟨hRr _, Only.refl _ _, fun _ _ _ _ h => h⟩
          -- 2: s101 := fieldAddr 116 t100 1
          apply rgd_ev
          · intro a w hR hC hf
            obtain ⟨e100, -⟩ := hf
            replace e100 : a.tmps.getD 100 undef = _ := e100
            refine rg_plain rfl fun K hK => ?_
            go_simp
            exact hK _ _ rfl ⟨hRr _, Only.refl _ _, fun _ _ _ _ h => h⟩
          -- 3: s102 := load 64 t101
          apply rgd_ev
          · intro a w hR hC hf
            obtain ⟨e101, -⟩ := hf
            replace e101 : a.tmps.getD 101 undef = _ := e101
            refine rg_plain rfl fun K hK => ?_
            have h3 := hR.cell c1 nB
            go_simp
            exact hK _ _ rfl ⟨hRr _, Only.refl _ _, fun _ _ _ _ h => h⟩
          -- 4: s103 := move t6
          apply rgd_ev
          · intro a w hR hC hf
            obtain ⟨e6, -⟩ := hf
            replace e6 : a.tmps.getD 6 undef = _ := e6
            refine rg_plain rfl fun K hK => ?_
            go_simp
            exact hK _ _ rfl ⟨hRr _, Only.refl _ _, fun _ _ _ _ h => h⟩
          -- 5: s104 := move t0
          apply rgd_ev
          · intro a w hR hC hf
            obtain ⟨e0, -⟩ := hf
            replace e0 : a.tmps.getD 0 undef = _ := e0
            refine rg_plain rfl fun K hK => ?_
            go_simp
            exact hK _ _ rfl ⟨hRr _, Only.refl _ _, fun _ _ _ _ h => h⟩
          -- 6: s105 := nilCheck t104
          apply rgd_ev
          · intro a w hR hC hf
            obtain ⟨e104, -⟩ := hf
            replace e104 : a.tmps.getD 104 undef = _ := e104
            refine rg_plain rfl fun K hK => ?_
            go_simp
            exact hK _ _ rfl ⟨hRr _, Only.refl _ _, fun _ _ _ _ h => h⟩
          -- 7: s106 := fieldAddr 116 t105 1
          apply rgd_ev
          · intro a w hR hC hf
            obtain ⟨e105, -⟩ := hf
            replace e105 : a.tmps.getD 105 undef = _ := e105
            refine rg_plain rfl fun K hK => ?_
            go_simp
            exact hK _ _ rfl ⟨hRr _, Only.refl _ _, fun _ _ _ _ h => h⟩
          -- 8: s107 := load 64 t106
          apply rgd_ev
          · intro a w hR hC hf
            obtain ⟨e106, -⟩ := hf
            replace e106 : a.tmps.getD 106 undef = _ := e106
            refine rg_plain rfl fun K hK => ?_
            have h3 := hR.cell c1 nB
            go_simp
            exact hK _ _ rfl ⟨hRr _, Only.refl _ _, fun _ _ _ _ h => h⟩
          -- 9: s108 := move t6
          apply rgd_ev
          · intro a w hR hC hf
            obtain ⟨e6, -⟩ := hf
            replace e6 : a.tmps.getD 6 undef = _ := e6
            refine rg_plain rfl fun K hK => ?_
            go_simp
            exact hK _ _ rfl ⟨hRr _, Only.refl _ _, fun _ _ _ _ h => h⟩
          -- 10: s109 := indexAddr 64 t107 t108
          apply rgd_ev
          · intro a w hR hC hf
            obtain ⟨e107, e108, -⟩ := hf
            replace e107 : a.tmps.getD 107 undef = _ := e107
            replace e108 : a.tmps.getD 108 undef = _ := e108
            refine rg_plain rfl fun K hK => ?_
            go_simp
            exact hK _ _ rfl ⟨hRr _, Only.refl _ _, fun _ _ _ _ h => h⟩
          -- 11: s110 := load 27 t109
          apply rgd_ev
          · intro a w hR hC hf
            obtain ⟨e109, -⟩ := hf
            replace e109 : a.tmps.getD 109 undef = _ := e109
            refine rg_plain rfl fun K hK => ?_
            have h17 := (hC 22 (by simp) (by kernel_rfl)).cell Hx1.out
            go_simp
            exact hK _ _ rfl ⟨hRr _, Only.refl _ _, fun _ _ _ _ h => h⟩
          -- 12: s111 := move t7
          apply rgd_ev
          · intro a w hR hC hf
            obtain ⟨e7, -⟩ := hf
            replace e7 : a.tmps.getD 7 undef = _ := e7
            refine rg_plain rfl fun K hK => ?_
            go_simp
            exact hK _ _ rfl ⟨hRr _, Only.refl _ _, fun _ _ _ _ h => h⟩
          -- 13: s112 := move t0
          apply rgd_ev
          · intro a w hR hC hf
            obtain ⟨e0, -⟩ := hf
            replace e0 : a.tmps.getD 0 undef = _ := e0
            refine rg_plain rfl fun K hK => ?_
            go_simp
            exact hK _ _ rfl ⟨hRr _, Only.refl _ _, fun _ _ _ _ h => h⟩
          -- 14: s113 := nilCheck t112
          apply rgd_ev
          · intro a w hR hC hf
            obtain ⟨e112, -⟩ := hf
            replace e112 : a.tmps.getD 112 undef = _ := e112
            refine rg_plain rfl fun K hK => ?_
            go_simp
            exact hK _ _ rfl ⟨hRr _, Only.refl _ _, fun _ _ _ _ h => h⟩
          -- 15: s114 := fieldAddr 116 t113 1
          apply rgd_ev
          · intro a w hR hC hf
            obtain ⟨e113, -⟩ := hf
            replace e113 : a.tmps.getD 113 undef = _ := e113
            refine rg_plain rfl fun K hK => ?_
            go_simp
            exact hK _ _ rfl ⟨hRr _, Only.refl _ _, fun _ _ _ _ h => h⟩
          -- 16: s115 := load 64 t114
          apply rgd_ev
          · intro a w hR hC hf
            obtain ⟨e114, -⟩ := hf
            replace e114 : a.tmps.getD 114 undef = _ := e114
            refine rg_plain rfl fun K hK => ?_
            have h3 := hR.cell c1 nB
            go_simp
            exact hK _ _ rfl ⟨hRr _, Only.refl _ _, fun _ _ _ _ h => h⟩
          -- 17: s116 := move t1
          apply rgd_ev
          · intro a w hR hC hf
            obtain ⟨e1, -⟩ := hf
            replace e1 : a.tmps.getD 1 undef = _ := e1
            refine rg_plain rfl fun K hK => ?_
            go_simp
            exact hK _ _ rfl ⟨hRr _, Only.refl _ _, fun _ _ _ _ h => h⟩
          -- 18: s117 := indexAddr 64 t115 t116
          apply rgd_ev
          · intro a w hR hC hf
            obtain ⟨e115, e116, -⟩ := hf
            replace e115 : a.tmps.getD 115 undef = _ := e115
            replace e116 : a.tmps.getD 116 undef = _ := e116
            refine rg_plain rfl fun K hK => ?_
            go_simp
            exact hK _ _ rfl ⟨hRr _, Only.refl _ _, fun _ _ _ _ h => h⟩
          -- 19: s118 := load 27 t117
          apply rgd_ev
          · intro a w hR hC hf
            obtain ⟨e117, -⟩ := hf
            replace e117 : a.tmps.getD 117 undef = _ := e117
            refine rg_plain rfl fun K hK => ?_
            have h17 := (hC 22 (by simp) (by kernel_rfl)).cell Hx3.out
            go_simp
            exact hK _ _ rfl ⟨hRr _, Only.refl _ _, fun _ _ _ _ h => h⟩
          -- 20: s119 := call { value (Operand.func 63), args := #[t110, t111, t118], #[27, 5, 27] }
          refine ⟨IsNewB (addS (V.getD i []) y (V.getD col [])) size w7.heap.size, stands_of (IsNewB.stable (by simp)) (one_dirt (Z := fun x => Stable (Only x.2) (IsNewB _ _ _)) (fun _ => IsNewB.stable hl2)), fun a w hR hC hf => ?_, ?_⟩
          · obtain ⟨e110, e111, e118, -⟩ := hf
            replace e110 : a.tmps.getD 110 undef = _ := e110
            replace e111 : a.tmps.getD 111 undef = _ := e111
            replace e118 : a.tmps.getD 118 undef = _ := e118
            refine rg_plain rfl fun K hK => ?_
            go_simp
            (with_reducible refine (addScaled_k w N2.out M2.out (by omega) (Rd1.out.onlyNe hR (fun hne a ha hm => absurd (show a.block ∈ [B, gr, gv] by simp at hm ⊢; simp [hm]) (Nb1.out hne a ha))) (Rd3.out.onlyNe hR (fun hne a ha hm => absurd (show a.block ∈ [B, gr, gv] by simp at hm ⊢; simp [hm]) (Nb3.out hne a ha)))).mono ?_)
            rintro e w' ⟨v, rfl, hv, ho⟩
            exact hK _ _ (hv.low hR.size) ⟨ho.mono (by simp), ho, fun i _ _ _ hc => hc.only0 ho⟩
          -- 21: s120 := indexAddr 64 t102 t103
          apply rgd_ev
          · intro a w hR hC hf
            obtain ⟨e102, e103, -⟩ := hf
            replace e102 : a.tmps.getD 102 undef = _ := e102
            replace e103 : a.tmps.getD 103 undef = _ := e103
            refine rg_plain rfl fun K hK => ?_
            go_simp
            exact hK _ _ rfl ⟨hRr _, Only.refl _ _, fun _ _ _ _ h => h⟩
          -- 22: sNone := store 27 t120 t119
          refine ⟨CellSet gv vs2 rv i (addS (V.getD i []) y (V.getD col [])) size w7.heap.size, stands_of (CellSet.stable (by simp) (by simp)) (one_dirt (Z := fun x => Stable (Only x.2) (CellSet _ _ _ _ _ _ _)) (fun h => by simp at h)), fun a w hR hC hf => ?_, ?_⟩
          · obtain ⟨e120, e119, -⟩ := hf
            replace e120 : a.tmps.getD 120 undef = _ := e120
            replace e119 : IsNewB (addS (V.getD i []) y (V.getD col [])) size w7.heap.size (a.tmps.getD 119 undef) w := e119
            refine rg_plain rfl fun K hK => ?_
            have hC29 := hC 22 (by simp) (by kernel_rfl)
            obtain ⟨hl, g, e119, hg, rg⟩ := e119
            have h29 := hC29.cell Hx1.out
            have h29f := hC29.free i
            go_simp
            have hst : Only [gv] w (w.setCell ⟨gv, i, none⟩ (.slice (some ⟨g, 0, none⟩) size size)) := Only.setCell w ⟨gv, i, none⟩ _
            refine hK undef _ (CellSet.make hl (by rw [Hlv.out]; exact hlt) hC29 rg hg lv7) ⟨hst.mono (by simp), hst, ?_⟩
            intro i hi hne ha hc
            exact absurd (List.mem_singleton.1 hi) hne
          intro f8 w8 hR8 hf hz8
          dsimp only [mergeT]
          -- C8>>
          obtain ⟨v22, S22⟩ := hz8 _ (List.mem_cons_self ..)
          obtain ⟨vs3, S4⟩ := HS3.out.setV hR8 S22
          have HO8 : Hid (Only [gr, gv] w0 w8) := Lib.hid (HO7.out.trans hR8 (by simp))
          have HS4 := Lib.hid S4
          clear S22 S4 hz8 hR8 hRr hRt hRd hC0 hl2 c1 nB Hx1 Hx3 Rd1 Rd3 Nb1 Nb3
          go_wp2_with fail
          refine ⟨⟨i + 1, rs3, vs3, by go_num, by omega, ?_, HO8⟩, by simp [intOf]; omega⟩
          rw [Hn2.out]; exact HS4
    · obtain rfl : i = k := by omega
      have hti : ¬ (i : Int) < (i : Int) := by omega
      go_wp2_with fail
      (first | go_end0 | ((try simp only [Exit.inBlock, Exit.then]); refine bodyPost_ret (results_none rfl _ _ _) rfl ?_))
      refine ⟨rfl, ⟨rs2, vs2, ?_⟩, HO.out⟩
      have e : clearS col (Rs, Vs) = clearUp col (Rs, Vs) i := by unfold clearS; rw [Hsh.out.r]
      rw [e]; exact HS.out
end Go.Proofs.YtlgcclhepegggaaDoor
