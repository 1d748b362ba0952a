/- The walks of slices.Delete over letters, (*net.Net).Deliver, Drop. -/
import Derived.Test.YtlgcclhepegggaaDoorNetFindW
import Derived.Test.YtlgcclhepegggaaDoorRegion4
import Derived.Test.YtlgcclhepegggaaDoorRegDirt
set_option linter.unusedVariables false
set_option maxRecDepth 100000
namespace Go.Proofs.YtlgcclhepegggaaDoor
open Go.RowKit

/-- a slice that reads so in every world behind -/
def RdQ (w0 : World) (n c : Nat) (vs : List Value) : Value → World → Prop := fun v _ => ∃ q, v = .slice q n c ∧ q ≠ none ∧ ∀ w, Only [] w0 w → Rd w q vs
theorem RdQ.any (w0 : World) (n c : Nat) (vs : List Value) {R : World → World → Prop} : Stable R (RdQ w0 n c vs) := fun _ _ _ h _ => h
def DelS (g c m : Nat) (vs : List Value) : Value → World → Prop := fun v w => v = .slice (some ⟨g, 0, none⟩) m c ∧ Row w g 37 vs
theorem DelS.stable0 {g c m : Nat} {vs : List Value} : Stable (Only []) (DelS g c m vs) := fun _ _ _ ⟨e, r⟩ ho => ⟨e, r.only0 ho⟩
theorem Rd.drop {w : World} {b off : Nat} {vs : List Value} (h : Rd w (some ⟨b, off, none⟩) vs) (k : Nat) : Rd w (some ⟨b, off + k, none⟩) (vs.drop k) := by
  rcases h with rfl | ⟨b', off', e, h⟩
  · exact .inl (by simp)
  · obtain ⟨rfl, rfl⟩ : b = b' ∧ off = off' := by simpa using e
    exact .inr ⟨b, off + k, rfl, fun j v hv => by rw [List.getElem?_drop] at hv; rw [Nat.add_assoc]; exact h _ v hv⟩
theorem OwnK.parts {w : World} {base K n m c : Nat} {e : TypeId} {p : Option Addr} {vs : List Value} (h : OwnK w base e K (.slice p m c) n vs) (hn : 0 < n) : ∃ g rest, p = some ⟨g, 0, none⟩ ∧ base ≤ g ∧ Row w g e (vs ++ rest) ∧ (vs ++ rest).length = c * K ∧ n ≤ c ∧ c ≤ 9223372036854775807 := by
  rcases h.2 with ⟨e1, rfl⟩ | ⟨g, cap, cur, e1, hg, hh, h1, h2, h3, h4⟩
  · omega
  · cases e1
    refine ⟨g, cur.toList.drop (n * K), rfl, hg, ?_, ?_, h1, by simpa [maxLen] using h2⟩
    · rw [← h4, List.take_append_drop]
      unfold Row; simpa using hh
    · rw [← h4, List.take_append_drop]; simpa using h3
theorem zero_one {z : Array Value} (h : ∀ v ∈ z.toList, v.oneCell' = true) (m : Nat) : ∀ v ∈ (Builtin.zeroCells z m).toList, v.oneCell' = true := by
  intro v hv
  simp [Builtin.zeroCells] at hv
  obtain ⟨a, ha, rfl⟩ := hv
  have hs : 0 < z.size := by
    rcases Nat.eq_zero_or_pos z.size with h0 | h0
    · rw [h0] at ha; omega
    · exact h0
  have hlt := Nat.mod_lt a hs
  rw [getElem!_pos z (a % z.size) hlt]
  exact h _ (by simp)
/-- 'clear' of letters -/
theorem clear_lt (w : World) {g s m c : Nat} {vs : List Value} (hrow : Row w g 37 vs) (hfit : (s + m) * 4 ≤ vs.length) (hm : 0 < m) :
    ∃ Z w', (∀ ty, (Builtin.clear_ #[87] ty #[.slice (some ⟨g, s * 4, none⟩) m c]).run Tryd.prog w = .ok (.tuple #[]) w') ∧ Row w' g 37 (vs.take (s * 4) ++ Z ++ vs.drop ((s + m) * 4)) ∧ Z.length = m * 4 ∧ Only [g] w w' := by
  obtain ⟨i, hi, hz0, hz1, hz2⟩ := info_partsK Tryd.infoLt
  obtain ⟨z, hz⟩ : ∃ z, z = Value.agg #[.int .i64 0, .int .i64 0, .int .i64 0, .slice none 0 0] := ⟨_, rfl⟩
  rw [← hz] at hz0
  have hzl : (Builtin.zeroCells z.cells m).toList.length = m * 4 := by
    have := size_zeroCells z.cells m
    rw [show z.cells.size = 4 by rw [hz]; rfl] at this
    simpa using this
  have hst := run_storeCells_at (P := Tryd.prog) g (s * 4) 37 (Builtin.zeroCells z.cells m).toList 0 vs.toArray w hrow (by rw [hzl]; simp; omega) (zero_one (by rw [hz]; intro v hv; simp [Value.cells] at hv; rcases hv with rfl | rfl <;> rfl) m)
  obtain ⟨m', rfl⟩ : ∃ m', m = m' + 1 := ⟨m - 1, by omega⟩
  refine ⟨(Builtin.zeroCells z.cells (m' + 1)).toList, w.setRow g (vs.take (s * 4) ++ (Builtin.zeroCells z.cells (m' + 1)).toList ++ vs.drop ((s + (m' + 1)) * 4)).toArray, ?_, hrow.setRow _, hzl, Only.setRow _ _ _⟩
  · intro ty
    simp only [Nat.add_zero, hzl] at hst
    rw [show s * 4 + (m' + 1) * 4 = (s + (m' + 1)) * 4 by omega] at hst
    simp [Builtin.clear_, run_underlying Tryd.underlying87, zeroValue, typeInfo, hi, hz0, hst]

set_option maxHeartbeats 8000000 in
theorem delete_any (w0 : World) (base n c i : Nat) (q : Option Addr) (L : List Lt) (hown : OwnK w0 base 37 4 (.slice q n c) n (ltFlat L)) (hl : L.length = n) (hi : i < n) (hn : n ≤ 1000000) :
    Calls Tryd.prog 43 #[.slice q n c, .int .i64 (i : Int), .int .i64 ((i : Int) + 1)] w0 fun e w' => e = .returned (.slice q (n - 1) c) ∧ OwnK w' base 37 4 (.slice q (n - 1) c) (n - 1) (ltFlat (L.eraseIdx i)) ∧ Only (blk q) w0 w' := by
  obtain ⟨g, rest, rfl, hg, r, hrl, hnc, hc⟩ := hown.parts (by omega)
  have hfl := ltFlat_length L
  have hel : (L.eraseIdx i).length = n - 1 := by rw [List.length_eraseIdx_of_lt (by omega), hl]
  have herase : L.take i ++ L.drop (i + 1) = L.eraseIdx i := (List.eraseIdx_eq_take_drop_succ L i).symm
  obtain ⟨Z, hZ⟩ : ∃ Z, Z = (ltFlat L ++ rest).drop ((n - 1) * 4) := ⟨_, rfl⟩
  have hZl : Z.length = (c - (n - 1)) * 4 := by rw [hZ, List.length_drop, hrl]; omega
  have HRun : Hid (∀ w, Only [] w0 w → ∀ a, Rd w (some a) (ltFlat (L.drop (i + 1))) → ∃ w3, (Builtin.append_ #[87, 87] 87 #[.slice (some ⟨g, 0, none⟩) i c, .slice (some a) (n - (i + 1)) (c - (i + 1))]).run Tryd.prog w = .ok (.slice (some ⟨g, 0, none⟩) (n - 1) c) w3 ∧ Row w3 g 37 (ltFlat (L.eraseIdx i) ++ Z) ∧ Only [g] w w3) := Lib.hid (by
    intro w hw a ha
    obtain ⟨ti, h1, hz0, hz1, hz2⟩ := info_partsK Tryd.infoLt
    have hdl : (ltFlat (L.drop (i + 1))).length = (n - (i + 1)) * 4 := by rw [ltFlat_length, List.length_drop, hl]
    have h := run_append_room (P := Tryd.prog) w 87 87 37 ti Tryd.underlying87 h1 g i c (ltFlat L ++ rest).toArray (r.only0 hw) a (n - (i + 1)) (c - (i + 1)) (ltFlat (L.drop (i + 1))) (by rw [hz1]; exact hdl) ha.cells (fun u hu => ltFlat_one hu) (by omega) (by rw [hz1, hdl]; simp only [List.size_toArray]; rw [hrl]; omega)
    rw [show i + (n - (i + 1)) = n - 1 by omega] at h
    refine ⟨_, h, ?_, Only.setRow _ _ _⟩
    have h2 := (r.only0 hw).setRow ((ltFlat L ++ rest).toArray.toList.take (i * ti.size) ++ ltFlat (L.drop (i + 1)) ++ (ltFlat L ++ rest).toArray.toList.drop (i * ti.size + (ltFlat (L.drop (i + 1))).length))
    rw [hz1, hdl] at h2
    rw [hz1, hdl]
    have e1 : (ltFlat L ++ rest).toArray.toList.take (i * 4) ++ ltFlat (L.drop (i + 1)) ++ (ltFlat L ++ rest).toArray.toList.drop (i * 4 + (n - (i + 1)) * 4) = ltFlat (L.eraseIdx i) ++ Z := by
      rw [← herase, ltFlat_append, hZ]
      rw [List.take_append_of_le_length (by omega), ltFlat_take, show i * 4 + (n - (i + 1)) * 4 = (n - 1) * 4 by omega]
    rw [e1] at h2 ⊢
    exact h2)
  have HSl : Hid (∀ w : World, RdQ w0 (n - (i + 1)) (c - (i + 1)) (ltFlat (L.drop (i + 1))) (.slice (if c = i + 1 then some ⟨g, 0, none⟩ else some ⟨g, (i + 1) * 4, none⟩) (n - (i + 1)) (c - (i + 1))) w) := Lib.hid fun _ => ⟨_, rfl, by split <;> simp, fun w ho => by
    by_cases e : c = i + 1
    · rw [List.drop_of_length_le (by omega)]; exact Rd.nil _ _
    · rw [if_neg e]
      have h := (r.only0 ho).rd0.take (n * 4)
      rw [List.take_left' (by rw [hfl, hl])] at h
      have h2 := h.drop ((i + 1) * 4)
      rwa [ltFlat_drop, Nat.zero_add] at h2⟩
  have Hrl := Lib.hid hrl
  have HZl := Lib.hid hZl
  have Hel := Lib.hid hel
  have Hg := Lib.hid hg
  have hi0 : ((i : Int) == (i : Int) + 1) = false := by simp; omega
  have hin : (i : Int) + 1 ≤ (n : Int) := by omega
  have hnci : (n : Int) ≤ (c : Int) := by omega
  clear hown hl hfl herase hZ hrl hZl r hel hg
  go_enter Tryd.func43, Tryd.ntmps43
  go_wp2_with fail
  have hRr : ∀ a, Only [g] a a := fun a => Only.refl _ _
  have hRt : ∀ a b e, Only [g] a b → Only [g] b e → Only [g] a e := fun a b e h h2 => h.trans h2 (fun i hi _ => hi)
  have hRd : Only [g] w0 w0.drew := (Only.drew _).mono (by simp)
  have hC0 : ∀ d ∈ [6], (fun (_ : Nat) (a : World) => Only [] w0 a) d w0.drew := fun _ _ => Only.drew _
  -- <<R5
  refine wp_region_rg4 (Only [g]) (Dirt [(6, [g])]) (fun (_ : Nat) (a : World) => Only [] w0 a) [6] [[(0, none)], [(1, none)], [(20, some 1), (21, some 0)], [(0, none)], [(2, none)], [(23, some 1), (24, some 0)], [(22, some 3), (25, some 0)], [(26, some 0)]] [(0, 0)] [some 0, none, none, none, none, none, none, none, none, none, none, none, none, none, none, none, none, none, none, none, some 20, some 21, some 22, some 23, some 24, some 25, some 26, none, none, none, none, none, none] (by kernel_rfl) rfl (by kernel_rfl) hRr hRt (fun _ _ => Only.refl _ _) hRd hC0 (by kernel_rfl) (by kernel_rfl) ?_
  -- 0: s20 := move t0
  apply rgd_ev
  · intro a w hR hC hf
    obtain ⟨e0, -⟩ := hf
    replace e0 : a.tmps.getD 0 undef = _ := e0
    refine rg_plain rfl fun K hK => ?_
    go_simp
    exact hK _ _ rfl ⟨hRr _, Only.refl _ _, fun _ _ _ _ h => h⟩
  -- 1: s21 := move t1
  apply rgd_ev
  · intro a w hR hC hf
    obtain ⟨e1, -⟩ := hf
    replace e1 : a.tmps.getD 1 undef = _ := e1
    refine rg_plain rfl fun K hK => ?_
    go_simp
    exact hK _ _ rfl ⟨hRr _, Only.refl _ _, fun _ _ _ _ h => h⟩
  -- 2: s22 := slice 87 t20 none (some t21) none
  apply rgd_ev
  · intro a w hR hC hf
    obtain ⟨e20, e21, -⟩ := hf
    replace e20 : a.tmps.getD 20 undef = _ := e20
    replace e21 : a.tmps.getD 21 undef = _ := e21
    refine rg_plain rfl fun K hK => ?_
    have hi1 : (i : Int) ≤ (c : Int) := by omega
    go_simp
    exact hK _ _ rfl ⟨hRr _, Only.refl _ _, fun _ _ _ _ h => h⟩
  -- 3: s23 := move t0
  apply rgd_ev
  · intro a w hR hC hf
    obtain ⟨e0, -⟩ := hf
    replace e0 : a.tmps.getD 0 undef = _ := e0
    refine rg_plain rfl fun K hK => ?_
    go_simp
    exact hK _ _ rfl ⟨hRr _, Only.refl _ _, fun _ _ _ _ h => h⟩
  -- 4: s24 := move t2
  apply rgd_ev
  · intro a w hR hC hf
    obtain ⟨e2, -⟩ := hf
    replace e2 : a.tmps.getD 2 undef = _ := e2
    refine rg_plain rfl fun K hK => ?_
    go_simp
    exact hK _ _ rfl ⟨hRr _, Only.refl _ _, fun _ _ _ _ h => h⟩
  -- 5: s25 := slice 87 t23 (some t24) none none
  refine ⟨RdQ w0 (n - (i + 1)) (c - (i + 1)) (ltFlat (L.drop (i + 1))), stands_of (RdQ.any _ _ _ _) (by intro x hx hk; exact RdQ.any _ _ _ _), fun a w hR hC hf => ?_, ?_⟩
  · obtain ⟨e23, e24, -⟩ := hf
    replace e23 : a.tmps.getD 23 undef = _ := e23
    replace e24 : a.tmps.getD 24 undef = _ := e24
    refine rg_plain rfl fun K hK => ?_
    have hi2 : (i : Int) + 1 ≤ (n : Int) := by omega
    go_simp
    exact hK _ _ (HSl.out w) ⟨hRr _, Only.refl _ _, fun _ _ _ _ h => h⟩
  -- 6: s26 := call { builtin append, args := #[t22, t25], #[87, 87] }
  refine ⟨DelS g c (n - 1) (ltFlat (L.eraseIdx i) ++ Z), stands_of (DelS.stable0) (by intro x hx hk; obtain rfl := List.mem_singleton.1 hx; exact Bool.noConfusion (hk.symm.trans (by kernel_rfl : _ = true))), fun a w hR hC hf => ?_, ?_⟩
  · obtain ⟨e22, e25, -⟩ := hf
    replace e22 : a.tmps.getD 22 undef = _ := e22
    replace e25 : RdQ w0 (n - (i + 1)) (c - (i + 1)) (ltFlat (L.drop (i + 1))) (a.tmps.getD 25 undef) w := e25
    refine rg_plain rfl fun K hK => ?_
    have hC6 := hC 6 (by simp) (by kernel_rfl)
    obtain ⟨q25, e25, h25, r25⟩ := e25
    obtain ⟨a25, rfl⟩ : ∃ a, q25 = some a := by cases q25 with | none => exact absurd rfl h25 | some a => exact ⟨a, rfl⟩
    obtain ⟨w3, hr, r3, o3⟩ := HRun.out w hC6 a25 (r25 w hC6)
    refine rg_append (s := .tmp 22) (x := .tmp 25) rfl e22 e25 hr ?_
    exact hK _ _ ⟨rfl, r3⟩ ⟨o3, o3, fun i hi hne _ _ => absurd (List.mem_singleton.1 hi) hne⟩
  -- 7: s0 := assign t26
  refine ⟨DelS g c (n - 1) (ltFlat (L.eraseIdx i) ++ Z), stands_of (DelS.stable0) (by intro x hx hk; obtain rfl := List.mem_singleton.1 hx; exact Bool.noConfusion (hk.symm.trans (by kernel_rfl : _ = true))), fun a w hR hC hf => ?_, ?_⟩
  · obtain ⟨e26, -⟩ := hf
    replace e26 : DelS g c (n - 1) (ltFlat (L.eraseIdx i) ++ Z) (a.tmps.getD 26 undef) w := e26
    refine rg_plain rfl fun K hK => ?_
    generalize hv26 : a.tmps.getD 26 undef = v26 at e26
    go_simp
    exact hK _ _ e26 ⟨hRr _, Only.refl _ _, fun _ _ _ _ h => h⟩
  intro f5 w5 hR5 hf hz5
  dsimp only [mergeT]
  obtain ⟨e0, -⟩ := hf
  replace e0 : DelS g c (n - 1) (ltFlat (L.eraseIdx i) ++ Z) (f5 0) w5 := e0
  -- R5>>
  obtain ⟨e0, r5⟩ := e0
  rw [e0]
  obtain ⟨m, rfl⟩ : ∃ m, n = m + 1 := ⟨n - 1, by omega⟩
  rw [Nat.add_sub_cancel]
  have hel := Hel.out
  rw [Nat.add_sub_cancel] at hel
  have hZl := HZl.out
  rw [Nat.add_sub_cancel] at hZl
  have hfe := ltFlat_length (L.eraseIdx i)
  rw [hel] at hfe
  obtain ⟨Z2, w6, hcl, r6, hZ2, o6⟩ := clear_lt w5 (g := g) (s := m) (m := 1) (c := c - m) r5 (by rw [List.length_append, hfe, hZl]; omega) (by omega)
  rw [List.take_append_of_le_length (by omega), List.take_of_length_le (l := ltFlat (L.eraseIdx i)) (by omega), List.append_assoc] at r6
  have own6 : OwnK w6 base 37 4 (.slice (some ⟨g, 0, none⟩) m c) m (ltFlat (L.eraseIdx i)) := by
    refine ⟨hfe, .inr ⟨g, c, (ltFlat (L.eraseIdx i) ++ (Z2 ++ (ltFlat (L.eraseIdx i) ++ Z).drop ((m + 1) * 4))).toArray, rfl, Hg.out, r6, by omega, by simp [maxLen]; omega, ?_, by simp [List.take_left' hfe]⟩⟩
    simp only [List.size_toArray, List.length_append, List.length_drop, hfe, hZ2, hZl]
    omega
  have Hown6 := Lib.hid own6
  have HO6 : Hid (Only [g] w0 w6) := Lib.hid (hR5.trans o6 (fun i hi _ => hi))
  have hmc : (m : Int) ≤ (c : Int) := by omega
  have hcm : ¬ c = m := by omega
  clear e0 r5 r6 hZ2 o6 own6 hz5 hR5 hRr hRt hRd hC0 hfe hZl hel
  go_wp2_with fail
  go_ret
  exact ⟨rfl, Hown6.out, HO6.out⟩
end Go.Proofs.YtlgcclhepegggaaDoor
