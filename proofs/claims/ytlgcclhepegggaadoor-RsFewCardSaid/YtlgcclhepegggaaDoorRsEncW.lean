/- The walk of rs.Encode. -/
import Derived.Test.YtlgcclhepegggaaDoorRsRowW
import Derived.Test.YtlgcclhepegggaaDoorRsSizeW
set_option linter.unusedVariables false
set_option maxRecDepth 100000
namespace Go.Proofs.YtlgcclhepegggaaDoor
open Go.RowKit

theorem infoSl : (Tryd.prog.info? 27).map (fun i => (i.zero, i.size, i.bytes)) = some (some (.slice none 0 0), 1, 24) := by kernel_rfl
/-- one slice appended to a slice of slices of our own -/
theorem append_one {w : World} {base : Nat} {q : Option Addr} {j c' : Nat} {vs : List Value} (own : Own w base 27 (.slice q j c') vs) (V : Value) (hV : V.oneCell' = true) (hj : j + 1 ≤ 1000000) (hbase : base ≤ w.heap.size) :
    ∃ q' c'' w', Hid ((Builtin.append_ #[64, 64] 64 #[.slice q j c', .slice (some ⟨w.heap.size, 0, none⟩) 1 1]).run Tryd.prog (w.alloc (.cells #[V] 27)) = .ok (.slice q' (j + 1) c'') w') ∧ Own w' base 27 (.slice q' (j + 1) c'') (vs ++ [V]) ∧ Only (blk q) w w' ∧ (∀ k ∈ blk q', k ∈ blk q ∨ w.heap.size ≤ k) := by
  have oA : Only [] w (w.alloc (.cells #[V] 27)) := Only.alloc _ _
  obtain ⟨q', c'', w', h1, h2, h3, h4⟩ := append_owned (P := Tryd.prog) (bytes := 24) (c := 1) (q := some ⟨w.heap.size, 0, none⟩) (m := 1) (news := [V]) (t := 64) (ty := 64) _ Tryd.underlying64 infoSl rfl (own.only0 oA) (Row.new w _ [V]).rd0 rfl (by simp) (fun v hv => by obtain rfl := List.mem_singleton.1 hv; exact hV) (by omega) (by omega) (Nat.le_trans hbase oA.size)
  refine ⟨q', c'', w', Lib.hid h1, h2, (oA.mono (by simp)).trans h3 (fun i hi _ => hi), fun k hk => ?_⟩
  rcases h4 with rfl | ⟨g, rfl, hg⟩
  · exact .inl hk
  · simp [blk] at hk; subst hk; exact .inr (Nat.le_trans oA.size hg)
/-- the values of slices at the heads of blocks of their own -/
def slsV (size : Nat) (gs : List Nat) : List Value := gs.map fun g => .slice (some ⟨g, 0, none⟩) size size
theorem slsV_len (size : Nat) (gs : List Nat) : (slsV size gs).length = gs.length := by simp [slsV]
theorem slsV_one {size : Nat} {gs : List Nat} {v : Value} (h : v ∈ slsV size gs) : v.oneCell' = true := by
  obtain ⟨g, -, rfl⟩ := List.mem_map.1 h; rfl
/-- lists of bytes, each in a block of its own -/
structure NewLists (w : World) (base : Nat) (q : Option Addr) (c size : Nat) (Ls : List (List UInt8)) (gs : List Nat) : Prop where
  len : gs.length = Ls.length
  apart : gs.Nodup
  own : Own w base 27 (.slice q Ls.length c) (slsV size gs)
  low : ∀ g ∈ gs, base ≤ g ∧ g ∉ blk q
  each : ∀ l ∈ Ls, l.length = size
  row : ∀ (j : Nat) g L, gs[j]? = some g → Ls[j]? = some L → Row w g 5 (u8s L)
theorem NewLists.only0 {w w' : World} {base : Nat} {q : Option Addr} {c size : Nat} {Ls : List (List UInt8)} {gs : List Nat} (h : NewLists w base q c size Ls gs) (ho : Only [] w w') : NewLists w' base q c size Ls gs :=
  ⟨h.len, h.apart, h.own.only0 ho, h.low, h.each, fun j g L h1 h2 => (h.row j g L h1 h2).only0 ho⟩
theorem NewLists.lists {w : World} {base : Nat} {q : Option Addr} {c size : Nat} {Ls : List (List UInt8)} {gs : List Nat} (h : NewLists w base q c size Ls gs) : Lists w q Ls := fun j L hj => by
  have hv := h.own.view
  have hjl := (List.getElem?_eq_some_iff.1 hj).1
  obtain ⟨g, hg⟩ : ∃ g, gs[j]? = some g := ⟨_, List.getElem?_eq_getElem (by rw [h.len]; exact hjl)⟩
  have hL := h.each L (List.mem_of_getElem? hj)
  have hcell : (slsV size gs)[j]? = some (.slice (some ⟨g, 0, none⟩) size size) := by unfold slsV; rw [List.getElem?_map, hg]; rfl
  rcases hv.1 with h0 | ⟨b, off, rfl, hc⟩
  · rw [h0] at hcell; cases hcell
  · exact ⟨b, off, _, size, rfl, by rw [hL]; exact hc j _ hcell, (h.row j g L hg hj).rd0, by simp, by omega⟩

set_option maxHeartbeats 8000000 in
theorem encode_ok (p : Option Addr) (data : List UInt8) (n c k m : Nat) (ww : World) (h : legal (k : Int) (m : Int) = true) (hn : data.length = n) (hb : n ≤ 1024) (hp : p = none → n = 0 ∧ c = 0) (hx : Rd ww p (u8s data)) :
    Calls Tryd.prog 30 #[.int .i64 (k : Int), .int .i64 (m : Int), .slice p n c] ww fun e w' => ∃ q c' gs, e = .returned (.tuple #[.slice q (k + m) c', .nilIface]) ∧ NewLists w' ww.heap.size q c' (shardLen k n) (encB k m (shardLen k n) data) gs ∧ Only [] ww w' := by
  obtain ⟨l1, l2, l3⟩ := legal_iff.1 h
  have hsize := size_ok k m n h hb ww
  have hsl := shardLen_le (k := k) hb
  have hfit : n ≤ k * shardLen k n := by
    unfold shardLen
    have h1 := Nat.div_add_mod (n + k - 1) k
    have h2 := Nat.mod_lt (n + k - 1) (show k > 0 by omega)
    omega
  have hel : (encB k m (shardLen k n) data).length = k + m := encB_len _ _ _ _
  obtain ⟨size, hsz⟩ : ∃ size, size = shardLen k n := ⟨_, rfl⟩
  rw [← hsz] at hsize hsl hfit hel ⊢
  obtain ⟨N, hN⟩ : ∃ N, N = k * size := ⟨_, rfl⟩
  have hNb : N ≤ 16 * 1024 := by rw [hN]; exact Nat.mul_le_mul (by omega) hsl
  have hmulN : (k : Int) * (size : Int) = (N : Int) := by rw [hN]; simp
  rw [← hN] at hfit
  obtain ⟨ga, w1, hmk, hga, hr, ho⟩ := make_row (P := Tryd.prog) (bytes := 1) ww Tryd.underlying27 Tryd.infoU8 rfl .i64 .i64 N N (Nat.le_refl _) (by omega) (by omega)
  obtain ⟨w2, hcp, r2, o2⟩ := copy_row (P := Tryd.prog) (dT := 27) (sT := 27) (ty := 3) (elem := 5) (g := ga) (L := N) (dCap := N) (n := n) (c := c) (p := p) (o := 0) w1 Tryd.underlying27 (by kernel_rfl) hr (hx.only0 ho) (by rw [u8s_length, hn]; exact (Nat.min_eq_left hfit).symm) (by rw [u8s_length, List.length_replicate, hn]; omega) (fun v hv => u8s_one hv)
  rw [u8s_length, hn] at hcp
  have e3 : (List.replicate N (Value.int .u8 0)).take 0 ++ u8s data ++ (List.replicate N (Value.int .u8 0)).drop (0 + (u8s data).length) = u8s (padD k size data) := by
    unfold padD
    rw [u8s_append, u8s_replicate, List.drop_replicate, Nat.zero_add, u8s_length, ← hN]; rfl
  rw [e3] at r2
  have R2 := Lib.hid r2
  have Ho2 := Lib.hid (ho.transN o2 (by simp; exact hga))
  have Hn := Lib.hid hn
  have HN := Lib.hid hN
  have Hsz := Lib.hid hsz
  have Hel := Lib.hid hel
  have hpl : (padD k size data).length = N := by rw [hN]; exact padD_len (by rw [hn, ← hN]; exact hfit)
  have Hpl := Lib.hid hpl
  clear h hn hsz hN hr ho o2 r2 e3 hp hx hel hpl
  go_enter Tryd.func30, Tryd.ntmps30
  go_wp2_with fail
  (with_reducible refine (hsize).mono ?_)
  rintro e w' ⟨rfl, rfl⟩
  go_wp2_with fail
  clear hsize hmk hcp
  -- the data shards
  go_loopw [34, 11] (fun i o wr => ∃ (j : Nat) (q : Option Addr) (c' : Nat) (vs : List Value), i = .int .i64 (j : Int) ∧ o = .slice q j c' ∧ j ≤ k ∧ Hid (Own wr ww.heap.size 27 (.slice q j c') vs) ∧ Hid (∀ i, i < j → ∃ a c, vs[i]? = some (.slice (some a) size c) ∧ size ≤ c ∧ (size ≠ 0 → a = ⟨ga, i * size, none⟩)) ∧ Hid (ga ∉ blk q) ∧ Hid (Row wr ga 5 (u8s (padD k size data))) ∧ Hid (Only [] ww wr)) (fun i _ _ => k - (intOf i).toNat)
  case atStart => exact ⟨0, none, 0, [], rfl, rfl, Nat.zero_le _, Lib.hid (Own.nil _ _ _), Lib.hid (fun i hi => by omega), Lib.hid (by simp [blk]), R2, Ho2⟩
  case round =>
    clear R2 Ho2
    obtain ⟨j, q, c', vs, rfl, rfl, hj, Hown, Hvs, Hga, R2, Ho2⟩ := hrel
    by_cases hlt : j < k
    · have hji : (j : Int) < (k : Int) := by omega
      obtain ⟨lo, hlo⟩ : ∃ lo, lo = j * size := ⟨_, rfl⟩
      obtain ⟨hi, hhi⟩ : ∃ hi, hi = lo + size := ⟨_, rfl⟩
      have m1 : (j : Int) * (size : Int) = (lo : Int) := by rw [hlo]; simp
      have m2 : ((j : Int) + 1) * (size : Int) = (hi : Int) := by rw [hhi, hlo, Int.add_mul]; simp
      have hhN : hi ≤ N := by
        rw [hhi, hlo, HN.out]
        have := Nat.mul_le_mul_right size (show j + 1 ≤ k by omega)
        rw [Nat.add_mul] at this; omega
      have hd : (hi : Int) - (lo : Int) = (size : Int) := by omega
      have b1 : (0 : Int) ≤ (lo : Int) := by omega
      have b2 : (lo : Int) ≤ (hi : Int) := by omega
      have b3 : (hi : Int) ≤ (N : Int) := by omega
      have Hlo := Lib.hid hlo
      have Hhi := Lib.hid hhi
      clear hlo hhi
      have hqlt : ∀ x ∈ blk q, ww.heap.size ≤ x := fun x hx => by
        cases q with
        | none => cases hx
        | some a => simp [blk] at hx; subst hx; exact (Hown.out.lt _ rfl).1
      have hga2 : ga < wr.heap.size := R2.out.lt
      by_cases hNl : N = lo
      · subst hNl
        obtain ⟨q', c'', w5, Hr, own2, o5, hb5⟩ := append_one Hown.out (.slice (some ⟨ga, 0, none⟩) 0 0) rfl (by omega) Ho2.out.size
        have Own2 := Lib.hid own2
        have R5 := Lib.hid (R2.out.only o5 Hga.out)
        have Ho5 := Lib.hid (Ho2.out.transN o5 hqlt)
        have Hga5 : Hid (ga ∉ blk q') := Lib.hid fun hm => (hb5 _ hm).elim (fun h => Hga.out h) (fun h => by omega)
        have hvl := (Hown.out.view).2.1
        have Hvs5 : Hid (∀ i, i < j + 1 → ∃ a c, (vs ++ [Value.slice (some ⟨ga, 0, none⟩) 0 0])[i]? = some (.slice (some a) size c) ∧ size ≤ c ∧ (size ≠ 0 → a = ⟨ga, i * size, none⟩)) := Lib.hid fun i hi' => by
          by_cases e : i < j
          · obtain ⟨a, c, h1, h2, h3⟩ := Hvs.out i e
            exact ⟨a, c, by rw [List.getElem?_append_left (by omega)]; exact h1, h2, h3⟩
          · obtain rfl : i = j := by omega
            refine ⟨⟨ga, 0, none⟩, 0, ?_, ?_, fun h0 => ?_⟩
            · rw [List.getElem?_append_right (by omega), hvl, Nat.sub_self, show size = 0 by have := Hhi.out; omega]; rfl
            · have := Hhi.out; omega
            · exfalso; have := Hhi.out; omega
        clear own2 o5 hb5 Hown R2 Ho2 Hga Hvs hvl hqlt hga2
        go_wp2_with (first | (at_builtin; refine wpl_append (s := .tmp 37) (x := .tmp 47) rfl rfl rfl rfl Hr.out ?_))
        go_roundw
        case rel => exact ⟨j + 1, q', c'', _, by go_num, rfl, by omega, Own2, Hvs5, Hga5, R5, Ho5⟩
        case measure => simp [intOf]; omega
      · skip
        obtain ⟨q', c'', w5, Hr, own2, o5, hb5⟩ := append_one Hown.out (.slice (some ⟨ga, lo, none⟩) (hi - lo) (N - lo)) rfl (by omega) Ho2.out.size
        have Own2 := Lib.hid own2
        have R5 := Lib.hid (R2.out.only o5 Hga.out)
        have Ho5 := Lib.hid (Ho2.out.transN o5 hqlt)
        have Hga5 : Hid (ga ∉ blk q') := Lib.hid fun hm => (hb5 _ hm).elim (fun h => Hga.out h) (fun h => by omega)
        have hvl := (Hown.out.view).2.1
        have Hvs5 : Hid (∀ i, i < j + 1 → ∃ a c, (vs ++ [Value.slice (some ⟨ga, lo, none⟩) (hi - lo) (N - lo)])[i]? = some (.slice (some a) size c) ∧ size ≤ c ∧ (size ≠ 0 → a = ⟨ga, i * size, none⟩)) := Lib.hid fun i hi' => by
          by_cases e : i < j
          · obtain ⟨a, c, h1, h2, h3⟩ := Hvs.out i e
            exact ⟨a, c, by rw [List.getElem?_append_left (by omega)]; exact h1, h2, h3⟩
          · obtain rfl : i = j := by omega
            refine ⟨⟨ga, lo, none⟩, N - lo, ?_, ?_, fun h0 => ?_⟩
            · rw [List.getElem?_append_right (by omega), hvl, Nat.sub_self, show hi - lo = size by have := Hhi.out; omega]; rfl
            · have := Hhi.out; omega
            · rw [Hlo.out]
        clear own2 o5 hb5 Hown R2 Ho2 Hga Hvs hvl hqlt hga2
        go_wp2_with (first | (at_builtin; refine wpl_append (s := .tmp 37) (x := .tmp 47) rfl rfl rfl rfl Hr.out ?_))
        exact ⟨⟨j + 1, q', c'', _, by go_num, rfl, by omega, Own2, Hvs5, Hga5, R5, Ho5⟩, by simp [intOf]; omega⟩
    · obtain rfl : j = k := by omega
      have hji : ¬ (j : Int) < (j : Int) := by omega
      have hdl : data.length ≤ j * size := by rw [Hn.out, ← HN.out]; exact hfit
      have hL : Lists wr q (dataB j size data) := fun i L hi' => by
        have hij : i < j := by have := (List.getElem?_eq_some_iff.1 hi').1; rwa [dataB_len] at this
        have hlen := dataB_each hdl L (List.mem_of_getElem? hi')
        rw [dataB_get hij] at hi'
        obtain rfl := Option.some.inj hi'
        obtain ⟨a, c, h1, h2, h3⟩ := Hvs.out i hij
        rcases Hown.out.view.1 with h0 | ⟨b, off, rfl, hc⟩
        · rw [h0] at h1; cases h1
        · refine ⟨b, off, some a, c, rfl, by rw [hlen]; exact hc i _ h1, ?_, by simp, by rw [hlen]; exact h2⟩
          by_cases hz : size = 0
          · have : ((padD j size data).drop (i * size)).take size = [] := List.eq_nil_of_length_eq_zero (by rw [hlen, hz])
            rw [this]; exact Rd.nil _ _
          · rw [h3 hz, ← u8s_take, ← u8s_drop]
            exact (R2.out.rd (i * size)).take size
      have HL := Lib.hid hL
      have heach : ∀ l ∈ dataB j size data, l.length = size := dataB_each hdl
      have HE := Lib.hid heach
      have hDl : (dataB j size data).length = j := dataB_len _ _ _
      have HDl := Lib.hid hDl
      have henc : ∀ i, i < j + m → (encB j m size data)[i]? = some (combB (rowB j i) (dataB j size data) size) := fun i hi => encB_get hi
      have Henc := Lib.hid henc
      have heL := encB_each (m := m) hdl
      have HeL := Lib.hid heL
      have hsw := Ho2.out.size
      clear hL heach hDl henc hdl heL Hown Hvs Hga R2 hmulN
      generalize dataB j size data = D at *
      obtain ⟨w9, hw9⟩ : ∃ w, w = wr := ⟨_, rfl⟩
      subst hw9
      go_wp2_with fail
      go_loopw [53, 13] (fun i o wf => ∃ (t : Nat) (q2 : Option Addr) (c2 : Nat) (gs : List Nat), i = .int .i64 (t : Int) ∧ o = .slice q2 t c2 ∧ t ≤ j + m ∧ Hid (gs.length = t) ∧ Hid gs.Nodup ∧ Hid (Own wf w9.heap.size 27 (.slice q2 t c2) (slsV size gs)) ∧ Hid (∀ g ∈ gs, w9.heap.size ≤ g ∧ g ∉ blk q2) ∧ Hid (∀ i g, gs[i]? = some g → Row wf g 5 (u8s (combB (rowB j i) D size))) ∧ Hid (Only [] w9 wf)) (fun i _ _ => j + m - (intOf i).toNat)
      case atStart => exact ⟨0, none, 0, [], rfl, rfl, Nat.zero_le _, Lib.hid rfl, Lib.hid List.nodup_nil, Lib.hid (Own.nil _ _ _), Lib.hid (by simp), Lib.hid (by simp), Lib.hid (Only.refl _ _)⟩
      case round =>
        obtain ⟨t, q2, c2, gs, rfl, rfl, ht, Hgl, Hnd, Hown, Hlow, Hrow, Ho⟩ := hrel
        by_cases hlt : t < j + m
        · have hti : (t : Int) < (j : Int) + (m : Int) := by omega
          go_wp2_with fail
          (with_reducible refine (row_any j t (by omega) (by omega) wr).mono ?_)
          rintro e wa ⟨g1, rfl, hg1, hr1, ho1⟩
          have Hr1 := Lib.hid hr1.rd0
          have Ho1 := Lib.hid (Ho.out.trans0 ho1)
          have Hown1 := Lib.hid (Hown.out.only0 ho1)
          have Hrow1 := Lib.hid (fun i g h => (Hrow.out i g h).only0 ho1)
          have hgl1 : Hid (∀ g ∈ gs, g < wa.heap.size) := Lib.hid fun g hg => by
            obtain ⟨i, hi⟩ := List.getElem?_of_mem hg
            exact (Hrow1.out i g hi).lt
          clear hr1 ho1 Hown Hrow Ho hg1
          go_wp2_with fail
          (with_reducible refine (combined_any (some ⟨g1, 0, none⟩) q (rowB j t) D j j j c' size wa (rowB_len _ _) HDl.out (Nat.le_refl _) (by omega) (by omega) HE.out Hr1.out (HL.out.only0 Ho1.out)).mono ?_)
          rintro e wb ⟨g2, rfl, hg2, hr2, ho2⟩
          rw [List.take_of_length_le (by rw [HDl.out]; exact Nat.le_refl _)] at hr2
          have hob := Ho1.out.trans0 ho2
          obtain ⟨q3, c3, w5, Hr, own2, o5, hb5⟩ := append_one (Hown1.out.only0 ho2) (.slice (some ⟨g2, 0, none⟩) size size) rfl (by omega) hob.size
          have hq2lt : ∀ x ∈ blk q2, w9.heap.size ≤ x ∧ x < wa.heap.size := fun x hx => by
            cases q2 with
            | none => cases hx
            | some a => simp [blk] at hx; subst hx; exact Hown1.out.lt _ rfl
          have hg2n : g2 ∉ gs := fun hm => by have := hgl1.out g2 hm; omega
          have hg2q : g2 ∉ blk q2 := fun hm => by have := (hq2lt g2 hm).2; omega
          have hs2 := ho2.size
          have hg2lt := hr2.lt
          have hsob := hob.size
          have N1 : Hid ((gs ++ [g2]).length = t + 1) := Lib.hid (by rw [List.length_append, Hgl.out]; rfl)
          have N2 : Hid ((gs ++ [g2]).Nodup) := Lib.hid (by
            rw [List.nodup_append]
            refine ⟨Hnd.out, by simp, fun a ha b hb => ?_⟩
            obtain rfl := List.mem_singleton.1 hb
            exact fun e => hg2n (e ▸ ha))
          have N3 : Hid (Own w5 w9.heap.size 27 (.slice q3 (t + 1) c3) (slsV size (gs ++ [g2]))) := Lib.hid (by unfold slsV; rw [List.map_append]; exact own2)
          have N4 : Hid (∀ g ∈ gs ++ [g2], w9.heap.size ≤ g ∧ g ∉ blk q3) := Lib.hid fun g hg => by
            rcases List.mem_append.1 hg with h | h
            · refine ⟨(Hlow.out g h).1, fun hm => ?_⟩
              rcases hb5 g hm with h2 | h2
              · exact (Hlow.out g h).2 h2
              · have := hgl1.out g h; omega
            · obtain rfl := List.mem_singleton.1 h
              have hsa := Ho1.out.size
              refine ⟨by omega, fun hm => ?_⟩
              rcases hb5 g hm with h2 | h2
              · exact hg2q h2
              · omega
          have N5 : Hid (∀ i g, (gs ++ [g2])[i]? = some g → Row w5 g 5 (u8s (combB (rowB j i) D size))) := Lib.hid fun i g hg => by
            by_cases e : i < t
            · rw [List.getElem?_append_left (by rw [Hgl.out]; exact e)] at hg
              exact ((Hrow1.out i g hg).only0 ho2).only o5 (Hlow.out g (List.mem_of_getElem? hg)).2
            · have hi1 := (List.getElem?_eq_some_iff.1 hg).1
              rw [N1.out] at hi1
              obtain rfl : i = t := by omega
              rw [List.getElem?_append_right (by rw [Hgl.out]; exact Nat.le_refl _), Hgl.out, Nat.sub_self] at hg
              obtain rfl := Option.some.inj hg
              exact hr2.only o5 hg2q
          have N6 : Hid (Only [] w9 w5) := Lib.hid (hob.transN o5 (fun x hx => (hq2lt x hx).1))
          clear own2 o5 hb5 hr2 ho2 hob Hown1 Hrow1 hgl1 Ho1 Hr1 hq2lt hg2n hg2q hs2 hg2lt hsob
          go_wp2_with (first | (at_builtin; refine wpl_append (s := .tmp 56) (x := .tmp 63) rfl rfl rfl rfl Hr.out ?_))
          go_roundw
          case rel => exact ⟨t + 1, q3, c3, gs ++ [g2], by go_num, rfl, by omega, N1, N2, N3, N4, N5, N6⟩
          case measure => simp [intOf]; omega
        · obtain rfl : t = j + m := by omega
          have hti : ¬ ((j + m : Nat) : Int) < (j : Int) + (m : Int) := by omega
          go_wp2_with fail
          go_ret2
          refine ⟨q2, c2, rfl, ⟨gs, by rw [Hgl.out, Hel.out], Hnd.out, by rw [Hel.out]; exact Hown.out.weaken hsw, fun g hg => ⟨Nat.le_trans hsw (Hlow.out g hg).1, (Hlow.out g hg).2⟩, HeL.out, fun i g L hg hL => ?_⟩, Ho2.out.trans0 Ho.out⟩
          have hi1 := (List.getElem?_eq_some_iff.1 hg).1
          rw [Hgl.out] at hi1
          rw [Henc.out i hi1] at hL
          obtain rfl := Option.some.inj hL
          exact Hrow.out i g hg
end Go.Proofs.YtlgcclhepegggaaDoor
