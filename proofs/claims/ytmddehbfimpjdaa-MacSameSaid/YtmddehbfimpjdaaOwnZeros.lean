/- append(s, make([]T, k)...) to a slice of our own: k noughts behind it. Over any program. -/
import Derived.Test.YtmddehbfimpjdaaOwnAt
import Derived.Lib.AppendZerosOnto
set_option linter.unusedVariables false
namespace Go.Proofs.Ytmddehbfimpjdaa
open Go.RowKit

theorem append_zeros {P : Program} (w : World) {t tn ty e : TypeId} {z : Value} {kq kn : IntKind} {bytes base n cap k : Nat} {p : Option Addr} {vs : List Value} (ht : P.underlying t = some (.slice e)) (htn : P.underlying tn = some (.int kn)) (hi : (P.info? e).map (fun i => (i.zero, i.size, i.bytes)) = some (some z, 1, bytes)) (hz : z.cells = #[z]) (hz1 : z.oneCell' = true)
    (hown : OwnA w base e p n cap vs) (hb : (n + k) * bytes ≤ 140737488355328) (h63 : n + k ≤ 9223372036854775807) (hbase : base ≤ w.heap.size) :
    ∃ p' cap' w', (Builtin.append_ #[t, tn] ty #[.slice p n cap, .int kq (k : Int)]).run P w = .ok (.slice p' (n + k) cap') w' ∧ OwnA w' base e p' (n + k) cap' (vs ++ List.replicate k z) ∧ Only (blk p) w w' ∧ (∀ x ∈ blk p', x ∈ blk p ∨ w.heap.size ≤ x) := by
  obtain ⟨i, hii, hz0, hs1, hs2⟩ := info_parts hi
  have hzc : ∀ k, (Builtin.zeroCells z.cells k).toList = List.replicate k z := by
    intro k
    apply List.ext_getElem
    · simp [Builtin.zeroCells, hz]
    · intro j h1 h2
      simp [Builtin.zeroCells, hz, Nat.mod_one]
  have hkb : k * bytes ≤ (n + k) * bytes := Nat.mul_le_mul_right _ (by omega)
  have hge : ∀ old, n + k ≤ grownCap w (n + k) old e := fun old => grownCap_ge w (n + k) old e
  have hle : ∀ old, grownCap w (n + k) old e ≤ 9223372036854775807 := fun old => by
    have := grownCap_le_maxLen w (n + k) old e (by simp [maxLen]; omega)
    simpa [maxLen] using this
  have hw : IntKind.i64.wrap (k : Int) = k := by rw [IntKind.wrap_i64]; omega
  by_cases hg : cap < n + k
  · have h0 : 0 < k := by have := hown.2.1; omega
    have hnew : ∀ old (c : Array Value), c.toList = vs ++ List.replicate k z ++ List.replicate (grownCap w (n + k) old e - (n + k)) z → OwnA (w.drew.alloc (.cells c e)) base e (some ⟨w.heap.size, 0, none⟩) (n + k) (grownCap w (n + k) old e) (vs ++ List.replicate k z) := by
      intro old c hc
      refine ⟨by rw [List.length_append, hown.1, List.length_replicate], hge old, hle old, .inr ⟨w.heap.size, 0, _, rfl, by omega, Row.newOf w.drew e c _ hc, ?_, ?_⟩⟩
      · have := hge old
        simp only [List.length_append, List.length_replicate, hown.1]; omega
      · rw [List.drop_zero, List.take_left' (by rw [List.length_append, hown.1, List.length_replicate])]
    cases p with
    | none =>
      obtain ⟨rfl, rfl⟩ := hown.nilp rfl
      obtain rfl : vs = [] := List.eq_nil_of_length_eq_zero hown.1
      have h := Lib.run_append_nil_zeros (P := P) w t tn ty e i z kq kn ht htn hii hz0 k h0 (by omega) (by omega) (by rw [hs2]; rw [Nat.zero_add] at hb; omega)
      rw [Nat.zero_add] at *
      exact ⟨_, _, _, h, hnew 0 _ (by simp [hzc]), ((Only.drew w).trans0 (Only.alloc _ _)).mono (by simp), fun x hx => .inr (by simp [blk] at hx; omega)⟩
    | some b =>
      have hold : (Builtin.firstCells i.size n (.slice (some b) n cap)).run P w.drew = .ok vs.toArray w.drew :=
        run_firstCells_some (P := P) w.drew i.size n b n cap vs (by rw [hs1, hown.1]; omega) (by simpa using hown.rd.cells)
      have h := Lib.run_append_grow_zeros (P := P) w t tn ty e i z kq kn ht htn hii hz0 (some b) n cap vs hold k h0 (by omega) hg (by omega) (by rw [hs2]; omega) (by rw [hs2]; exact growslice_fits hg hb)
      exact ⟨_, _, _, h, hnew cap _ (by simp [hzc]), ((Only.drew w).trans0 (Only.alloc _ _)).mono (by simp), fun x hx => .inr (by simp [blk] at hx; omega)⟩
  · have hneg : ¬ ((k : Int) < 0) := by omega
    have h48i : ¬ (281474976710656 < (k : Int) * (i.bytes : Int)) := by rw [← Int.natCast_mul, hs2]; omega
    have hfit : n + k ≤ cap := by omega
    obtain ⟨k1, k2, k3, k4⟩ := hown
    by_cases hk0 : k = 0
    · subst hk0
      refine ⟨p, cap, w, ?_, by rw [List.replicate_zero, List.append_nil]; exact ⟨k1, k2, k3, k4⟩, Only.refl _ _, fun x hx => .inl hx⟩
      have hw0 : IntKind.i64.wrap 0 = 0 := by decide
      cases p with
      | none => simp [Builtin.append_, run_underlying ht, run_underlying htn, sizeOf, typeInfo, hii, asInt, asIntOf, hw0, k2]
      | some a => simp [Builtin.append_, run_underlying ht, run_underlying htn, sizeOf, typeInfo, hii, asInt, asIntOf, hw0, k2, storeCells]
    · rcases k4 with ⟨rfl, rfl⟩ | ⟨g, off, us, rfl, hgb, r, hu, hvs⟩
      · omega
      · have hns : ¬ (k * i.size = 0) := Nat.mul_ne_zero hk0 (by omega)
        have hst := run_storeCells_cells (P := P) g (off + n * i.size) (Builtin.zeroCells z.cells k).toList 0 w (fun j hj => by
          rw [hs1, Nat.mul_one, Nat.add_zero]
          have hlt : off + n + j < us.length := by rw [hzc, List.length_replicate] at hj; omega
          rw [r.cell (List.getElem?_eq_getElem hlt)]; rfl) (fun j hj => r.free _) (fun v hv => by rw [hzc] at hv; rw [(List.mem_replicate.1 hv).2]; exact hz1)
        simp only [Nat.add_zero] at hst
        have hset := Row.setCells (List.replicate k z) (off + n) r (by rw [List.length_replicate]; omega)
        refine ⟨some ⟨g, off, none⟩, cap, w.setCells g (off + n) (List.replicate k z), ?_, ⟨by rw [List.length_append, k1, List.length_replicate], by omega, k3, .inr ⟨g, off, _, rfl, hgb, hset, ?_, ?_⟩⟩, (Only.setCells g _ (off + n) w).mono (by simp [blk]), fun x hx => .inl hx⟩
        · rw [hzc, hs1, Nat.mul_one] at hst
          simp [Builtin.append_, run_underlying ht, run_underlying htn, sizeOf, typeInfo, zeroValue, hii, hz0, hs1, asInt, asIntOf, hw, hneg, h48i, hfit, hk0, Addr.add_lit, hzc, hst]
        · simp only [List.length_append, List.length_take, List.length_drop, List.length_replicate]; omega
        · subst hvs
          have hl : (us.take (off + n)).length = off + n := by rw [List.length_take]; omega
          rw [List.append_assoc, List.drop_append_of_le_length (by omega), List.take_append]
          have hl2 : ((us.take (off + n)).drop off).length = n := by rw [List.length_drop, hl]; omega
          rw [List.take_of_length_le (by omega), hl2, show n + k - n = k by omega, List.take_left' List.length_replicate, List.drop_take, show off + n - off = n by omega]
end Go.Proofs.Ytmddehbfimpjdaa
