/- The walk of bollardref06.Blocks; lists of lists of bytes of our own. -/
import Derived.Test.YtfoplbolbjcggaaDoorBlocksW
import Derived.Test.YtfoplbolbjcggaaDoorRegions
set_option linter.unusedVariables false
set_option maxRecDepth 100000
namespace Go.Proofs.YtfoplbolbjcggaaDoor
open Go.RowKit

theorem ownBlk' {p : Option Addr} {n c x : Nat} (h : (Value.slice p n c).ownBlock = some x) : x ∈ blk p := by
  cases p with
  | none => simp [Value.ownBlock] at h
  | some a => simp [Value.ownBlock] at h; simp [blk, h]
/-- a list of lists of bytes; F: its blocks -/
structure LstAt (w : World) (base : Nat) (F : List Nat) (q : Option Addr) (m k : Nat) (L : List (List UInt8)) : Prop where
  len : L.length = m
  own : ∃ vs, Own w base 22 (.slice q m k) vs ∧ vs.length = m ∧ ∀ (i : Nat) bs, L[i]? = some bs → ∃ g c, vs[i]? = some (.slice (some ⟨g, 0, none⟩) bs.length c) ∧ Own w base 5 (.slice (some ⟨g, 0, none⟩) bs.length c) (u8s bs) ∧ g ∈ F ∧ g ∉ blk q
  sub : ∀ x ∈ blk q, x ∈ F
  lo : ∀ x ∈ F, base ≤ x ∧ x < w.heap.size
theorem LstAt.only {S : List Nat} {w w' : World} {base m k : Nat} {F : List Nat} {q : Option Addr} {L : List (List UInt8)} (h : LstAt w base F q m k L) (ho : Only S w w') (hS : ∀ x ∈ F, x ∉ S) : LstAt w' base F q m k L := by
  obtain ⟨hl, ⟨vs, h1, h2, h3⟩, h4, h5⟩ := h
  refine ⟨hl, ⟨vs, h1.only ho (fun x hx => hS x (h4 x (ownBlk' hx))), h2, fun i bs hi => ?_⟩, h4, fun x hx => ⟨(h5 x hx).1, Nat.lt_of_lt_of_le (h5 x hx).2 ho.size⟩⟩
  obtain ⟨g, c, e1, e2, e3, e4⟩ := h3 i bs hi
  exact ⟨g, c, e1, e2.only ho (fun x hx => by
    have := ownBlk' hx
    simp [blk] at this
    subst this
    exact hS _ e3), e3, e4⟩
theorem LstAt.cell {w : World} {base m k : Nat} {F : List Nat} {q : Option Addr} {L : List (List UInt8)} (h : LstAt w base F q m k L) {i : Nat} {bs : List UInt8} (hi : L[i]? = some bs) : ∃ b g c, q = some ⟨b, 0, none⟩ ∧ w.cell? ⟨b, i, none⟩ = some (.slice (some ⟨g, 0, none⟩) bs.length c) ∧ Own w base 5 (.slice (some ⟨g, 0, none⟩) bs.length c) (u8s bs) := by
  obtain ⟨hl, ⟨vs, h1, h2, h3⟩, h4, h5⟩ := h
  obtain ⟨g, c, e1, e2, e3, e4⟩ := h3 i bs hi
  have him : i < m := by rw [← hl]; exact (List.getElem?_eq_some_iff.1 hi).1
  obtain ⟨b, rfl, -, -⟩ := h1.at (by omega)
  exact ⟨b, g, c, rfl, h1.cellAt e1, e2⟩
theorem infoSl : (Tryd.prog.info? 22).map (fun i => (i.zero, i.size, i.bytes)) = some (some (.slice none 0 0), 1, 24) := by kernel_rfl
theorem infoU8r : (Tryd.prog.info? 5).map (fun i => (i.zero, i.size, i.bytes)) = some (some (.int .u8 0), 1, 1) := by kernel_rfl
def chunks (xs : List UInt8) : List (List UInt8) := (blks xs).map (·.2)
theorem chunks_length (xs : List UInt8) : (chunks xs).length = nblk xs := by simp [chunks, blks_length]
theorem chunks_get (xs : List UInt8) {i : Nat} (h : i < nblk xs) : (chunks xs)[i]? = some (chunk xs i) := by simp [chunks, blks_get xs h]
theorem chunks_take (xs : List UInt8) {i : Nat} (h : i < nblk xs) : (chunks xs).take (i + 1) = (chunks xs).take i ++ [chunk xs i] := by
  rw [List.take_add_one, chunks_get xs h]; rfl
/-- a list of bytes appended, in a block of its own -/
theorem lst_push {w0 v2 v3 : World} {base i k g m k2 : Nat} {F : List Nat} {q : Option Addr} {L : List (List UInt8)} {bs : List UInt8} (h : LstAt v2 base F q i k L) (ow : Own v2 base 5 (.slice (some ⟨g, 0, none⟩) m k2) (u8s bs)) (hm : bs.length = m) (hgF : g ∉ F)
    (h3 : v3 = v2.alloc (.cells #[.slice (some ⟨g, 0, none⟩) m k2] 22)) (hi : (i + 1) * 24 ≤ 140737488355328) (hb : base ≤ v2.heap.size) (hg : base ≤ g) :
    ∃ q' k' v4, (Builtin.append_ #[25, 25] 25 #[.slice q i k, .slice (some ⟨v2.heap.size, 0, none⟩) 1 1]).run Tryd.prog v3 = .ok (.slice q' (i + 1) k') v4 ∧ LstAt v4 base (blk q' ++ g :: F) q' (i + 1) k' (L ++ [bs]) ∧ Only (blk q) v2 v4 := by
  have ov3 : Only [] v2 v3 := by rw [h3]; exact Only.alloc _ _
  have r3 : Row v3 v2.heap.size 22 [.slice (some ⟨g, 0, none⟩) m k2] := by rw [h3]; exact Row.newOf _ _ _ _ rfl
  have hs3 : v3.heap.size = v2.heap.size + 1 := by rw [h3]; exact Array.size_push ..
  obtain ⟨hl, ⟨vs, h1, h2, h4⟩, h5, h6⟩ := h
  obtain ⟨q', k', v4, hra, ow4, ov4, hq4⟩ := append_owned (P := Tryd.prog) (bytes := 24) (c := 1) (q := some ⟨v2.heap.size, 0, none⟩) (m := 1) (news := [.slice (some ⟨g, 0, none⟩) m k2]) (t := 25) (ty := 25) v3 Tryd.underlying25 infoSl rfl (h1.only0 ov3) r3.rd0 rfl (by simp) (fun v hv => by obtain rfl := List.mem_singleton.1 hv; rfl) hi (by omega) (by omega)
  have hglt : g < v2.heap.size := blkLt ow g (by simp [blk])
  have hq4' : ∀ x ∈ blk q', x ∈ blk q ∨ v3.heap.size ≤ x := fun x hx => by
    rcases hq4 with rfl | ⟨g', rfl, hg'⟩
    · exact .inl hx
    · simp [blk] at hx; subst hx; exact .inr hg'
  have hgq : g ∉ blk q := fun hm => hgF (h5 g hm)
  have hnq' : ∀ y, y ∉ blk q → y < v3.heap.size → y ∉ blk q' := fun y h1 h2 hm => (hq4' y hm).elim h1 (fun h => by omega)
  have hs4 := ov4.size
  refine ⟨q', k', v4, hra, ⟨by rw [List.length_append, hl]; rfl, ⟨_, ow4, by rw [List.length_append, h2]; rfl, fun j b hj => ?_⟩, fun x hx => List.mem_append_left _ hx, fun x hx => ?_⟩, (ov3.mono (by simp)).trans ov4 (fun i hi _ => hi)⟩
  · by_cases hji : j < i
    · rw [List.getElem?_append_left (by rw [hl]; exact hji)] at hj
      obtain ⟨g2, c2, e1, e2, e3, e4⟩ := h4 j b hj
      have hg2 := (h6 g2 e3).2
      exact ⟨g2, c2, by rw [List.getElem?_append_left (by rw [h2]; exact hji)]; exact e1, (e2.only0 ov3).only ov4 (fun x hx hm => by
        have := ownBlk' hx
        simp [blk] at this
        subst this
        exact e4 hm), List.mem_append_right _ (List.mem_cons_of_mem _ e3), hnq' g2 e4 (by omega)⟩
    · rw [List.getElem?_append_right (by rw [hl]; omega), hl] at hj
      have hj0 : j - i = 0 := by
        have := (List.getElem?_eq_some_iff.1 hj).1
        simp at this; omega
      rw [hj0] at hj
      obtain rfl := Option.some.inj hj
      refine ⟨g, k2, by rw [List.getElem?_append_right (by rw [h2]; omega), h2, hj0, hm]; rfl, ?_, by simp, hnq' g hgq (by omega)⟩
      rw [hm]
      exact (ow.only0 ov3).only ov4 (fun x hx hm => by
        have := ownBlk' hx
        simp [blk] at this
        subst this
        exact hgq hm)
  · rcases List.mem_append.1 hx with hx | hx
    · exact ⟨blkGe ow4 x hx, blkLt ow4 x hx⟩
    · rcases List.mem_cons.1 hx with rfl | hx
      · exact ⟨hg, by omega⟩
      · have := h6 x hx; exact ⟨this.1, by omega⟩
set_option maxHeartbeats 8000000 in
theorem refBlocks_any (p : Option Addr) (xs : List UInt8) (n c : Nat) (w0 : World) (hn : xs.length = n) (hnc : n ≤ c) (hb : n ≤ 140737488351232) (hp : p = none → n = 0 ∧ c = 0) (hx : Rd w0 p (u8s xs)) :
    Calls Tryd.prog 17 #[.slice p n c] w0 fun e w' => ∃ F q k, e = .returned (.slice q (nblk xs) k) ∧ LstAt w' w0.heap.size F q (nblk xs) k (chunks xs) ∧ Only [] w0 w' := by
  obtain ⟨w1, hw1⟩ : ∃ w1, w1 = w0.alloc (.cells #[] 22) := ⟨_, rfl⟩
  have o1 : Only [] w0 w1 := by rw [hw1]; exact Only.alloc _ _
  have own1 : Own w1 w0.heap.size 22 (.slice (some ⟨w0.heap.size, 0, none⟩) 0 0) [] := by rw [hw1]; exact Own.ofRow (vs := []) (rest := []) (Nat.le_refl _) (Row.new w0 _ []) rfl (by omega)
  have hlt1 : w0.heap.size < w1.heap.size := by rw [hw1]; simp
  have HL1 : Hid (LstAt w1 w0.heap.size [w0.heap.size] (some ⟨w0.heap.size, 0, none⟩) 0 0 []) := Lib.hid ⟨rfl, ⟨[], own1, rfl, by simp⟩, by simp [blk], by simp; omega⟩
  have HO1 := Lib.hid o1
  have Hw1 := Lib.hid hw1
  have hnb : nblk xs = (n + 31) / 32 := by unfold nblk; rw [hn]
  obtain ⟨N, hN⟩ : ∃ N, N = nblk xs := ⟨_, rfl⟩
  rw [← hN] at hnb ⊢
  -- the step of memory
  have step : ∀ (wr : World) (i : Nat) (F : List Nat) (q : Option Addr) (k : Nat), i < N → LstAt wr w0.heap.size F q i k ((chunks xs).take i) → Only [] w0 wr → ∃ (E : Nat) (q2 : Option Addr) (k2 m : Nat) (v2 : World) (q' : Option Addr) (k' : Nat) (v4 : World) (F' : List Nat),
      (if (n : Int) < ((32 * i : Nat) : Int) + 32 then (n : Int) else ((32 * i : Nat) : Int) + 32) = (E : Int) ∧ 32 * i ≤ E ∧ E ≤ n ∧ E - 32 * i = m ∧
      Hid ((Builtin.append_ #[22, 22] 22 #[.slice (some ⟨wr.heap.size, 0, none⟩) 0 0, .slice (p.map fun x => x.add (32 * i)) m (c - 32 * i)]).run Tryd.prog (wr.alloc (.cells #[] 5)) = .ok (.slice q2 m k2) v2) ∧
      Hid ((Builtin.append_ #[25, 25] 25 #[.slice q i k, .slice (some ⟨v2.heap.size, 0, none⟩) 1 1]).run Tryd.prog (v2.alloc (.cells #[.slice q2 m k2] 22)) = .ok (.slice q' (i + 1) k') v4) ∧
      LstAt v4 w0.heap.size F' q' (i + 1) k' ((chunks xs).take (i + 1)) ∧ Only [] w0 v4 := by
    intro wr i F q k hlt HL HO
    rw [hN] at hlt
    have hin : 32 * i < n := by omega
    obtain ⟨E, hE, hE2, hE3, hE4⟩ : ∃ E : Nat, (if (n : Int) < ((32 * i : Nat) : Int) + 32 then (n : Int) else ((32 * i : Nat) : Int) + 32) = (E : Int) ∧ 32 * i < E ∧ E ≤ n ∧ (E - 32 * i = min 32 (n - 32 * i)) := by
      by_cases h : (n : Int) < ((32 * i : Nat) : Int) + 32
      · exact ⟨n, by rw [if_pos h], by omega, by omega, by omega⟩
      · exact ⟨32 * i + 32, by rw [if_neg h]; omega, by omega, by omega, by omega⟩
    have hcl : (chunk xs i).length = E - 32 * i := by rw [chunk_length, hn, hE4]
    have hrd : Rd wr (p.map fun x => x.add (32 * i)) (u8s (chunk xs i)) := by
      have h1 := ((hx.only0 HO).sub (32 * i)).take 32
      unfold chunk u8s at h1 ⊢
      rw [List.map_take, List.map_drop]
      exact h1
    obtain ⟨v1, hv1⟩ : ∃ v1, v1 = wr.alloc (.cells #[] 5) := ⟨_, rfl⟩
    have ov1 : Only [] wr v1 := by rw [hv1]; exact Only.alloc _ _
    have ow1 : Own v1 wr.heap.size 5 (.slice (some ⟨wr.heap.size, 0, none⟩) 0 0) [] := by rw [hv1]; exact Own.ofRow (vs := []) (rest := []) (Nat.le_refl _) (Row.new wr _ []) rfl (by omega)
    obtain ⟨q2, k2, v2, hra, ow2, ov2⟩ := append_fresh (P := Tryd.prog) (bytes := 1) (t := 22) (ty := 22) (c := c - 32 * i) (m := E - 32 * i) (q := p.map fun x => x.add (32 * i)) (news := u8s (chunk xs i)) v1 Tryd.underlying22 infoU8r rfl ow1 (hrd.only0 ov1) (by rw [u8s_length, hcl]) (fun e => by
      cases hpp : p with
      | none => have := (hp hpp).1; omega
      | some a => rw [hpp] at e; cases e) (fun u hu => u8s_one hu) (by omega) (by omega) ov1.size
    obtain ⟨g, rfl, hgl, hgr⟩ := ow2.at (by omega)
    have hs0 := HO.size
    have o12 := ov1.trans0 ov2
    obtain ⟨q', k', v4, hra2, hL4, ho4⟩ := lst_push (w0 := w0) (HL.only o12 (by simp)) (ow2.weaken hs0) hcl (fun hm => by have := (HL.lo g hm).2; omega) rfl (by omega) (Nat.le_trans hs0 o12.size) (Nat.le_trans hs0 hgl)
    rw [hv1] at hra
    exact ⟨E, _, k2, _, v2, q', k', v4, _, hE, by omega, hE3, rfl, Lib.hid hra, Lib.hid hra2, by rw [chunks_take xs hlt]; exact hL4, (HO.trans0 o12).transN ho4 (fun x hx => (HL.lo x (HL.sub x hx)).1)⟩
  have Step := Lib.hid step
  have HN := Lib.hid hN
  have HXl : Hid ((chunks xs).length = N) := Lib.hid (by rw [hN, chunks_length])
  have hnN : n ≤ 32 * N := by omega
  have hNn : 32 * N ≤ n + 31 := by omega
  clear step hx hn hp o1 own1 hlt1 hw1 hN hnb
  go_enter Tryd.func17, Tryd.ntmps17
  go_wp2_with fail
  rw [← Hw1.out]
  go_loopw [4, 3] (fun a o wr => ∃ (i : Nat) (F : List Nat) (q : Option Addr) (k : Nat), a = .int .i64 ((32 * i : Nat) : Int) ∧ o = .slice q i k ∧ i ≤ N ∧ Hid (LstAt wr w0.heap.size F q i k ((chunks xs).take i)) ∧ Hid (Only [] w0 wr)) (fun a _ _ => 32 * N - (intOf a).toNat)
  case atStart => exact ⟨0, _, _, _, rfl, rfl, Nat.zero_le _, by rw [List.take_zero]; exact HL1, HO1⟩
  case round =>
    obtain ⟨i, F, q, k, rfl, rfl, hi, HL, HO⟩ := hrel
    by_cases hlt : i < N
    · obtain ⟨E, q2, k2, m, v2, q', k', v4, F', hE, hE2, hE3, hm, Hr, Hr2, hL4, hO4⟩ := Step.out wr i F q k hlt HL.out HO.out
      have HL4 := Lib.hid hL4
      have HO4 := Lib.hid hO4
      obtain ⟨j, hj⟩ : ∃ j, j = 32 * i := ⟨_, rfl⟩
      have hji : (j : Int) < (n : Int) := by omega
      have hEc : (E : Int) ≤ (c : Int) := by omega
      have hE2i : (j : Int) ≤ (E : Int) := by omega
      have hj2 : ((32 * (i + 1) : Nat) : Int) = (j : Int) + 32 := by omega
      have hjb : j ≤ 140737488351232 := by omega
      have hjN : 32 * N - ((j : Int) + 32).toNat < 32 * N - ((j : Int)).toNat := by omega
      rw [← hj] at hE hm Hr ⊢
      have Hj2 := Lib.hid hj2
      have HjN := Lib.hid hjN
      clear hL4 hO4 HL HO hj hj2 hjN hE2
      go_wp2_with (first | (at_builtin; refine wpl_append (s := .tmp 13) (x := .tmp 21) rfl rfl rfl rfl Hr.out ?_) | (at_builtin; refine wpl_append (s := .tmp 12) (x := .tmp 23) rfl rfl rfl rfl Hr2.out ?_))
      refine ⟨⟨i + 1, F', q', k', by rw [Hj2.out], rfl, by omega, HL4, HO4⟩, HjN.out⟩
    · obtain rfl : i = N := by omega
      have hini : ¬ ((32 * i : Nat) : Int) < (n : Int) := by omega
      have hLe := HL.out
      rw [List.take_of_length_le (by rw [HXl.out]; exact Nat.le_refl _)] at hLe
      have HLe := Lib.hid hLe
      clear hLe HL
      generalize 32 * i = j at hini ⊢
      go_wp2_with fail
      go_ret
      exact ⟨F, q, k, rfl, HLe.out, HO.out⟩
end Go.Proofs.YtfoplbolbjcggaaDoor
