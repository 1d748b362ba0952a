/- Letters; a net: what its blocks hold. -/
import Derived.Test.YtlgcclhepegggaaDoorProg
import Derived.Test.YtlgcclhepegggaaDoorOwnKAt
set_option linter.unusedVariables false
set_option maxRecDepth 100000
namespace Go.Proofs.YtlgcclhepegggaaDoor
open Go.RowKit

theorem Rd.onlyNe' {S : List Nat} {w w' : World} {p : Option Addr} {L : List UInt8} (h : Rd w p (u8s L)) (ho : Only S w w') (hp : L ≠ [] → ∀ a, p = some a → a.block ∉ S) : Rd w' p (u8s L) := by
  by_cases e : L = []
  · subst e; exact Rd.nil _ _
  · exact h.only ho (hp e)
/-- one letter -/
structure Lt where
  n : Nat
  fr : Int
  to : Int
  q : Option Addr
  c : Nat
  xs : List UInt8
  deriving Inhabited
def Lt.cells (o : Lt) : List Value := [.int .i64 (o.n : Int), .int .i64 o.fr, .int .i64 o.to, .slice o.q o.xs.length o.c]
def Lt.Ok (w : World) (o : Lt) : Prop := Rd w o.q (u8s o.xs) ∧ (o.q = none → o.xs.length = 0 ∧ o.c = 0) ∧ (o.xs.length ≤ o.c ∧ (o.xs ≠ [] → Own w 0 5 (.slice o.q o.xs.length o.c) (u8s o.xs))) ∧ o.xs.length ≤ 140737488351232
theorem Lt.Ok.only0 {w w' : World} {o : Lt} (h : o.Ok w) (ho : Only [] w w') : o.Ok w' := ⟨h.1.only0 ho, h.2.1, ⟨h.2.2.1.1, fun hne => (h.2.2.1.2 hne).only0 ho⟩, h.2.2.2⟩
/-- the block of a letter's bytes -/
def Lt.bb (o : Lt) : List Nat := if o.xs = [] then [] else blk o.q
theorem Lt.Ok.only {S : List Nat} {w w' : World} {o : Lt} (h : o.Ok w) (ho : Only S w w') (hS : ∀ x ∈ o.bb, x ∉ S) : o.Ok w' :=
  ⟨h.1.onlyNe' ho (fun hne a ha hm => hS a.block (by unfold Lt.bb; rw [if_neg hne, ha]; simp [blk]) hm), h.2.1, ⟨h.2.2.1.1, fun hne => (h.2.2.1.2 hne).only ho (fun k hk hm => hS k (by unfold Lt.bb; rw [if_neg hne]; cases hq : o.q with
    | none => rw [hq] at hk; simp [Value.ownBlock] at hk
    | some a => rw [hq] at hk; simp [Value.ownBlock] at hk; simp [blk, hk]) hm)⟩, h.2.2.2⟩
def bbs (L : List Lt) : List Nat := L.flatMap Lt.bb
theorem bbs_mem {L : List Lt} {o : Lt} (h : o ∈ L) {x : Nat} (hx : x ∈ o.bb) : x ∈ bbs L := List.mem_flatMap.2 ⟨o, h, hx⟩
theorem bbs_append (L M : List Lt) : bbs (L ++ M) = bbs L ++ bbs M := List.flatMap_append
theorem Lt.Ok.bb_lt {w : World} {o : Lt} (h : o.Ok w) : ∀ x ∈ o.bb, x < w.heap.size := fun x hx => by
  unfold Lt.bb at hx
  split at hx
  · cases hx
  · rename_i hne
    obtain ⟨b, off, e, hl⟩ := h.1.lt (fun e => hne (by unfold u8s at e; exact List.map_eq_nil_iff.1 e))
    rw [e] at hx
    simp [blk] at hx
    omega

def ltFlat (L : List Lt) : List Value := L.flatMap Lt.cells
theorem ltFlat_length (L : List Lt) : (ltFlat L).length = L.length * 4 := flat_length _ 4 (fun _ => rfl) L
theorem ltFlat_append (L M : List Lt) : ltFlat (L ++ M) = ltFlat L ++ ltFlat M := List.flatMap_append
theorem ltFlat_get {L : List Lt} {j : Nat} {o : Lt} (h : L[j]? = some o) : (ltFlat L)[j * 4]? = some (.int .i64 (o.n : Int)) ∧ (ltFlat L)[j * 4 + 1]? = some (.int .i64 o.fr) ∧ (ltFlat L)[j * 4 + 2]? = some (.int .i64 o.to) ∧ (ltFlat L)[j * 4 + 3]? = some (.slice o.q o.xs.length o.c) :=
  ⟨flat_get Lt.cells 4 (fun _ => rfl) L j o 0 h (by omega), flat_get Lt.cells 4 (fun _ => rfl) L j o 1 h (by omega), flat_get Lt.cells 4 (fun _ => rfl) L j o 2 h (by omega), flat_get Lt.cells 4 (fun _ => rfl) L j o 3 h (by omega)⟩
theorem ltFlat_one {L : List Lt} {v : Value} (h : v ∈ ltFlat L) : v.oneCell' = true := by
  obtain ⟨o, _, h⟩ := List.mem_flatMap.1 h
  simp only [Lt.cells, List.mem_cons, List.not_mem_nil, or_false] at h
  rcases h with rfl | rfl | rfl | rfl <;> rfl
theorem ltFlat_cons (o : Lt) (L : List Lt) : ltFlat (o :: L) = .int .i64 (o.n : Int) :: .int .i64 o.fr :: .int .i64 o.to :: .slice o.q o.xs.length o.c :: ltFlat L := rfl
theorem ltFlat_take (L : List Lt) (k : Nat) : (ltFlat L).take (k * 4) = ltFlat (L.take k) := by
  induction L generalizing k with
  | nil => simp [ltFlat]
  | cons x L ih =>
    cases k with
    | zero => simp [ltFlat]
    | succ k => rw [ltFlat_cons, show (k + 1) * 4 = k * 4 + 1 + 1 + 1 + 1 by omega, List.take_succ_cons, List.take_succ_cons, List.take_succ_cons, List.take_succ_cons, ih, List.take_succ_cons, ltFlat_cons]
theorem ltFlat_drop (L : List Lt) (k : Nat) : (ltFlat L).drop (k * 4) = ltFlat (L.drop k) := by
  induction L generalizing k with
  | nil => simp [ltFlat]
  | cons x L ih =>
    cases k with
    | zero => simp [ltFlat]
    | succ k => rw [ltFlat_cons, show (k + 1) * 4 = k * 4 + 1 + 1 + 1 + 1 by omega, List.drop_succ_cons, List.drop_succ_cons, List.drop_succ_cons, List.drop_succ_cons, ih, List.drop_succ_cons]
theorem Tryd.infoLt : (Tryd.prog.info? 37).map (fun i => (i.zero, i.size, i.bytes)) = some (some (.agg #[.int .i64 0, .int .i64 0, .int .i64 0, .slice none 0 0]), 4, 48) := by kernel_rfl

/-- a net -/
structure NetAt (w : World) (base B : Nat) (q : Option Addr) (n c last : Nat) (L : List Lt) : Prop where
  st : Row w B 89 [.slice q n c, .int .i64 (last : Int)]
  own : OwnK w base 37 4 (.slice q n c) n (ltFlat L)
  ok : ∀ o ∈ L, o.Ok w
  len : L.length = n
  nd : (B :: (blk q ++ bbs L)).Nodup
  lo : base ≤ B ∧ ∀ x ∈ bbs L, base ≤ x
/-- the blocks of a net -/
def netD (B : Nat) (q : Option Addr) (L : List Lt) : List Nat := B :: (blk q ++ bbs L)
section
variable {w w' : World} {base B n c last : Nat} {q : Option Addr} {L : List Lt}
theorem NetAt.only {S : List Nat} (h : NetAt w base B q n c last L) (ho : Only S w w') (hS : ∀ x ∈ S, x ∉ netD B q L) : NetAt w' base B q n c last L := by
  have hB : B ∉ S := fun hm => hS B hm (by simp [netD])
  exact ⟨h.st.only ho hB, h.own.only ho (fun k hk hm => hS k hm (by
      cases q with
      | none => simp [Value.ownBlock] at hk
      | some a => simp [Value.ownBlock] at hk; simp [netD, blk, hk])), fun o ho2 => (h.ok o ho2).only ho (fun x hx hm => hS x hm (by unfold netD; exact List.mem_cons_of_mem _ (List.mem_append_right _ (bbs_mem ho2 hx)))), h.len, h.nd, h.lo⟩
theorem NetAt.only0 (h : NetAt w base B q n c last L) (ho : Only [] w w') : NetAt w' base B q n c last L := h.only ho (by simp)
theorem NetAt.blk_lt (h : NetAt w base B q n c last L) : ∀ x ∈ blk q, base ≤ x ∧ x < w.heap.size := h.own.view.2.2.2.2.2.2
theorem NetAt.lt (h : NetAt w base B q n c last L) : ∀ x ∈ netD B q L, base ≤ x ∧ x < w.heap.size := fun x hx => by
  unfold netD at hx
  rcases List.mem_cons.1 hx with rfl | hx
  · exact ⟨h.lo.1, h.st.lt⟩
  · rcases List.mem_append.1 hx with hx | hx
    · exact h.blk_lt x hx
    · obtain ⟨o, ho, hxo⟩ := List.mem_flatMap.1 hx
      exact ⟨h.lo.2 x hx, (h.ok o ho).bb_lt x hxo⟩
theorem NetAt.cell (h : NetAt w base B q n c last L) {j : Nat} {o : Lt} (hj : L[j]? = some o) : ∃ g, q = some ⟨g, 0, none⟩ ∧ w.cell? ⟨g, j * 4, none⟩ = some (.int .i64 (o.n : Int)) ∧ w.cell? ⟨g, j * 4 + 1, none⟩ = some (.int .i64 o.fr) ∧ w.cell? ⟨g, j * 4 + 2, none⟩ = some (.int .i64 o.to) ∧ w.cell? ⟨g, j * 4 + 3, none⟩ = some (.slice o.q o.xs.length o.c) := by
  have hjl := (List.getElem?_eq_some_iff.1 hj).1
  have hl := h.len
  have hget := ltFlat_get hj
  rcases h.own.2 with ⟨e1, e2⟩ | ⟨g, cap, cur, e1, hg, hh, h1, h2, h3, h4⟩
  · omega
  · obtain ⟨rfl, -, rfl⟩ : q = some ⟨g, 0, none⟩ ∧ n = n ∧ c = cap := by simpa using e1
    have r : Row w g 37 (ltFlat L ++ cur.toList.drop (n * 4)) := by rw [← h4, List.take_append_drop]; unfold Row; simpa using hh
    have hg2 : ∀ (t : Nat) v, (ltFlat L)[t]? = some v → (ltFlat L ++ cur.toList.drop (n * 4))[t]? = some v := fun t v h => by rw [List.getElem?_append_left (List.getElem?_eq_some_iff.1 h).1]; exact h
    exact ⟨g, rfl, r.cell (hg2 _ _ hget.1), r.cell (hg2 _ _ hget.2.1), r.cell (hg2 _ _ hget.2.2.1), r.cell (hg2 _ _ hget.2.2.2)⟩
end
/-- numbers rise -/
def Rises (last : Nat) (L : List Lt) : Prop := (∀ o ∈ L, 1 ≤ o.n ∧ o.n ≤ last) ∧ (L.map Lt.n).Pairwise (· < ·)
theorem Rises.lt {last i j : Nat} {L : List Lt} {a b : Lt} (h : Rises last L) (hi : L[i]? = some a) (hj : L[j]? = some b) (hij : i < j) : a.n < b.n := by
  have h1 := (List.getElem?_eq_some_iff.1 hi)
  have h2 := (List.getElem?_eq_some_iff.1 hj)
  obtain ⟨l1, e1⟩ := h1
  obtain ⟨l2, e2⟩ := h2
  have := List.pairwise_iff_getElem.1 h.2 i j (by rw [List.length_map]; exact l1) (by rw [List.length_map]; exact l2) hij
  rw [List.getElem_map, List.getElem_map, e1, e2] at this
  exact this
theorem Rises.snoc {last : Nat} {L : List Lt} {o : Lt} (h : Rises last L) (ho : o.n = last + 1) : Rises (last + 1) (L ++ [o]) := by
  refine ⟨fun x hx => ?_, ?_⟩
  · rcases List.mem_append.1 hx with hx | hx
    · have := h.1 x hx; omega
    · obtain rfl := List.mem_singleton.1 hx; omega
  · rw [List.map_append, List.pairwise_append]
    refine ⟨h.2, by simp, fun a ha b hb => ?_⟩
    obtain ⟨x, hx, rfl⟩ := List.mem_map.1 ha
    simp at hb
    have := (h.1 x hx).2
    omega
theorem Rises.erase {last i : Nat} {L : List Lt} (h : Rises last L) : Rises last (L.eraseIdx i) := by
  refine ⟨fun x hx => h.1 x (List.mem_of_mem_eraseIdx hx), ?_⟩
  exact List.Pairwise.sublist (List.Sublist.map _ (List.eraseIdx_sublist _ _)) h.2
theorem Rises.filter {last : Nat} {L : List Lt} (p : Lt → Bool) (h : Rises last L) : Rises last (L.filter p) :=
  ⟨fun x hx => h.1 x (List.mem_filter.1 hx).1, List.Pairwise.sublist (List.Sublist.map _ List.filter_sublist) h.2⟩
end Go.Proofs.YtlgcclhepegggaaDoor
