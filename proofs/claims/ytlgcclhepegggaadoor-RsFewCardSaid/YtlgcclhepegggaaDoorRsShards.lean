/- Lists of shards: what they read as, when they are good; a system while it is built. -/
import Derived.Test.YtlgcclhepegggaaDoorRsSolveW
set_option linter.unusedVariables false
set_option maxRecDepth 100000
namespace Go.Proofs.YtlgcclhepegggaaDoor
open Go.RowKit

/-- one shard -/
structure Sh where
  n : Int
  q : Option Addr
  c : Nat
  xs : List UInt8
  deriving Inhabited
def Sh.cells (o : Sh) : List Value := [.int .i64 o.n, .slice o.q o.xs.length o.c]
def Sh.Ok (w : World) (o : Sh) : Prop := (-9223372036854775808 ≤ o.n ∧ o.n ≤ 9223372036854775807) ∧ Rd w o.q (u8s o.xs) ∧ (o.q = none → o.xs.length = 0 ∧ o.c = 0) ∧ o.xs.length ≤ o.c ∧ o.c ≤ 140737488351232
theorem Sh.Ok.only0 {w w' : World} {o : Sh} (h : o.Ok w) (ho : Only [] w w') : o.Ok w' := ⟨h.1, h.2.1.only0 ho, h.2.2⟩
/-- the shards that a slice holds -/
def Shards (w : World) (p : Option Addr) (L : List Sh) : Prop :=
  ∀ (j : Nat) o, L[j]? = some o → ∃ b off, p = some ⟨b, off, none⟩ ∧ o.Ok w ∧ w.cell? ⟨b, off + j * 2, none⟩ = some (.int .i64 o.n) ∧ w.cell? ⟨b, off + j * 2 + 1, none⟩ = some (.slice o.q o.xs.length o.c)
theorem Shards.only0 {w w' : World} {p : Option Addr} {L : List Sh} (h : Shards w p L) (ho : Only [] w w') : Shards w' p L := fun j o hj => by
  obtain ⟨b, off, e, h1, h2, h3⟩ := h j o hj
  exact ⟨b, off, e, h1.only0 ho, ho.cell h2 (by simp), ho.cell h3 (by simp)⟩
/-- the j-th shard is good beside those ahead of it -/
def okAt (k m size : Nat) (L : List Sh) (j : Nat) (o : Sh) : Prop := 0 ≤ o.n ∧ o.n < (k : Int) + (m : Int) ∧ o.xs.length = size ∧ ∀ (i : Nat) x, i < j → L[i]? = some x → x.n ≠ o.n
def goodL (k m size : Nat) (L : List Sh) : Prop := L.length = k ∧ ∀ (j : Nat) o, L[j]? = some o → okAt k m size L j o
/-- is a number among the first j? -/
def seenB (L : List Sh) (j i : Nat) : Bool := (L.take j).any fun o => decide (o.n = (i : Int))
def seenV (L : List Sh) (j : Nat) : List Value := (List.range 16).map fun i => .bool (seenB L j i)
theorem seenV_len (L : List Sh) (j : Nat) : (seenV L j).length = 16 := by simp [seenV]
theorem seenV_zero (L : List Sh) : seenV L 0 = List.replicate 16 (.bool false) := rfl
theorem seenV_get {L : List Sh} {j i : Nat} (hi : i < 16) : (seenV L j)[i]? = some (.bool (seenB L j i)) := by simp [seenV, hi]
theorem seenB_true {L : List Sh} {j i : Nat} : seenB L j i = true ↔ ∃ t x, t < j ∧ L[t]? = some x ∧ x.n = (i : Int) := by
  unfold seenB
  rw [List.any_eq_true]
  constructor
  · rintro ⟨x, hx, hn⟩
    obtain ⟨t, ht⟩ := List.getElem?_of_mem hx
    rw [List.getElem?_take] at ht
    split at ht
    · rename_i h; exact ⟨t, x, h, ht, of_decide_eq_true hn⟩
    · cases ht
  · rintro ⟨t, x, ht, hx, hn⟩
    exact ⟨x, List.mem_of_getElem? (i := t) (by rw [List.getElem?_take, if_pos ht]; exact hx), decide_eq_true hn⟩
theorem seenV_set {L : List Sh} {j n : Nat} {o : Sh} (hj : L[j]? = some o) (hn : o.n = (n : Int)) (hlt : n < 16) : (seenV L j).set n (.bool true) = seenV L (j + 1) := by
  apply List.ext_getElem?
  intro i
  by_cases hi : i < 16
  · rw [seenV_get hi]
    have e : seenB L (j + 1) i = (seenB L j i || decide (o.n = (i : Int))) := by unfold seenB; rw [List.take_add_one, hj]; simp
    by_cases h : i = n
    · subst h
      rw [List.getElem?_set_self (by rw [seenV_len]; exact hi), e, hn]; simp
    · rw [List.getElem?_set_ne (fun e2 => h e2.symm), seenV_get hi, e, hn]
      have : decide ((n : Int) = (i : Int)) = false := by simp; omega
      rw [this, Bool.or_false]
  · rw [List.getElem?_eq_none (by rw [List.length_set, seenV_len]; omega), List.getElem?_eq_none (by rw [seenV_len]; omega)]
def rowsOf (k : Nat) (L : List Sh) (j : Nat) : List (List UInt8) := (L.take j).map fun o => rowB k o.n.toNat
def valsOf (L : List Sh) (j : Nat) : List (List UInt8) := (L.take j).map (·.xs)
theorem rowsOf_succ {k j : Nat} {L : List Sh} {o : Sh} (h : L[j]? = some o) : rowsOf k L (j + 1) = rowsOf k L j ++ [rowB k o.n.toNat] := by unfold rowsOf; rw [List.take_add_one, h]; simp
theorem valsOf_succ {j : Nat} {L : List Sh} {o : Sh} (h : L[j]? = some o) : valsOf L (j + 1) = valsOf L j ++ [o.xs] := by unfold valsOf; rw [List.take_add_one, h]; simp
theorem goodL_shape {k m size : Nat} {L : List Sh} (h : goodL k m size L) : Shape k size (rowsOf k L k, valsOf L k) := by
  have e : L.take k = L := List.take_of_length_le (by rw [h.1]; exact Nat.le_refl _)
  refine ⟨by unfold rowsOf; rw [e, List.length_map, h.1], by unfold valsOf; rw [e, List.length_map, h.1], fun l hl => ?_, fun l hl => ?_⟩
  · unfold rowsOf at hl
    obtain ⟨o, -, rfl⟩ := List.mem_map.1 hl
    exact rowB_len _ _
  · unfold valsOf at hl
    rw [e] at hl
    obtain ⟨o, ho, rfl⟩ := List.mem_map.1 hl
    obtain ⟨t, ht⟩ := List.getElem?_of_mem ho
    exact (h.2 t o ht).2.2.1

theorem Ea.grow {w : World} {D D' : List Nat} {vs : List Value} {Ls : List (List UInt8)} (h : Ea w D vs Ls) (hD : ∀ x ∈ D', x ∈ D ∨ w.heap.size ≤ x) : Ea w D' vs Ls :=
  ⟨h.1, fun j v L h1 h2 => by
    obtain ⟨q, c, e1, e2, e3, e5, e4⟩ := h.2 j v L h1 h2
    refine ⟨q, c, e1, e2, e3, e5, fun hne a ha hm => ?_⟩
    rcases hD _ hm with h3 | h3
    · exact e4 hne a ha h3
    · obtain ⟨b, off, e6, h7⟩ := e2.lt (fun e => hne (by unfold u8s at e; exact List.map_eq_nil_iff.1 e))
      rw [ha] at e6
      obtain rfl := Option.some.inj e6
      dsimp only at h3
      omega⟩
theorem Ea.move {w w' : World} {S D D' : List Nat} {vs : List Value} {Ls : List (List UInt8)} (h : Ea w D vs Ls) (ho : Only S w w') (hS : ∀ x ∈ S, x ∈ D) (hD : ∀ x ∈ D', x ∈ D ∨ w.heap.size ≤ x) : Ea w' D' vs Ls :=
  ⟨h.1, fun j v L h1 h2 => by
    obtain ⟨q, c, e1, e2, e3, e5, e4⟩ := h.2 j v L h1 h2
    obtain ⟨q', c', f1, f2, f3, f5, f4⟩ := (h.grow hD).2 j v L h1 h2
    rw [e1] at f1
    obtain ⟨rfl, -, rfl⟩ : q = q' ∧ L.length = L.length ∧ c = c' := by simpa using f1
    exact ⟨q, c, e1, e2.onlyNe ho (fun hne a ha hm => e4 hne a ha (hS _ hm)), e3, e5, f4⟩⟩
theorem Ea.nil (w : World) (D : List Nat) : Ea w D [] [] := ⟨rfl, fun j v L h => by simp at h⟩
theorem Ea.snoc {w : World} {D : List Nat} {vs : List Value} {Ls : List (List UInt8)} (h : Ea w D vs Ls) {q : Option Addr} {c : Nat} {L : List UInt8} (h1 : Rd w q (u8s L)) (h2 : q = none → L.length = 0 ∧ c = 0) (h4 : L.length ≤ c) (h3 : L ≠ [] → ∀ a, q = some a → a.block ∉ D) :
    Ea w D (vs ++ [.slice q L.length c]) (Ls ++ [L]) :=
  ⟨by simp [h.1], fun j v L' e1 e2 => by
    by_cases e : j < vs.length
    · rw [List.getElem?_append_left e] at e1
      rw [List.getElem?_append_left (by rw [← h.1]; exact e)] at e2
      exact h.2 j v L' e1 e2
    · have hj := (List.getElem?_eq_some_iff.1 e1).1
      simp at hj
      obtain rfl : j = vs.length := by omega
      rw [List.getElem?_append_right (Nat.le_refl _), Nat.sub_self] at e1
      rw [List.getElem?_append_right (by rw [h.1]; exact Nat.le_refl _), h.1, Nat.sub_self] at e2
      obtain rfl := Option.some.inj e1
      obtain rfl := Option.some.inj e2
      exact ⟨q, c, rfl, h1, h2, h4, h3⟩⟩

/-- a system while it is built -/
structure Build (w0 w : World) (B gs k js jr jv : Nat) (qr qv : Option Addr) (cr cv : Nat) (rs vs : List Value) (L : List Sh) : Prop where
  st : Row w B 116 [.slice qr jr cr, .slice qv jv cv]
  sn : Row w gs 114 (seenV L js)
  own1 : Own w w0.heap.size 27 (.slice qr jr cr) rs
  own2 : Own w w0.heap.size 27 (.slice qv jv cv) vs
  e1 : Ea w (B :: gs :: (blk qr ++ blk qv)) rs (rowsOf k L jr)
  e2 : Ea w (B :: gs :: (blk qr ++ blk qv)) vs (valsOf L jv)
  n1 : B ≠ gs ∧ B ∉ blk qr ∧ B ∉ blk qv
  n2 : gs ∉ blk qr ∧ gs ∉ blk qv ∧ ∀ x ∈ blk qr, x ∉ blk qv
  lo : w0.heap.size ≤ B ∧ w0.heap.size ≤ gs
  only : Only [] w0 w
section
variable {w0 w w' : World} {B gs k js jr jv : Nat} {qr qv : Option Addr} {cr cv : Nat} {rs vs : List Value} {L : List Sh}
theorem ownBlk {w : World} {base n c : Nat} {e : TypeId} {q : Option Addr} {vs : List Value} (h : Own w base e (.slice q n c) vs) : ∀ x ∈ blk q, base ≤ x ∧ x < w.heap.size := fun x hx => by
  cases q with
  | none => cases hx
  | some a => simp [blk] at hx; subst hx; exact h.lt _ rfl
theorem blkOwn {q : Option Addr} {n c : Nat} {k : Nat} (h : (Value.slice q n c).ownBlock = some k) : k ∈ blk q := by
  cases q <;> simp [Value.ownBlock, blk] at h ⊢; exact h.symm
theorem Build.only0 (h : Build w0 w B gs k js jr jv qr qv cr cv rs vs L) (ho : Only [] w w') : Build w0 w' B gs k js jr jv qr qv cr cv rs vs L :=
  ⟨h.st.only0 ho, h.sn.only0 ho, h.own1.only0 ho, h.own2.only0 ho, h.e1.only0 ho, h.e2.only0 ho, h.n1, h.n2, h.lo, h.only.trans0 ho⟩
/-- a number is marked -/
theorem Build.seen (h : Build w0 w B gs k js jr jv qr qv cr cv rs vs L) {n : Nat} {o : Sh} (hj : L[js]? = some o) (hn : o.n = (n : Int)) (hlt : n < 16) :
    Build w0 (w.setCell ⟨gs, n, none⟩ (.bool true)) B gs k (js + 1) jr jv qr qv cr cv rs vs L := by
  have ho : Only [gs] w (w.setCell ⟨gs, n, none⟩ (.bool true)) := Only.setCell w ⟨gs, n, none⟩ _
  refine ⟨h.st.only ho (by simp; exact h.n1.1), ?_, h.own1.only ho (fun x hx hm => ?_), h.own2.only ho (fun x hx hm => ?_), h.e1.only ho (by simp), h.e2.only ho (by simp), h.n1, h.n2, h.lo, h.only.transN ho (by simpa using h.lo.2)⟩
  · have := h.sn.setCell n (.bool true)
    rwa [seenV_set hj hn hlt] at this
  · obtain rfl := List.mem_singleton.1 hm; exact h.n2.1 (blkOwn hx)
  · obtain rfl := List.mem_singleton.1 hm; exact h.n2.2.1 (blkOwn hx)
/-- a row has come -/
theorem Build.row (h : Build w0 w B gs k js jr jv qr qv cr cv rs vs L) {o : Sh} (hj : L[jr]? = some o) (hk : 0 < k) {q' : Option Addr} {c' g : Nat} (ho : Only (B :: blk qr) w w') (hst : Row w' B 116 [.slice q' (jr + 1) c', .slice qv jv cv])
    (hown : Own w' w0.heap.size 27 (.slice q' (jr + 1) c') (rs ++ [.slice (some ⟨g, 0, none⟩) k k])) (hb : ∀ x ∈ blk q', x ∈ blk qr ∨ w.heap.size ≤ x) (hg : w.heap.size ≤ g) (hg2 : g ∉ blk q') (r : Row w' g 5 (u8s (rowB k o.n.toNat))) :
    Build w0 w' B gs k js (jr + 1) jv q' qv c' cv (rs ++ [.slice (some ⟨g, 0, none⟩) k k]) vs L := by
  have lB := h.st.lt
  have lS := h.sn.lt
  have l1 := ownBlk h.own1
  have l2 := ownBlk h.own2
  have hsz := ho.size
  have hnew : ∀ x, x < w.heap.size → x ∉ blk qr → x ∉ blk q' := fun x hx hn hm => (hb x hm).elim hn (by omega)
  have hS : ∀ x ∈ (B :: blk qr), x ∈ (B :: gs :: (blk qr ++ blk qv)) := fun x hx => by simp at hx ⊢; rcases hx with h | h <;> simp [h]
  have hgrow : ∀ x ∈ (B :: gs :: (blk q' ++ blk qv)), x ∈ (B :: gs :: (blk qr ++ blk qv)) ∨ w.heap.size ≤ x := fun x hx => by
    simp only [List.mem_cons, List.mem_append] at hx ⊢
    rcases hx with h | h | h | h
    · exact .inl (.inl h)
    · exact .inl (.inr (.inl h))
    · exact (hb x h).elim (fun h => .inl (.inr (.inr (.inl h)))) .inr
    · exact .inl (.inr (.inr (.inr h)))
  refine ⟨hst, h.sn.only ho ?_, hown, h.own2.only ho (fun x hx hm => ?_), ?_, h.e2.move ho hS hgrow, ⟨h.n1.1, hnew B lB h.n1.2.1, h.n1.2.2⟩, ⟨hnew gs lS h.n2.1, h.n2.2.1, fun x hx hm => ?_⟩, h.lo, h.only.transN ho (fun x hx => ?_)⟩
  · simp only [List.mem_cons, not_or]; exact ⟨fun e => h.n1.1 e.symm, h.n2.1⟩
  · have hx := blkOwn hx
    rcases List.mem_cons.1 hm with rfl | hm
    · exact h.n1.2.2 hx
    · exact h.n2.2.2 _ hm hx
  · rw [rowsOf_succ hj]
    have hl := rowB_len k o.n.toNat
    have := (h.e1.move ho hS hgrow).snoc (q := some ⟨g, 0, none⟩) (c := k) (L := rowB k o.n.toNat) r.rd0 (by simp) (by omega) (fun _ a ha hm => by
      obtain rfl := Option.some.inj ha
      simp only [List.mem_cons, List.mem_append] at hm
      rcases hm with e | e | e | e
      · omega
      · omega
      · exact hg2 e
      · have := (l2 _ e).2; omega)
    rwa [hl] at this
  · rcases hb x hx with h2 | h2
    · exact h.n2.2.2 x h2 hm
    · have := (l2 x hm).2; omega
  · rcases List.mem_cons.1 hx with rfl | hx
    · exact h.lo.1
    · exact (l1 x hx).1
/-- a value has come: in the slice's own block, and then in the struct -/
theorem Build.val (h : Build w0 w B gs k js jr jv qr qv cr cv rs vs L) {o : Sh} (hj : L[jv]? = some o) (hok : o.Ok w0) {q' : Option Addr} {c' : Nat} (ho : Only (B :: blk qv) w w') (hst : Row w' B 116 [.slice qr jr cr, .slice q' (jv + 1) c'])
    (hown : Own w' w0.heap.size 27 (.slice q' (jv + 1) c') (vs ++ [.slice o.q o.xs.length o.c])) (hb : ∀ x ∈ blk q', x ∈ blk qv ∨ w.heap.size ≤ x) :
    Build w0 w' B gs k js jr (jv + 1) qr q' cr c' rs (vs ++ [.slice o.q o.xs.length o.c]) L := by
  have lB := h.st.lt
  have lS := h.sn.lt
  have l1 := ownBlk h.own1
  have l2 := ownBlk h.own2
  have hsz := ho.size
  have hsz0 := h.only.size
  have hnew : ∀ x, x < w.heap.size → x ∉ blk qv → x ∉ blk q' := fun x hx hn hm => (hb x hm).elim hn (by omega)
  have hS : ∀ x ∈ (B :: blk qv), x ∈ (B :: gs :: (blk qr ++ blk qv)) := fun x hx => by simp at hx ⊢; rcases hx with h | h <;> simp [h]
  have hgrow : ∀ x ∈ (B :: gs :: (blk qr ++ blk q')), x ∈ (B :: gs :: (blk qr ++ blk qv)) ∨ w.heap.size ≤ x := fun x hx => by
    simp only [List.mem_cons, List.mem_append] at hx ⊢
    rcases hx with h | h | h | h
    · exact .inl (.inl h)
    · exact .inl (.inr (.inl h))
    · exact .inl (.inr (.inr (.inl h)))
    · exact (hb x h).elim (fun h => .inl (.inr (.inr (.inr h)))) .inr
  have hon : Only [] w0 w' := h.only.transN ho (fun x hx => by
    rcases List.mem_cons.1 hx with rfl | hx
    · exact h.lo.1
    · exact (l2 x hx).1)
  refine ⟨hst, h.sn.only ho ?_, h.own1.only ho (fun x hx hm => ?_), hown, h.e1.move ho hS hgrow, ?_, ⟨h.n1.1, h.n1.2.1, hnew B lB h.n1.2.2⟩, ⟨h.n2.1, hnew gs lS h.n2.2.1, fun x hx hm => ?_⟩, h.lo, hon⟩
  · simp only [List.mem_cons, not_or]; exact ⟨fun e => h.n1.1 e.symm, h.n2.2.1⟩
  · have hx := blkOwn hx
    rcases List.mem_cons.1 hm with rfl | hm
    · exact h.n1.2.1 hx
    · exact h.n2.2.2 _ hx hm
  · rw [valsOf_succ hj]
    refine (h.e2.move ho hS hgrow).snoc (hok.2.1.only0 hon) hok.2.2.1 hok.2.2.2.1 (fun hne a ha hm => ?_)
    obtain ⟨b, off, e6, h7⟩ := hok.2.1.lt (fun e => hne (by unfold u8s at e; exact List.map_eq_nil_iff.1 e))
    rw [ha] at e6
    obtain rfl := Option.some.inj e6
    simp only [List.mem_cons, List.mem_append] at hm
    have a1 := h.lo
    rcases hm with e | e | e | e
    · omega
    · omega
    · have := (l1 _ e).1; omega
    · rcases hb _ e with h2 | h2
      · have := (l2 _ h2).1; omega
      · omega
  · rcases hb x hm with h2 | h2
    · exact h.n2.2.2 x hx h2
    · have := (l1 x hx).2; omega
/-- the built system -/
theorem Build.sys (h : Build w0 w B gs k k k k qr qv cr cv rs vs L) (hk : 0 < k) : ∃ gr gv rr rv, qr = some ⟨gr, 0, none⟩ ∧ qv = some ⟨gv, 0, none⟩ ∧ Sys w B gr gv cr cv k rs vs rr rv (rowsOf k L k) (valsOf L k) ∧ w0.heap.size ≤ gr ∧ w0.heap.size ≤ gv := by
  have v1 := h.own1.view
  have v2 := h.own2.view
  rcases h.own1.cases with ⟨e, -⟩ | ⟨gr, cap, rr, e1, l1, r1, c1, -⟩
  · simp at e; omega
  rcases h.own2.cases with ⟨e, -⟩ | ⟨gv, cap2, rv, e2, l2, r2, c2, -⟩
  · simp at e; omega
  simp only [Value.slice.injEq] at e1 e2
  obtain ⟨rfl, a2, rfl⟩ := e1
  obtain ⟨rfl, b2, rfl⟩ := e2
  refine ⟨gr, gv, rr, rv, rfl, rfl, ⟨h.st, r1, r2, v1.2.1, v2.2.1, h.e1.grow (fun x hx => .inl ?_), h.e2.grow (fun x hx => .inl ?_), ⟨?_, ?_, ?_⟩, ⟨v1.2.2.2.1, v2.2.2.2.1⟩⟩, l1, l2⟩
  · simp [blk] at hx ⊢; rcases hx with h | h | h <;> simp [h]
  · simp [blk] at hx ⊢; rcases hx with h | h | h <;> simp [h]
  · have := h.n1.2.1; simpa [blk] using this
  · have := h.n1.2.2; simpa [blk] using this
  · have := h.n2.2.2; simpa [blk] using this
theorem Sys.lists {B gr gv : Nat} {rr rv : List Value} {Rs Vs : List (List UInt8)} (h : Sys w B gr gv cr cv k rs vs rr rv Rs Vs) : Lists w (some ⟨gv, 0, none⟩) Vs := fun j L hj => by
  obtain ⟨q, c, h1, h2, h3, h5, h4⟩ := h.ea.at hj
  have hjl := (List.getElem?_eq_some_iff.1 h1).1
  exact ⟨gv, 0, q, c, rfl, h.v.cell (by rw [List.getElem?_append_left (by omega), Nat.zero_add]; exact h1), h2, h3, h5⟩
end

/-- a slice of one slice of bytes in a block of its own -/
def SlB (zs : List UInt8) (k base : Nat) : Value → World → Prop := fun v w => ∃ h g, v = .slice (some ⟨h, 0, none⟩) 1 1 ∧ base ≤ h ∧ Row w h 27 [.slice (some ⟨g, 0, none⟩) k k] ∧ base ≤ g ∧ Row w g 5 (u8s zs)
theorem SlB.stable {zs : List UInt8} {k base : Nat} {D : List Nat} (h : ∀ x ∈ D, x < base) : Stable (Only D) (SlB zs k base) := fun _ _ _ ⟨a, g, e, ha, r, hg, r2⟩ ho => ⟨a, g, e, ha, r.only ho (fun hm => by have := h _ hm; omega), hg, r2.only ho (fun hm => by have := h _ hm; omega)⟩
/-- the rows' slice with one more -/
def AppB (zs : List UInt8) (k base hi j : Nat) (D : List Nat) (rs : List Value) : Value → World → Prop := fun v w => ∃ q' c' g, v = .slice q' (j + 1) c' ∧ Own w base 27 (.slice q' (j + 1) c') (rs ++ [.slice (some ⟨g, 0, none⟩) k k]) ∧ (∀ x ∈ blk q', x ∈ D ∨ hi ≤ x) ∧ hi ≤ g ∧ g ∉ blk q' ∧ Row w g 5 (u8s zs)
theorem AppB.stable {zs : List UInt8} {k base hi j : Nat} {D S : List Nat} {rs : List Value} (h : ∀ x ∈ S, x < hi ∧ x ∉ D) : Stable (Only S) (AppB zs k base hi j D rs) := fun _ _ _ ⟨q', c', g, e, ow, hb, hg, hg2, r⟩ ho =>
  ⟨q', c', g, e, ow.only ho (fun x hx hm => by have h1 := h x hm; rcases hb x (blkOwn hx) with h2 | h2; exact h1.2 h2; omega), hb, hg, hg2, r.only ho (fun hm => by have := (h _ hm).1; omega)⟩
/-- the struct with that slice -/
def AppZ (zs : List UInt8) (k base hi j B : Nat) (D : List Nat) (rs : List Value) (V : Value) : Value → World → Prop := fun _ w => ∃ q' c' g, Row w B 116 [.slice q' (j + 1) c', V] ∧ Own w base 27 (.slice q' (j + 1) c') (rs ++ [.slice (some ⟨g, 0, none⟩) k k]) ∧ (∀ x ∈ blk q', x ∈ D ∨ hi ≤ x) ∧ hi ≤ g ∧ g ∉ blk q' ∧ Row w g 5 (u8s zs)
theorem AppZ.stable0 {zs : List UInt8} {k base hi j B : Nat} {D : List Nat} {rs : List Value} {V : Value} : Stable (Only []) (AppZ zs k base hi j B D rs V) := fun _ _ _ ⟨q', c', g, r0, ow, hb, hg, hg2, r⟩ ho =>
  ⟨q', c', g, r0.only0 ho, ow.only0 ho, hb, hg, hg2, r.only0 ho⟩
end Go.Proofs.YtlgcclhepegggaaDoor
