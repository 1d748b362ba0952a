/- Rows of shards of our own. -/
import Derived.Test.YtlgcclhepegggaaDoorRsShards
import Derived.Test.YtlgcclhepegggaaDoorOwnKAt
set_option linter.unusedVariables false
set_option maxRecDepth 100000
namespace Go.Proofs.YtlgcclhepegggaaDoor
open Go.RowKit

def shFlat (os : List Sh) : List Value := os.flatMap Sh.cells
theorem shFlat_length (os : List Sh) : (shFlat os).length = os.length * 2 := flat_length _ 2 (fun _ => rfl) os
theorem shFlat_append (os rs : List Sh) : shFlat (os ++ rs) = shFlat os ++ shFlat rs := List.flatMap_append
theorem shFlat_get {os : List Sh} {j : Nat} {o : Sh} (h : os[j]? = some o) : (shFlat os)[j * 2]? = some (.int .i64 o.n) ∧ (shFlat os)[j * 2 + 1]? = some (.slice o.q o.xs.length o.c) :=
  ⟨flat_get Sh.cells 2 (fun _ => rfl) os j o 0 h (by omega), flat_get Sh.cells 2 (fun _ => rfl) os j o 1 h (by omega)⟩
theorem shFlat_set : ∀ {os : List Sh} {j : Nat} {o : Sh}, j < os.length → ((shFlat os).set (j * 2) (.int .i64 o.n)).set (j * 2 + 1) (.slice o.q o.xs.length o.c) = shFlat (os.set j o)
  | [], _, _, h => by simp at h
  | x :: os, 0, o, _ => rfl
  | x :: os, j + 1, o, h => by
    have ih := shFlat_set (os := os) (j := j) (o := o) (by simp at h; omega)
    show ((Value.int .i64 x.n :: .slice x.q x.xs.length x.c :: shFlat os).set ((j + 1) * 2) _).set ((j + 1) * 2 + 1) _ = Value.int .i64 x.n :: .slice x.q x.xs.length x.c :: shFlat (os.set j o)
    rw [show (j + 1) * 2 = j * 2 + 1 + 1 by omega, show j * 2 + 1 + 1 + 1 = (j * 2 + 1) + 1 + 1 by omega, List.set_cons_succ, List.set_cons_succ, List.set_cons_succ, List.set_cons_succ, ih]
theorem Shards.rd {w : World} {p : Option Addr} {os : List Sh} (h : Shards w p os) : Rd w p (shFlat os) := by
  refine rd_flat Sh.cells 2 (by omega) (fun _ => rfl) fun j o hj => ?_
  obtain ⟨b, off, h1, h2, h3, h4⟩ := h j o hj
  refine ⟨b, off, h1, fun r v hv => ?_⟩
  match r, hv with
  | 0, hv => obtain rfl := Option.some.inj hv; exact h3
  | 1, hv => obtain rfl := Option.some.inj hv; exact h4
theorem shards_of {w : World} {p : Option Addr} {os : List Sh} (h : Rd w p (shFlat os)) (hok : ∀ o ∈ os, o.Ok w) : Shards w p os := by
  intro j o hj
  have hget := shFlat_get hj
  rcases h with h | ⟨b, off, rfl, h⟩
  · rw [h] at hget; cases hget.1
  · exact ⟨b, off, rfl, hok o (List.mem_of_getElem? hj), h _ _ hget.1, h _ _ hget.2⟩
theorem Shards.ok {w : World} {p : Option Addr} {os : List Sh} (h : Shards w p os) : ∀ o ∈ os, o.Ok w := by
  intro o ho
  obtain ⟨j, hj⟩ := List.getElem?_of_mem ho
  obtain ⟨_, _, _, h, _⟩ := h j o hj
  exact h
theorem shFlat_one {os : List Sh} {v : Value} (h : v ∈ shFlat os) : v.oneCell' = true := by
  obtain ⟨o, _, h⟩ := List.mem_flatMap.1 h
  simp only [Sh.cells, List.mem_cons, List.not_mem_nil, or_false] at h
  rcases h with rfl | rfl <;> rfl
theorem shFlat_take (os : List Sh) (k : Nat) : (shFlat os).take (k * 2) = shFlat (os.take k) := by
  induction os generalizing k with
  | nil => simp [shFlat]
  | cons x os ih =>
    cases k with
    | zero => simp [shFlat]
    | succ k =>
      show (Value.int .i64 x.n :: .slice x.q x.xs.length x.c :: shFlat os).take ((k + 1) * 2) = Value.int .i64 x.n :: .slice x.q x.xs.length x.c :: shFlat (os.take k)
      rw [show (k + 1) * 2 = k * 2 + 1 + 1 by omega, List.take_succ_cons, List.take_succ_cons, ih]
theorem shFlat_drop (os : List Sh) (k : Nat) : (shFlat os).drop (k * 2) = shFlat (os.drop k) := by
  induction os generalizing k with
  | nil => simp [shFlat]
  | cons x os ih =>
    cases k with
    | zero => simp [shFlat]
    | succ k =>
      show (Value.int .i64 x.n :: .slice x.q x.xs.length x.c :: shFlat os).drop ((k + 1) * 2) = shFlat (os.drop k)
      rw [show (k + 1) * 2 = k * 2 + 1 + 1 by omega, List.drop_succ_cons, List.drop_succ_cons, ih]
theorem Tryd.infoSh : (Tryd.prog.info? 80).map (fun i => (i.zero, i.size, i.bytes)) = some (some (.agg #[.int .i64 0, .slice none 0 0]), 2, 32) := by kernel_rfl

/-- shards appended to a row of our own -/
theorem sh_append {base : Nat} (w : World) {n cap m c : Nat} {p q : Option Addr} {os rs : List Sh} (hown : OwnK w base 80 2 (.slice p n cap) n (shFlat os)) (hbase : base ≤ w.heap.size) (hr : Rd w q (shFlat rs)) (hm : rs.length = m) (hq : q = none → m = 0 ∧ c = 0) (hb : (n + m) * 32 ≤ 140737488355328) :
    ∃ p' cap' w', Hid ((Builtin.append_ #[75, 75] 75 #[.slice p n cap, .slice q m c]).run Tryd.prog w = .ok (.slice p' (n + m) cap') w') ∧ OwnK w' base 80 2 (.slice p' (n + m) cap') (n + m) (shFlat (os ++ rs)) ∧ Only (blk p) w w' := by
  obtain ⟨p', cap', w', h1, h2, h3⟩ := appendK (P := Tryd.prog) w (c := c) (ty := 75) Tryd.underlying75 Tryd.infoSh rfl (by omega) hown hr (by rw [shFlat_length, hm]) hq (fun u hu => shFlat_one hu) hb (by omega) hbase
  exact ⟨p', cap', w', Lib.hid h1, by rw [shFlat_append]; exact h2, h3⟩
/-- .. and where it lies -/
theorem sh_append_at {base : Nat} (w : World) {n cap m c : Nat} {p q : Option Addr} {os rs : List Sh} (hown : OwnK w base 80 2 (.slice p n cap) n (shFlat os)) (hbase : base ≤ w.heap.size) (hr : Rd w q (shFlat rs)) (hm : rs.length = m) (hq : q = none → m = 0 ∧ c = 0) (hb : (n + m) * 32 ≤ 140737488355328) :
    ∃ p' cap' w', (Builtin.append_ #[75, 75] 75 #[.slice p n cap, .slice q m c]).run Tryd.prog w = .ok (.slice p' (n + m) cap') w' ∧ OwnK w' base 80 2 (.slice p' (n + m) cap') (n + m) (shFlat (os ++ rs)) ∧ Only (blk p) w w' ∧ (p' = p ∨ ∃ g, p' = some ⟨g, 0, none⟩ ∧ w.heap.size ≤ g) := by
  obtain ⟨p', cap', w', h1, h2, h3⟩ := sh_append w (c := c) hown hbase hr hm hq hb
  exact ⟨p', cap', w', h1.out, h2, h3, appendK_at (P := Tryd.prog) w Tryd.underlying75 Tryd.infoSh rfl (by omega) hown hr (by rw [shFlat_length, hm]) hq (fun u hu => shFlat_one hu) hb (by omega) h1.out⟩
/-- to an empty row of our own that has no room -/
theorem sh_fresh {base : Nat} (w : World) {m c : Nat} {p q : Option Addr} {rs : List Sh} (hown : OwnK w base 80 2 (.slice p 0 0) 0 (shFlat [])) (hbase : base ≤ w.heap.size) (hr : Rd w q (shFlat rs)) (hm : rs.length = m) (hq : q = none → m = 0 ∧ c = 0) (hb : m * 32 ≤ 140737488355328) :
    ∃ p' cap' w', (Builtin.append_ #[75, 75] 75 #[.slice p 0 0, .slice q m c]).run Tryd.prog w = .ok (.slice p' m cap') w' ∧ OwnK w' base 80 2 (.slice p' m cap') m (shFlat rs) ∧ Only [] w w' := by
  obtain ⟨p', cap', w', h1, h2, h3⟩ := sh_append w (c := c) hown hbase hr hm hq (by omega)
  have h1 := h1.out
  rw [Nat.zero_add] at h1 h2
  rw [List.nil_append] at h2
  exact ⟨p', cap', w', h1, h2, appendK_only0 (P := Tryd.prog) w Tryd.underlying75 Tryd.infoSh rfl (by omega) hown hr (by rw [shFlat_length, hm]) hq (fun u hu => shFlat_one hu) hb (by omega) h1⟩
theorem ownKblk {w : World} {base K n m c : Nat} {e : TypeId} {p : Option Addr} {vs : List Value} (h : OwnK w base e K (.slice p m c) n vs) : ∀ x ∈ blk p, base ≤ x ∧ x < w.heap.size := h.view.2.2.2.2.2.2
theorem OwnK.row {w : World} {base K n m c : Nat} {e : TypeId} {p : Option Addr} {vs : List Value} (h : OwnK w base e K (.slice p m c) n vs) (hn : 0 < n) : ∃ g rest, p = some ⟨g, 0, none⟩ ∧ base ≤ g ∧ Row w g e (vs ++ rest) := by
  rcases h.2 with ⟨e1, rfl⟩ | ⟨g, cap, cur, e1, hg, hh, h1, h2, h3, h4⟩
  · omega
  · cases e1
    refine ⟨g, cur.toList.drop (n * K), rfl, hg, ?_⟩
    rw [← h4, List.take_append_drop]
    unfold Row; simpa using hh
end Go.Proofs.YtlgcclhepegggaaDoor
