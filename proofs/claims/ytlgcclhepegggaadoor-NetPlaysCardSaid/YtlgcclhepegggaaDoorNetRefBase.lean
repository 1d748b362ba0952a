/- The document's net: what its blocks hold. -/
import Derived.Test.YtlgcclhepegggaaDoorNetOps2W
set_option linter.unusedVariables false
set_option maxRecDepth 100000
namespace Go.Proofs.YtlgcclhepegggaaDoor
open Go.RowKit

def rStr (o : Lt) : Value := .string ⟨o.xs.toArray⟩
def rCells (o : Lt) : List Value := [.int .i64 (o.n : Int), .int .i64 o.fr, .int .i64 o.to, rStr o]
def rFlat (L : List Lt) : List Value := L.flatMap rCells
theorem rFlat_length (L : List Lt) : (rFlat L).length = L.length * 4 := flat_length _ 4 (fun _ => rfl) L
theorem rFlat_append (L M : List Lt) : rFlat (L ++ M) = rFlat L ++ rFlat M := List.flatMap_append
theorem rFlat_get {L : List Lt} {j : Nat} {o : Lt} (h : L[j]? = some o) : (rFlat L)[j * 4]? = some (.int .i64 (o.n : Int)) ∧ (rFlat L)[j * 4 + 1]? = some (.int .i64 o.fr) ∧ (rFlat L)[j * 4 + 2]? = some (.int .i64 o.to) ∧ (rFlat L)[j * 4 + 3]? = some (rStr o) :=
  ⟨flat_get rCells 4 (fun _ => rfl) L j o 0 h (by omega), flat_get rCells 4 (fun _ => rfl) L j o 1 h (by omega), flat_get rCells 4 (fun _ => rfl) L j o 2 h (by omega), flat_get rCells 4 (fun _ => rfl) L j o 3 h (by omega)⟩
theorem rFlat_one {L : List Lt} {v : Value} (h : v ∈ rFlat L) : v.oneCell' = true := by
  obtain ⟨o, _, h⟩ := List.mem_flatMap.1 h
  simp only [rCells, rStr, List.mem_cons, List.not_mem_nil, or_false] at h
  rcases h with rfl | rfl | rfl | rfl <;> rfl
theorem rFlat_cons (o : Lt) (L : List Lt) : rFlat (o :: L) = .int .i64 (o.n : Int) :: .int .i64 o.fr :: .int .i64 o.to :: rStr o :: rFlat L := rfl
theorem rFlat_take (L : List Lt) (k : Nat) : (rFlat L).take (k * 4) = rFlat (L.take k) := by
  induction L generalizing k with
  | nil => simp [rFlat]
  | cons x L ih =>
    cases k with
    | zero => simp [rFlat]
    | succ k => rw [rFlat_cons, show (k + 1) * 4 = k * 4 + 1 + 1 + 1 + 1 by omega, List.take_succ_cons, List.take_succ_cons, List.take_succ_cons, List.take_succ_cons, ih, List.take_succ_cons, rFlat_cons]
theorem rFlat_drop (L : List Lt) (k : Nat) : (rFlat L).drop (k * 4) = rFlat (L.drop k) := by
  induction L generalizing k with
  | nil => simp [rFlat]
  | cons x L ih =>
    cases k with
    | zero => simp [rFlat]
    | succ k => rw [rFlat_cons, show (k + 1) * 4 = k * 4 + 1 + 1 + 1 + 1 by omega, List.drop_succ_cons, List.drop_succ_cons, List.drop_succ_cons, List.drop_succ_cons, ih, List.drop_succ_cons]
theorem Tryd.infoRLt : (Tryd.prog.info? 55).map (fun i => (i.zero, i.size, i.bytes)) = some (some (.agg #[.int .i64 0, .int .i64 0, .int .i64 0, .string ⟨#[]⟩]), 4, 40) := by kernel_rfl

/-- the document's net -/
structure RefAt (w : World) (base B : Nat) (q : Option Addr) (n c last : Nat) (L : List Lt) : Prop where
  st : Row w B 50 [.slice q n c, .int .i64 (last : Int)]
  own : OwnK w base 55 4 (.slice q n c) n (rFlat L)
  len : L.length = n
  nd : B ∉ blk q
  lo : base ≤ B
section
variable {w w' : World} {base B n c last : Nat} {q : Option Addr} {L : List Lt}
theorem RefAt.only {S : List Nat} (h : RefAt w base B q n c last L) (ho : Only S w w') (hS : ∀ x ∈ S, x ∉ B :: blk q) : RefAt w' base B q n c last L := by
  have hB : B ∉ S := fun hm => hS B hm (by simp)
  exact ⟨h.st.only ho hB, h.own.only ho (fun k hk hm => hS k hm (by
      cases q with
      | none => simp [Value.ownBlock] at hk
      | some a => simp [Value.ownBlock] at hk; simp [blk, hk])), h.len, h.nd, h.lo⟩
theorem RefAt.only0 (h : RefAt w base B q n c last L) (ho : Only [] w w') : RefAt w' base B q n c last L := h.only ho (by simp)
theorem RefAt.blk_lt (h : RefAt w base B q n c last L) : ∀ x ∈ blk q, base ≤ x ∧ x < w.heap.size := h.own.view.2.2.2.2.2.2
theorem RefAt.lt (h : RefAt w base B q n c last L) : ∀ x ∈ B :: blk q, base ≤ x ∧ x < w.heap.size := fun x hx => by
  rcases List.mem_cons.1 hx with rfl | hx
  · exact ⟨h.lo, h.st.lt⟩
  · exact h.blk_lt x hx
theorem RefAt.cell (h : RefAt w base B q n c last L) {j : Nat} {o : Lt} (hj : L[j]? = some o) : ∃ g, q = some ⟨g, 0, none⟩ ∧ w.cell? ⟨g, j * 4, none⟩ = some (.int .i64 (o.n : Int)) ∧ w.cell? ⟨g, j * 4 + 1, none⟩ = some (.int .i64 o.fr) ∧ w.cell? ⟨g, j * 4 + 2, none⟩ = some (.int .i64 o.to) ∧ w.cell? ⟨g, j * 4 + 3, none⟩ = some (rStr o) := by
  have hjl := (List.getElem?_eq_some_iff.1 hj).1
  have hl := h.len
  have hget := rFlat_get hj
  rcases h.own.2 with ⟨e1, e2⟩ | ⟨g, cap, cur, e1, hg, hh, h1, h2, h3, h4⟩
  · omega
  · obtain ⟨rfl, -, rfl⟩ : q = some ⟨g, 0, none⟩ ∧ n = n ∧ c = cap := by simpa using e1
    have r : Row w g 55 (rFlat L ++ cur.toList.drop (n * 4)) := by rw [← h4, List.take_append_drop]; unfold Row; simpa using hh
    have hg2 : ∀ (t : Nat) v, (rFlat L)[t]? = some v → (rFlat L ++ cur.toList.drop (n * 4))[t]? = some v := fun t v h => by rw [List.getElem?_append_left (List.getElem?_eq_some_iff.1 h).1]; exact h
    exact ⟨g, rfl, r.cell (hg2 _ _ hget.1), r.cell (hg2 _ _ hget.2.1), r.cell (hg2 _ _ hget.2.2.1), r.cell (hg2 _ _ hget.2.2.2)⟩
end
theorem rlt_append_at {base : Nat} (w : World) {n cap m c : Nat} {p q : Option Addr} {os rs : List Lt} (hown : OwnK w base 55 4 (.slice p n cap) n (rFlat os)) (hbase : base ≤ w.heap.size) (hr : Rd w q (rFlat rs)) (hm : rs.length = m) (hq : q = none → m = 0 ∧ c = 0) (hb : (n + m) * 40 ≤ 140737488355328) :
    ∃ p' cap' w', (Builtin.append_ #[48, 48] 48 #[.slice p n cap, .slice q m c]).run Tryd.prog w = .ok (.slice p' (n + m) cap') w' ∧ OwnK w' base 55 4 (.slice p' (n + m) cap') (n + m) (rFlat (os ++ rs)) ∧ Only (blk p) w w' ∧ (p' = p ∨ ∃ g, p' = some ⟨g, 0, none⟩ ∧ w.heap.size ≤ g) := by
  obtain ⟨p', cap', w', h1, h2, h3⟩ := appendK (P := Tryd.prog) w (c := c) (ty := 48) Tryd.underlying48 Tryd.infoRLt rfl (by omega) hown hr (by rw [rFlat_length, hm]) hq (fun u hu => rFlat_one hu) hb (by omega) hbase
  exact ⟨p', cap', w', h1, by rw [rFlat_append]; exact h2, h3, appendK_at (P := Tryd.prog) w Tryd.underlying48 Tryd.infoRLt rfl (by omega) hown hr (by rw [rFlat_length, hm]) hq (fun u hu => rFlat_one hu) hb (by omega) h1⟩

set_option maxHeartbeats 4000000 in
theorem rfind_any (w0 : World) (base B : Nat) (q : Option Addr) (n c last : Nat) (L : List Lt) (h : RefAt w0 base B q n c last L) (hn : n ≤ 1000000) (x : Int) :
    Calls Tryd.prog 60 #[.pointer (some ⟨B, 0, none⟩), .int .i64 x] w0 fun e w' => Only [] w0 w' ∧ ((∃ (i : Nat) (o : Lt), e = .returned (.int .i64 (i : Int)) ∧ L[i]? = some o ∧ (o.n : Int) = x) ∨ (e = .returned (.int .i64 (-1)) ∧ ∀ o ∈ L, (o.n : Int) ≠ x)) := by
  have cB := h.st.cell (i := 0) rfl
  have H := Lib.hid h
  clear h
  go_enter Tryd.func60, Tryd.ntmps60
  go_wp2_with fail
  go_loopw [12] (fun a wr => ∃ (j : Nat), a = .int .i64 (j : Int) ∧ j ≤ n ∧ Hid (Only [] w0 wr) ∧ Hid (∀ k o, k < j → L[k]? = some o → (o.n : Int) ≠ x)) (fun a _ => n - (intOf a).toNat)
  case atStart => exact ⟨0, rfl, Nat.zero_le _, Lib.hid (Only.refl _ _), Lib.hid (fun k o hk => absurd hk (Nat.not_lt_zero _))⟩
  case round =>
    obtain ⟨j, rfl, hj, HO, HP⟩ := hrel
    by_cases hlt : j < n
    · have hji : (j : Int) < (n : Int) := by omega
      obtain ⟨o, ho⟩ : ∃ o, L[j]? = some o := ⟨_, List.getElem?_eq_getElem (by rw [H.out.len]; exact hlt)⟩
      obtain ⟨g, rfl, c0, c1, c2, c3⟩ := (H.out.only0 HO.out).cell ho
      generalize hrs : rStr o = so at c3
      have hso : Hid (so.oneCell' = true) := Lib.hid (by rw [← hrs]; rfl)
      obtain ⟨sb, hsb⟩ : ∃ sb, so = .string sb := ⟨_, hrs.symm⟩
      subst hsb
      have Ho := Lib.hid ho
      clear ho hrs
      by_cases he : (o.n : Int) = x
      · have heb : ((o.n : Int) == x) = true := by simp [he]
        have He := Lib.hid he
        clear he
        go_wp2_with fail
        go_ret
        exact ⟨HO.out.trans0 (Only.alloc _ _), .inl ⟨j, o, rfl, Ho.out, He.out⟩⟩
      · have heb : ((o.n : Int) == x) = false := by simp [he]
        have He := Lib.hid he
        clear he
        go_wp2_with fail
        refine ⟨⟨j + 1, by go_num, by omega, Lib.hid (HO.out.trans0 (Only.alloc _ _)), Lib.hid ?_⟩, ?_⟩
        · intro k o2 hk ho2
          by_cases e : k = j
          · subst e
            obtain rfl := Option.some.inj (ho2.symm.trans Ho.out)
            exact He.out
          · exact HP.out k o2 (by omega) ho2
        · show n - ((j : Int) + 1).toNat < n - ((j : Int)).toNat
          omega
    · obtain rfl : j = n := by omega
      have hji : ¬ (j : Int) < (j : Int) := by omega
      go_wp2_with fail
      go_ret
      refine ⟨HO.out, .inr ⟨rfl, fun o ho => ?_⟩⟩
      obtain ⟨k, hk⟩ := List.mem_iff_getElem?.1 ho
      exact HP.out k o (by have := (List.getElem?_eq_some_iff.1 hk).1; have := H.out.len; omega) hk
end Go.Proofs.YtlgcclhepegggaaDoor
