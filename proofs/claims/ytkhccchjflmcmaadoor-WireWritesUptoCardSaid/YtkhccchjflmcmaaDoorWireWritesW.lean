/- The walk of WireWrites. -/
import Derived.Test.YtkhccchjflmcmaaDoorWireAlive
import Derived.Test.YtkhccchjflmcmaaDoorActs05
import Derived.Test.YtkhccchjflmcmaaDoorRefNumW
import Derived.Test.YtkhccchjflmcmaaDoorApartW
import Derived.Test.YtkhccchjflmcmaaDoorErrs
import Derived.Test.YtkhccchjflmcmaaDoorWritesState
import Derived.Test.YtkhccchjflmcmaaDoorWireSpoiltW
set_option linter.unusedVariables false
namespace Go.Proofs.YtkhccchjflmcmaaDoor
open Go.RowKit

def wtail : List Op5 := [⟨4, 0, 0, none, 0, 0, []⟩, ⟨4, 1, 0, none, 0, 0, []⟩, ⟨1, 0, 5, none, 0, 0, []⟩, ⟨4, 0, 0, none, 0, 0, []⟩]
theorem wtail_ok (w : World) : ∀ o ∈ wtail, o.Ok w := by
  intro o ho
  have hz : ∀ a b c : Int, (a = 4 ∨ a = 1) → (b = 0 ∨ b = 1) → (c = 0 ∨ c = 5) → (⟨a, b, c, none, 0, 0, []⟩ : Op5).Ok w := fun a b c ha hb hc => by
    refine ⟨?_, ?_, ?_, rfl, Nat.le_refl _, by simp, by simp, Rd.nil _ _⟩
    · rcases ha with rfl | rfl <;> simp
    · rcases hb with rfl | rfl <;> simp
    · rcases hc with rfl | rfl <;> simp
  simp only [wtail, List.mem_cons, List.not_mem_nil, or_false] at ho
  rcases ho with rfl | rfl | rfl | rfl
  · exact hz 4 0 0 (.inl rfl) (.inl rfl) (.inl rfl)
  · exact hz 4 1 0 (.inl rfl) (.inr rfl) (.inl rfl)
  · exact hz 1 0 5 (.inr rfl) (.inl rfl) (.inr rfl)
  · exact hz 4 0 0 (.inl rfl) (.inl rfl) (.inl rfl)
theorem opsWeight_app (os rs : List Op5) : opsWeight (os ++ rs) = opsWeight os + opsWeight rs := by
  unfold opsWeight; rw [List.map_append, List.sum_append]
theorem w_get2 {α : Type} (f : Nat → α) {k : Nat} (hk : k < 2) : [f 0, f 1][k]? = some (f k) := by
  match k, hk with
  | 0, _ => rfl
  | 1, _ => rfl
theorem w_set2 {α : Type} (f : Nat → α) (k : Nat) (hk : k < 2) (z : α) : [f 0, f 1].set k z = [(if 0 = k then z else f 0), (if 1 = k then z else f 1)] := by
  match k, hk with
  | 0, _ => rfl
  | 1, _ => rfl
theorem w_bit0 (a : Int) : ∃ k : Nat, k < 2 ∧ bits .and .i64 a 1 = (k : Int) := by
  refine ⟨((BitVec.ofInt 64 a) &&& (BitVec.ofInt 64 ((1 : Nat) : Int))).toNat, ?_, ?_⟩
  · rw [BitVec.toNat_and]
    exact Nat.lt_of_le_of_lt Nat.and_le_right (by decide)
  · show IntKind.i64.wrap (((BitVec.ofInt 64 a) &&& (BitVec.ofInt 64 ((1 : Nat) : Int))).toNat : Int) = _
    exact i64_wrap_nat _ (by rw [BitVec.toNat_and]; exact Nat.lt_of_le_of_lt Nat.and_le_right (by decide))
theorem w_xor99 (x : UInt8) : bits .xor .u8 (x.toNat : Int) 99 = ((x ^^^ 99).toNat : Int) := u8_xor_u8 x 99

set_option maxRecDepth 100000 in
set_option maxHeartbeats 4000000 in
theorem wireWrites_any (p : Option Addr) (os : List Op5) (n cp : Nat) (E : Addr) (ww : World)
    (hn : os.length = n) (hw : opsWeight os ≤ 1048576) (hpz : p = none → n = 0 ∧ cp = 0) (hacts : Acts ww p os) (hE : ErrAt ww 0 E) :
    Calls Tryd.prog 4 #[.slice p n cp] ww fun e w' => e = .returned (.bool true) ∧ Only [] ww w' := by
  have hn20 : n ≤ 1048576 := by have := opsWeight_len os; omega
  have Hn := Lib.hid hn
  have Hacts := Lib.hid hacts
  have Hpz := Lib.hid hpz
  have Hw := Lib.hid hw
  clear hn hacts hpz hw
  go_enter Tryd.func4, Tryd.ntmps4
  go_wp2_with fail
  (with_reducible refine (alive05 ww).mono ?_)
  rintro e w1 ⟨rfl, o1⟩
  go_wp2_with fail
  (with_reducible refine (newWriter w1).mono ?_)
  rintro e w2 ⟨b0, F0, rfl, hw2, ho2, hF2⟩
  go_wp2_with fail
  (with_reducible refine (newWriter w2).mono ?_)
  rintro e w3 ⟨b1, F1, rfl, hw3, ho3, hF3⟩
  have oA : Only [] w3 (w3.alloc (.cells #[.pointer (some ⟨b0, 0, none⟩), .pointer (some ⟨b1, 0, none⟩)] 34)) := Only.alloc _ _
  have oB : Only [] (w3.alloc (.cells #[.pointer (some ⟨b0, 0, none⟩), .pointer (some ⟨b1, 0, none⟩)] 34)) ((w3.alloc (.cells #[.pointer (some ⟨b0, 0, none⟩), .pointer (some ⟨b1, 0, none⟩)] 34)).alloc (.cells #[.slice none 0 0, .slice none 0 0] 35)) := Only.alloc _ _
  have oC : Only [] ((w3.alloc (.cells #[.pointer (some ⟨b0, 0, none⟩), .pointer (some ⟨b1, 0, none⟩)] 34)).alloc (.cells #[.slice none 0 0, .slice none 0 0] 35)) (((w3.alloc (.cells #[.pointer (some ⟨b0, 0, none⟩), .pointer (some ⟨b1, 0, none⟩)] 34)).alloc (.cells #[.slice none 0 0, .slice none 0 0] 35)).alloc (.cells #[.bool false, .bool false] 36)) := Only.alloc _ _
  have rA : Row (w3.alloc (.cells #[.pointer (some ⟨b0, 0, none⟩), .pointer (some ⟨b1, 0, none⟩)] 34)) w3.heap.size 34 [.pointer (some ⟨b0, 0, none⟩), .pointer (some ⟨b1, 0, none⟩)] := Row.new w3 _ _
  have rB : Row ((w3.alloc (.cells #[.pointer (some ⟨b0, 0, none⟩), .pointer (some ⟨b1, 0, none⟩)] 34)).alloc (.cells #[.slice none 0 0, .slice none 0 0] 35)) (w3.heap.size + 1) 35 [.slice none 0 0, .slice none 0 0] := Row.newAt _ _ _ (by simp)
  have rC : Row (((w3.alloc (.cells #[.pointer (some ⟨b0, 0, none⟩), .pointer (some ⟨b1, 0, none⟩)] 34)).alloc (.cells #[.slice none 0 0, .slice none 0 0] 35)).alloc (.cells #[.bool false, .bool false] 36)) (w3.heap.size + 2) 36 [.bool false, .bool false] := Row.newAt _ _ _ (by simp)
  have hsC : (((w3.alloc (.cells #[.pointer (some ⟨b0, 0, none⟩), .pointer (some ⟨b1, 0, none⟩)] 34)).alloc (.cells #[.slice none 0 0, .slice none 0 0] 35)).alloc (.cells #[.bool false, .bool false] 36)).heap.size = w3.heap.size + 1 + 1 + 1 := by simp
  have o4 : Only [] ww (((w3.alloc (.cells #[.pointer (some ⟨b0, 0, none⟩), .pointer (some ⟨b1, 0, none⟩)] 34)).alloc (.cells #[.slice none 0 0, .slice none 0 0] 35)).alloc (.cells #[.bool false, .bool false] 36)) := ((((o1.trans0 ho2).trans0 ho3).trans0 oA).trans0 oB).trans0 oC
  have hF1lt := hw3.lt
  have hF0lt := hw2.lt
  have hs12 := o1.size
  have hs13 := ho2.size
  have hs23 := ho3.size
  have ws : WS ww (((w3.alloc (.cells #[.pointer (some ⟨b0, 0, none⟩), .pointer (some ⟨b1, 0, none⟩)] 34)).alloc (.cells #[.slice none 0 0, .slice none 0 0] 35)).alloc (.cells #[.bool false, .bool false] 36)) w3.heap.size (fun i => match i with | 0 => F0 | 1 => F1 | 4 => [w3.heap.size] | 5 => [w3.heap.size + 1] | 6 => [w3.heap.size + 2] | _ => []) (fun i => match i with | 0 => b0 | _ => b1) (fun _ => []) (fun _ => []) (fun _ => false) (fun _ => false) (fun _ => none) (fun _ => 0) (fun _ => 0) none [] := by
    refine ⟨?_, ?_, (rA.only0 oB).only0 oC, rB.only0 oC, rC, ⟨rfl, rfl, rfl⟩, ⟨Rd.nil _ _, rfl⟩, ⟨?_, ?_⟩, o4⟩
    · intro k hk
      match k, hk with
      | 0, _ => exact (((hw2.only0 ho3).only0 oA).only0 oB).only0 oC
      | 1, _ => exact ((hw3.only0 oA).only0 oB).only0 oC
    · intro k hk
      match k, hk with
      | 0, _ => exact ⟨Own.nil _ _ _, rfl⟩
      | 1, _ => exact ⟨Own.nil _ _ _, rfl⟩
    · intro i j hi hj hij x hx hm
      have f0 : ∀ x ∈ F0, w1.heap.size ≤ x ∧ x < w2.heap.size := fun x hx => ⟨hF2 x hx, hF0lt x hx⟩
      have f1 : ∀ x ∈ F1, w2.heap.size ≤ x ∧ x < w3.heap.size := fun x hx => ⟨hF3 x hx, hF1lt x hx⟩
      match i, hi with
      | 0, _ => match j, hj with
        | 0, _ => exact hij rfl
        | 1, _ => have := f0 x hx; have := f1 x hm; omega
        | 2, _ => cases hm
        | 3, _ => cases hm
        | 4, _ => have := f0 x hx; simp at hm; omega
        | 5, _ => have := f0 x hx; simp at hm; omega
        | 6, _ => have := f0 x hx; simp at hm; omega
        | 7, _ => cases hm
      | 1, _ => match j, hj with
        | 0, _ => have := f1 x hx; have := f0 x hm; omega
        | 1, _ => exact hij rfl
        | 2, _ => cases hm
        | 3, _ => cases hm
        | 4, _ => have := f1 x hx; simp at hm; omega
        | 5, _ => have := f1 x hx; simp at hm; omega
        | 6, _ => have := f1 x hx; simp at hm; omega
        | 7, _ => cases hm
      | 2, _ => cases hx
      | 3, _ => cases hx
      | 4, _ => match j, hj with
        | 0, _ => have := f0 x hm; simp at hx; omega
        | 1, _ => have := f1 x hm; simp at hx; omega
        | 2, _ => cases hm
        | 3, _ => cases hm
        | 4, _ => exact hij rfl
        | 5, _ => simp at hx hm; omega
        | 6, _ => simp at hx hm; omega
        | 7, _ => cases hm
      | 5, _ => match j, hj with
        | 0, _ => have := f0 x hm; simp at hx; omega
        | 1, _ => have := f1 x hm; simp at hx; omega
        | 2, _ => cases hm
        | 3, _ => cases hm
        | 4, _ => simp at hx hm; omega
        | 5, _ => exact hij rfl
        | 6, _ => simp at hx hm; omega
        | 7, _ => cases hm
      | 6, _ => match j, hj with
        | 0, _ => have := f0 x hm; simp at hx; omega
        | 1, _ => have := f1 x hm; simp at hx; omega
        | 2, _ => cases hm
        | 3, _ => cases hm
        | 4, _ => simp at hx hm; omega
        | 5, _ => simp at hx hm; omega
        | 6, _ => exact hij rfl
        | 7, _ => cases hm
      | 7, _ => cases hx
    · intro i hi x hx
      rw [hsC]
      match i, hi with
      | 0, _ => have := hF2 x hx; have := hF0lt x hx; omega
      | 1, _ => have := hF3 x hx; have := hF1lt x hx; omega
      | 2, _ => cases hx
      | 3, _ => cases hx
      | 4, _ => simp at hx; omega
      | 5, _ => simp at hx; omega
      | 6, _ => simp at hx; omega
      | 7, _ => cases hx
  have oE := Only.alloc (((w3.alloc (.cells #[.pointer (some ⟨b0, 0, none⟩), .pointer (some ⟨b1, 0, none⟩)] 34)).alloc (.cells #[.slice none 0 0, .slice none 0 0] 35)).alloc (.cells #[.bool false, .bool false] 36)) (.cells #[] 38)
  obtain ⟨p1, c1, wP, Hr1, ow1, oP⟩ := acts_append (w0 := (((w3.alloc (.cells #[.pointer (some ⟨b0, 0, none⟩), .pointer (some ⟨b1, 0, none⟩)] 34)).alloc (.cells #[.slice none 0 0, .slice none 0 0] 35)).alloc (.cells #[.bool false, .bool false] 36))) (m := n) (c := cp) (os := []) (rs := os) _ (OwnK.new (n := 0) [] (Nat.le_refl _) rfl (by omega)) oE (Hacts.out.only0 (o4.trans0 oE)).rd Hn.out Hpz.out (by omega)
  rw [Nat.zero_add, List.nil_append] at *
  have oQ := Only.alloc wP (.cells (opsFlat wtail).toArray 38)
  have rQ : Row _ wP.heap.size 38 (opsFlat wtail) := Row.new wP _ _
  obtain ⟨p2, c2, wz, Hr2, ow2, oz⟩ := acts_append (w0 := (((w3.alloc (.cells #[.pointer (some ⟨b0, 0, none⟩), .pointer (some ⟨b1, 0, none⟩)] 34)).alloc (.cells #[.slice none 0 0, .slice none 0 0] 35)).alloc (.cells #[.bool false, .bool false] 36))) (m := 4) (c := 4) (os := os) (rs := wtail) _ (ow1.only0 oQ) (oP.trans0 oQ) rQ.rd0 rfl (by simp) (by omega)
  replace Hr2 : Hid ((Builtin.append_ #[33, 33] 33 #[.slice p1 n c1, .slice (some ⟨wP.heap.size, 0, none⟩) 4 4]).run Tryd.prog (wP.alloc (.cells #[.int .i64 4, .int .i64 0, .int .i64 0, .slice none 0 0, .int .i64 4, .int .i64 1, .int .i64 0, .slice none 0 0, .int .i64 1, .int .i64 0, .int .i64 5, .slice none 0 0, .int .i64 4, .int .i64 0, .int .i64 0, .slice none 0 0] 38)) = .ok (.slice p2 (n + 4) c2) wz) := Hr2
  have hb2 := ow2.view.2.2.2.2.2.2
  have wsz := ws.script oz ow2.view.2.2.1 hb2
  have hok : ∀ o ∈ os ++ wtail, o.Ok ww := fun o ho' => by
    rcases List.mem_append.1 ho' with h | h
    · exact Hacts.out.ok o h
    · exact wtail_ok ww o h
  have hl2 : (os ++ wtail).length = n + 4 := by rw [List.length_append, Hn.out]; rfl
  have hw2' : opsWeight (os ++ wtail) ≤ 1048580 := by rw [opsWeight_app]; have := Hw.out; have : opsWeight wtail = 4 := rfl; omega
  rw [hsC] at Hr1
  generalize hn2 : n + 4 = n2 at *
  have hn22 : n2 ≤ 1048580 := by omega
  generalize os ++ wtail = os2 at hl2 hw2' hok wsz
  have Hl2 := Lib.hid hl2
  have Hok := Lib.hid hok
  have Hw2 := Lib.hid hw2'
  have Hwsz := Lib.hid wsz
  clear hl2 hw2' ow2 rQ ow1 ws rA rB rC oA oB oC oE oP oQ hsC hok hw2 hw3 hn2 wsz hb2 oz o4 hF1lt hF0lt hs12 hs13 hs23 hF2 hF3 ho2 ho3 o1
  go_wp2_with (first | (at_builtin; refine wpl_append (s := .tmp 28) (x := .tmp 29) rfl rfl rfl rfl Hr1.out ?_) | (at_builtin; refine wpl_append (s := .tmp 30) (x := .tmp 35) rfl rfl rfl rfl Hr2.out ?_))
  clear Hr1 Hr2
  generalize w3.heap.size = g at *
  go_loopw [38] (fun i wr => ∃ (j : Nat) (d : Nat → List Nat) (B : Nat → Nat) (y1 y2 : Nat → List UInt8) (sp sq : Nat → Bool) (q : Nat → Option Addr) (m c : Nat → Nat), i = .int .i64 (j : Int) ∧ j ≤ n2 ∧ Hid (WS ww wr g d B y1 y2 sp sq q m c p2 (opsFlat os2)) ∧ Hid (∀ k, k < 2 → y1 k = y2 k ∧ sp k = sq k ∧ (y1 k).length ≤ 9 * opsWeight (os2.take j))) (fun i _ => n2 - (intOf i).toNat)
  case atStart => exact ⟨0, _, _, _, _, _, _, _, _, _, rfl, Nat.zero_le _, Hwsz, fun k hk => ⟨rfl, rfl, Nat.zero_le _⟩⟩
  case round =>
    obtain ⟨j, d, B, y1, y2, sp, sq, q, m, c, rfl, hj, Hws, Hy⟩ := hrel
    clear Hwsz
    have ws := Hws.out
    by_cases hlt : j < n2
    · obtain ⟨o, hoj⟩ : ∃ o, os2[j]? = some o := ⟨_, List.getElem?_eq_getElem (by rw [Hl2.out]; exact hlt)⟩
      have ho1 := Hok.out o (List.mem_of_getElem? hoj)
      obtain ⟨b2, off2, rfl, _, hc0, hc1, hc2, hc3⟩ := (acts_of ws.sc.1 (fun o ho => (Hok.out o ho).only0 ws.only)) j o hoj
      obtain ⟨k, hk2, hbit⟩ := w_bit0 o.which
      have hki : (k : Int) < 2 := by omega
      have hwt := opsWeight_take os2 hoj
      have hwl := opsWeight_le os2 (j + 1)
      have hw2 := Hw2.out
      have Hoj := Lib.hid hoj
      clear hoj
      have rn : Row (wr.alloc (.cells #[.int .i64 o.kind, .int .i64 o.which, .int .i64 o.n, .slice o.p o.m o.c] 38)) wr.heap.size 38 o.cells := Row.new wr _ _
      have on : Only [] wr (wr.alloc (.cells #[.int .i64 o.kind, .int .i64 o.which, .int .i64 o.n, .slice o.p o.m o.c] 38)) := Only.alloc wr _
      have wn := ws.only0 on
      have hcB := wn.r0.cell (w_get2 (fun k => Value.pointer (some ⟨B k, 0, none⟩)) hk2)
      obtain ⟨hok1, hok2, hok3, hom, hoc, hoc2, hoz, hord⟩ := ho1
      have cvo := conv_bytes (P := Tryd.prog) (c := o.c) (wr.alloc (.cells #[.int .i64 o.kind, .int .i64 o.which, .int .i64 o.n, .slice o.p o.m o.c] 38)) Tryd.underlying26 Tryd.underlying5 Tryd.underlying9 (hord.only0 wn.only) hom hoz
      have h9 := nb_len9 o.m (by omega)
      have hyk := (Hy.out k hk2).2.2
      have Hom := Lib.hid hom
      have Hoz := Lib.hid hoz
      clear hom hoz
      go_wp2_with fail
      · generalize (wr.alloc (.cells #[.int .i64 o.kind, .int .i64 o.which, .int .i64 o.n, .slice o.p o.m o.c] 38)) = wa at *
        clear cvo
        have hcN := rn.cell (i := 2) rfl
        have hsz := rn.lt
        have hnd : wr.heap.size ∉ d k := fun hm => by have := (ws.sep (by omega) hm).2.2.2.2; omega
        by_cases hN : o.n < 0
        · skip
          (with_reducible refine (num_neg wa (d k) (B k) (y1 k) (sp k) o.n hN (wn.wr k hk2)).mono ?_)
          rintro e wb ⟨rfl, hwb, hob⟩
          have ws2 := wn.write hk2 hob hwb (fun x hx => .inl hx)
          have hcNb := hob.cell hcN hnd
          have hobs := hob.size
          have hcF : wb.cell? ⟨g + 1 + 1, k, none⟩ = some (.bool (sq k)) := ws2.r2.cell (w_get2 (fun i => Value.bool (sq i)) hk2)
          have hfF : wb.frozen? ⟨g + 1 + 1, k, none⟩ = false := ws2.r2.free k
          go_wp2_with fail
          have hrow := ws2.r2.setCell k (.bool true)
          rw [flag_set sq k hk2] at hrow
          have ws3 := ws2.flag hk2 (Only.setCell wb ⟨g + 2, k, none⟩ _) hrow
          refine ⟨⟨j + 1, _, _, _, _, _, _, _, _, _, by go_num, by omega, Lib.hid ws3, Lib.hid fun i hi => ?_⟩, by simp [intOf]; omega⟩
          obtain ⟨z1, z2, z3⟩ := Hy.out i hi
          by_cases e : i = k
          · subst e; simp only [if_true]; exact ⟨z1, trivial, by omega⟩
          · simp only [if_neg e]; exact ⟨z1, z2, by omega⟩
        · obtain ⟨u, hu⟩ : ∃ u : Nat, o.n = (u : Int) := ⟨o.n.toNat, by omega⟩
          have hu63 : u < 9223372036854775808 := by omega
          have h9u := nb_len9 u hu63
          rw [hu] at hcN ⊢
          (with_reducible refine (num_any wa (d k) (B k) (y1 k) (sp k) u hu63 (wn.wr k hk2) (by omega)).mono ?_)
          rintro e wb ⟨rfl, F', hwb, hob, hFb⟩
          have ws2 := wn.write hk2 hob hwb hFb
          have hcNb := hob.cell hcN hnd
          have hobs := hob.size
          go_wp2_with fail
          obtain ⟨bs, hbs⟩ : ∃ bs, bs = nb u := ⟨_, rfl⟩
          have hcall : ∀ a, Only [] wb a → Calls Tryd.prog 15 #[.int .i64 (u : Int)] a fun e w' => ∃ q' n' c', e = .returned (.slice q' n' c') ∧ Hid (bs.length = n') ∧ Own w' a.heap.size 5 (.slice q' n' c') (u8s bs) ∧ Only [] a w' := fun a _ => (refNum_any a u hu63).mono (by
            rintro e w' ⟨p', c', rfl, h1, h2⟩
            exact ⟨p', _, c', rfl, by rw [hbs]; exact rfl, by rw [hbs]; exact h1, h2⟩)
          have hyb : (y2 k).length + bs.length ≤ 140737488351232 := by rw [hbs, ← (Hy.out k hk2).1]; omega
          have Hbs := Lib.hid hbs
          clear hbs
          have hcP : wb.cell? ⟨g + 1, k, none⟩ = some (.slice (q k) (m k) (c k)) := ws2.r1.cell (w_get2 (slV q m c) hk2)
          have ownP := (ws2.own k hk2).1
          have hszW := ws2.only.size
          have hbq : blk (q k) = d (2 + k) := (ws.own k hk2).2
          have hg1 : g + 1 ∉ d (2 + k) := fun hm => (ws.sep (by omega) hm).2.1 rfl
          have hlt2 : ∀ i ∈ d (2 + k), i < wb.heap.size := fun i hi => by have := (ws.sep (by omega) hi).2.2.2.2; omega
          have hltg : ∀ i ∈ [g + 1], i < wb.heap.size := fun i hi => by have := ws.g0; simp at hi; omega
          have hnD : wr.heap.size ∉ (g + 1) :: d (2 + k) := fun hm => by
            rcases List.mem_cons.1 hm with e | hm
            · have := ws.g0; omega
            · have := (ws.sep (by omega) hm).2.2.2.2; omega
          have hRr : ∀ a, Only ((g + 1) :: d (2 + k)) a a := fun a => Only.refl _ _
          have hRt : ∀ a b e, Only ((g + 1) :: d (2 + k)) a b → Only ((g + 1) :: d (2 + k)) b e → Only ((g + 1) :: d (2 + k)) a e := fun a b e h h2 => h.trans h2 (fun i hi _ => hi)
          have hRd : Only ((g + 1) :: d (2 + k)) wb wb.drew := (Only.drew _).mono (by simp)
          have hC0 : ∀ i ∈ [7, 9], (fun (i : Nat) (a : World) => (i = 7 → Only [] wb a) ∧ (i = 9 → Row a (g + 1) 35 [slV q m c 0, slV q m c 1])) i wb.drew := fun _ _ => ⟨fun _ => Only.drew _, fun _ => ws2.r1.only0 (Only.drew _)⟩
          -- <<r18
          refine wp_region_rg4 (Only ((g + 1) :: d (2 + k))) (Dirt [(7, d (2 + k)), (9, [g + 1])]) (fun (i : Nat) (a : World) => (i = 7 → Only [] wb a) ∧ (i = 9 → Row a (g + 1) 35 [slV q m c 0, slV q m c 1])) [7, 9] [[(8, none)], [(8, none)], [(4, none), (62, some 0)], [(63, some 0)], [(7, none)], [(65, some 0)], [(66, some 0)], [(64, some 3), (67, some 0)], [(4, none), (61, some 7)], [(69, some 0), (68, some 1)]] [] [none, none, none, none, none, none, none, none, none, none, none, none, none, none, none, none, none, none, none, none, none, none, none, none, none, none, none, none, none, none, none, none, none, none, none, none, none, none, none, none, none, none, none, none, none, none, none, none, none, none, none, none, none, none, none, none, none, none, none, none, none, some 61, some 62, some 63, some 64, some 65, some 66, some 67, some 68, some 69, none, none, none, none, none, none, none, none, none, none, none, none, none, none, none, none, none, none, none, none, none, none, none, none, none, none, none, none, none, none, none, none, none, none, none, none, none, none, none, none, none, none, none, none, none, none, none, none, none, none, none, none, none, none, none, none, none, none, none, none, none, none, none, none, none, none, none, none, none, none, none, none, none, none, none, none, none, none, none, none, none, none, none, none, none, none, none, none, none, none, none, none, none, none, none] (by kernel_rfl) rfl (by kernel_rfl) hRr hRt (fun _ _ => Only.refl _ _) hRd hC0 (by kernel_rfl) (by kernel_rfl) ?_
          -- 0: s61 := move t8
          apply rgd_ev
          · intro a w hR hC hf
            obtain ⟨e8, -⟩ := hf
            replace e8 : a.tmps.getD 8 undef = _ := e8
            refine rg_plain rfl fun K hK => ?_
            go_simp
            exact hK _ _ rfl ⟨hRr _, Only.refl _ _, fun _ _ _ _ h => h⟩
          -- 1: s62 := move t8
          apply rgd_ev
          · intro a w hR hC hf
            obtain ⟨e8, -⟩ := hf
            replace e8 : a.tmps.getD 8 undef = _ := e8
            refine rg_plain rfl fun K hK => ?_
            go_simp
            exact hK _ _ rfl ⟨hRr _, Only.refl _ _, fun _ _ _ _ h => h⟩
          -- 2: s63 := indexAddr 35 t4 t62
          apply rgd_ev
          · intro a w hR hC hf
            obtain ⟨e4, e62, -⟩ := hf
            replace e4 : a.tmps.getD 4 undef = _ := e4
            replace e62 : a.tmps.getD 62 undef = _ := e62
            refine rg_plain rfl fun K hK => ?_
            have hki : (k : Int) < 2 := by omega
            go_simp
            exact hK _ _ rfl ⟨hRr _, Only.refl _ _, fun _ _ _ _ h => h⟩
          -- 3: s64 := load 26 t63
          apply rgd_ev
          · intro a w hR hC hf
            obtain ⟨e63, -⟩ := hf
            replace e63 : a.tmps.getD 63 undef = _ := e63
            refine rg_plain rfl fun K hK => ?_
            have hC7 := (hC 7 (by simp) (by kernel_rfl)).1 rfl
            have h3c := hC7.cell hcP (by simp)
            go_simp
            exact hK _ _ rfl ⟨hRr _, Only.refl _ _, fun _ _ _ _ h => h⟩
          -- 4: s65 := fieldAddr 38 t7 2
          apply rgd_ev
          · intro a w hR hC hf
            obtain ⟨e7, -⟩ := hf
            replace e7 : a.tmps.getD 7 undef = _ := e7
            refine rg_plain rfl fun K hK => ?_
            go_simp
            exact hK _ _ rfl ⟨hRr _, Only.refl _ _, fun _ _ _ _ h => h⟩
          -- 5: s66 := load 3 t65
          apply rgd_ev
          · intro a w hR hC hf
            obtain ⟨e65, -⟩ := hf
            replace e65 : a.tmps.getD 65 undef = _ := e65
            refine rg_plain rfl fun K hK => ?_
            have h5c := hR.cell hcNb hnD
            go_simp
            exact hK _ _ rfl ⟨hRr _, Only.refl _ _, fun _ _ _ _ h => h⟩
          -- 6: s67 := call { value (Operand.func 15), args := #[t66], #[3] }
          refine ⟨OwnB 5 bs wb.heap.size, stands_own _ _ _ (two_dirt (Z := fun x => ∀ i ∈ x.2, i < wb.heap.size) (fun _ => hlt2) (fun _ => hltg)), fun a w hR hC hf => ?_, ?_⟩
          · obtain ⟨e66, -⟩ := hf
            replace e66 : a.tmps.getD 66 undef = _ := e66
            refine rg_plain rfl fun K hK => ?_
            have hC7 := (hC 7 (by simp) (by kernel_rfl)).1 rfl
            go_simp
            (with_reducible refine (hcall w hC7).mono ?_)
            rintro e w' ⟨q', n', c', rfl, Hn', o', h⟩
            exact hK _ _ ⟨q', n', c', rfl, Hn'.out, o'.weaken hR.size⟩ ⟨h.mono (by simp), h, fun i _ _ _ hc => ⟨fun e => (hc.1 e).trans0 h, fun e => (hc.2 e).only0 h⟩⟩
          -- 7: s68 := call { builtin append, args := #[t64, t67], #[26, 26] }
          refine ⟨PutB ww (d (2 + k)) wb.heap.size (m k + bs.length) (y2 k ++ bs), stands_of (PutB.stable (by simp)) (two_dirt (Z := fun x => Stable (Only x.2) (PutB ww (d (2 + k)) wb.heap.size (m k + bs.length) (y2 k ++ bs))) (fun h => by simp at h) (fun _ => PutB.stable (by intro x hx; simp at hx; subst hx; exact ⟨hg1, hltg _ (by simp)⟩))), fun a w hR hC hf => ?_, ?_⟩
          · obtain ⟨e64, e67, -⟩ := hf
            replace e64 : a.tmps.getD 64 undef = _ := e64
            replace e67 : OwnB 5 bs wb.heap.size (a.tmps.getD 67 undef) w := e67
            refine rg_plain rfl fun K hK => ?_
            have hC7 := (hC 7 (by simp) (by kernel_rfl)).1 rfl
            obtain ⟨q', n', k', eB, rfl, owB⟩ := e67
            have vB := owB.view
            obtain ⟨p'', c'', w'', hra, oA, hA, hpA⟩ := append_owned (P := Tryd.prog) (bytes := 1) (c := k') (news := u8s bs) (t := 26) (ty := 26) w Tryd.underlying26 infoU8w rfl (ownP.only0 hC7) vB.1 (by rw [u8s_length]) vB.2.2.1 (fun v hv => u8s_one hv) (by have := (ownP.view).2.1; rw [u8s_length] at this; omega) (by have := (ownP.view).2.1; rw [u8s_length] at this; omega) (by have := hC7.size; omega)
            rw [hbq] at hA
            rw [← u8s_append] at oA
            refine rg_append (s := .tmp 64) (x := .tmp 67) rfl e64 eB hra ?_
            refine hK _ _ ⟨p'', c'', rfl, oA, fun x hx => ?_⟩ ⟨hA.mono (fun x hx => List.mem_cons_of_mem _ hx), hA, fun i _ hne _ hc => ⟨fun e => absurd e hne, fun e => (hc.2 e).only hA hg1⟩⟩
            rcases hpA with rfl | ⟨g', rfl, hg'⟩
            · exact .inl (hbq ▸ hx)
            · simp [blk] at hx; subst hx; exact .inr (Nat.le_trans hR.size hg')
          -- 8: s69 := indexAddr 35 t4 t61
          apply rgd_ev
          · intro a w hR hC hf
            obtain ⟨e4, e61, -⟩ := hf
            replace e4 : a.tmps.getD 4 undef = _ := e4
            replace e61 : a.tmps.getD 61 undef = _ := e61
            refine rg_plain rfl fun K hK => ?_
            have hki : (k : Int) < 2 := by omega
            go_simp
            exact hK _ _ rfl ⟨hRr _, Only.refl _ _, fun _ _ _ _ h => h⟩
          -- 9: sNone := store 26 t69 t68
          refine ⟨PutZ ww g (d (2 + k)) wb.heap.size k (m k + bs.length) q m c (y2 k ++ bs), stands_of PutZ.stable0 (two_dirt (Z := fun x => Stable (Only x.2) (PutZ ww g (d (2 + k)) wb.heap.size k (m k + bs.length) q m c (y2 k ++ bs))) (fun h => Bool.noConfusion (h.symm.trans (by kernel_rfl : _ = true))) (fun h => by simp at h)), fun a w hR hC hf => ?_, ?_⟩
          · obtain ⟨e69, e68, -⟩ := hf
            replace e69 : a.tmps.getD 69 undef = _ := e69
            replace e68 : PutB ww (d (2 + k)) wb.heap.size (m k + bs.length) (y2 k ++ bs) (a.tmps.getD 68 undef) w := e68
            refine rg_plain rfl fun K hK => ?_
            have hC9 := (hC 9 (by simp) (by kernel_rfl)).2 rfl
            obtain ⟨q', c', eV, ow, hb⟩ := e68
            have h9c : w.cell? ⟨g + 1, k, none⟩ = some (.slice (q k) (m k) (c k)) := hC9.cell (w_get2 (slV q m c) hk2)
            have h9f := hC9.free k
            go_simp
            have hst : Only [g + 1] w (w.setCell ⟨g + 1, k, none⟩ (.slice q' (m k + bs.length) c')) := Only.setCell w ⟨g + 1, k, none⟩ _
            refine hK undef _ ⟨q', c', by rw [← slv_set q m c k hk2]; exact hC9.setCell k _, ow.only hst ?_, hb⟩ ⟨hst.mono (by simp), hst, ?_⟩
            · intro x hx hm
              have hbx : x ∈ blk q' := by cases q' <;> simp [Value.ownBlock, blk] at hx ⊢; exact hx.symm
              obtain rfl : x = g + 1 := by simpa using hm
              rcases hb _ hbx with h | h
              · exact hg1 h
              · have := hltg (g + 1) (by simp); omega
            · intro i hi hne ha _
              simp only [List.mem_cons, List.not_mem_nil, or_false] at hi
              rcases hi with rfl | rfl
              · exact Bool.noConfusion (ha.symm.trans (by kernel_rfl : _ = true))
              · exact absurd rfl hne
          intro f18 w18 hR18 hf hz18
          dsimp only [mergeT]
          -- r18>>
          obtain ⟨v9, q', c', rP, oP, hbP⟩ := hz18 _ (List.mem_cons_self ..)
          have ws18 := ws2.put hk2 (by simp only [if_neg (show 2 + k ≠ k by omega)]; exact hR18) rP oP (by simp only [if_neg (show 2 + k ≠ k by omega)]; exact hbP)
          clear hRr hRt hRd hC0 hz18
          go_wp2_with fail
          refine ⟨⟨j + 1, _, _, _, _, _, _, _, _, _, by go_num, by omega, Lib.hid ws18, Lib.hid fun i hi => ?_⟩, by simp [intOf]; omega⟩
          obtain ⟨z1, z2, z3⟩ := Hy.out i hi
          by_cases e : i = k
          · subst e; simp only [if_true]; exact ⟨by rw [Hbs.out, z1], z2, by rw [List.length_append]; omega⟩
          · simp only [if_neg e]; exact ⟨z1, z2, by omega⟩
      · generalize (wr.alloc (.cells #[.int .i64 o.kind, .int .i64 o.which, .int .i64 o.n, .slice o.p o.m o.c] 38)) = wa at *
        clear cvo
        have hcN := rn.cell (i := 3) rfl
        have hsz := rn.lt
        have hnd : wr.heap.size ∉ d k := fun hm => by have := (ws.sep (by omega) hm).2.2.2.2; omega
        (with_reducible refine (text_put wa (d k) (B k) (y1 k) o.bs (sp k) o.m (wn.wr k hk2) Hom.out _ rfl (by omega)).mono ?_)
        rintro e wb ⟨rfl, F', hwb, hob, hFb⟩
        have ws2 := wn.write hk2 hob hwb hFb
        have hcNb := hob.cell hcN hnd
        have hobs := hob.size
        go_wp2_with fail
        obtain ⟨bs, hbs⟩ : ∃ bs, bs = nb o.m ++ o.bs := ⟨_, rfl⟩
        have hcall : ∀ a, Only [] wb a → Calls Tryd.prog 17 #[.slice o.p o.m o.c] a fun e w' => ∃ q' n' c', e = .returned (.slice q' n' c') ∧ Hid (bs.length = n') ∧ Own w' a.heap.size 5 (.slice q' n' c') (u8s bs) ∧ Only [] a w' := fun a ha => (refBytes_any o.p o.bs o.m o.c a Hom.out (by omega) Hoz.out (hord.only0 (ws2.only.trans0 ha))).mono (by
          rintro e w' ⟨q', n', c', rfl, h1, h2, h3⟩
          exact ⟨q', n', c', rfl, by rw [hbs]; exact h1, by rw [hbs]; exact h2, h3⟩)
        have hbl : bs.length = (nb o.m).length + o.m := by rw [hbs, List.length_append, Hom.out]
        have hyb : (y2 k).length + bs.length ≤ 140737488351232 := by rw [hbl, ← (Hy.out k hk2).1]; omega
        have Hbs := Lib.hid hbs
        clear hbs hbl
        have hcP : wb.cell? ⟨g + 1, k, none⟩ = some (.slice (q k) (m k) (c k)) := ws2.r1.cell (w_get2 (slV q m c) hk2)
        have ownP := (ws2.own k hk2).1
        have hszW := ws2.only.size
        have hbq : blk (q k) = d (2 + k) := (ws.own k hk2).2
        have hg1 : g + 1 ∉ d (2 + k) := fun hm => (ws.sep (by omega) hm).2.1 rfl
        have hlt2 : ∀ i ∈ d (2 + k), i < wb.heap.size := fun i hi => by have := (ws.sep (by omega) hi).2.2.2.2; omega
        have hltg : ∀ i ∈ [g + 1], i < wb.heap.size := fun i hi => by have := ws.g0; simp at hi; omega
        have hnD : wr.heap.size ∉ (g + 1) :: d (2 + k) := fun hm => by
          rcases List.mem_cons.1 hm with e | hm
          · have := ws.g0; omega
          · have := (ws.sep (by omega) hm).2.2.2.2; omega
        have hRr : ∀ a, Only ((g + 1) :: d (2 + k)) a a := fun a => Only.refl _ _
        have hRt : ∀ a b e, Only ((g + 1) :: d (2 + k)) a b → Only ((g + 1) :: d (2 + k)) b e → Only ((g + 1) :: d (2 + k)) a e := fun a b e h h2 => h.trans h2 (fun i hi _ => hi)
        have hRd : Only ((g + 1) :: d (2 + k)) wb wb.drew := (Only.drew _).mono (by simp)
        have hC0 : ∀ i ∈ [7, 9], (fun (i : Nat) (a : World) => (i = 7 → Only [] wb a) ∧ (i = 9 → Row a (g + 1) 35 [slV q m c 0, slV q m c 1])) i wb.drew := fun _ _ => ⟨fun _ => Only.drew _, fun _ => ws2.r1.only0 (Only.drew _)⟩
        -- <<r21
        refine wp_region_rg4 (Only ((g + 1) :: d (2 + k))) (Dirt [(7, d (2 + k)), (9, [g + 1])]) (fun (i : Nat) (a : World) => (i = 7 → Only [] wb a) ∧ (i = 9 → Row a (g + 1) 35 [slV q m c 0, slV q m c 1])) [7, 9] [[(8, none)], [(8, none)], [(4, none), (78, some 0)], [(79, some 0)], [(7, none)], [(81, some 0)], [(82, some 0)], [(80, some 3), (83, some 0)], [(4, none), (77, some 7)], [(85, some 0), (84, some 1)]] [] [none, none, none, none, none, none, none, none, none, none, none, none, none, none, none, none, none, none, none, none, none, none, none, none, none, none, none, none, none, none, none, none, none, none, none, none, none, none, none, none, none, none, none, none, none, none, none, none, none, none, none, none, none, none, none, none, none, none, none, none, none, none, none, none, none, none, none, none, none, none, none, none, none, none, none, none, none, some 77, some 78, some 79, some 80, some 81, some 82, some 83, some 84, some 85, none, none, none, none, none, none, none, none, none, none, none, none, none, none, none, none, none, none, none, none, none, none, none, none, none, none, none, none, none, none, none, none, none, none, none, none, none, none, none, none, none, none, none, none, none, none, none, none, none, none, none, none, none, none, none, none, none, none, none, none, none, none, none, none, none, none, none, none, none, none, none, none, none, none, none, none, none, none, none] (by kernel_rfl) rfl (by kernel_rfl) hRr hRt (fun _ _ => Only.refl _ _) hRd hC0 (by kernel_rfl) (by kernel_rfl) ?_
        -- 0: s77 := move t8
        apply rgd_ev
        · intro a w hR hC hf
          obtain ⟨e8, -⟩ := hf
          replace e8 : a.tmps.getD 8 undef = _ := e8
          refine rg_plain rfl fun K hK => ?_
          go_simp
          exact hK _ _ rfl ⟨hRr _, Only.refl _ _, fun _ _ _ _ h => h⟩
        -- 1: s78 := move t8
        apply rgd_ev
        · intro a w hR hC hf
          obtain ⟨e8, -⟩ := hf
          replace e8 : a.tmps.getD 8 undef = _ := e8
          refine rg_plain rfl fun K hK => ?_
          go_simp
          exact hK _ _ rfl ⟨hRr _, Only.refl _ _, fun _ _ _ _ h => h⟩
        -- 2: s79 := indexAddr 35 t4 t78
        apply rgd_ev
        · intro a w hR hC hf
          obtain ⟨e4, e78, -⟩ := hf
          replace e4 : a.tmps.getD 4 undef = _ := e4
          replace e78 : a.tmps.getD 78 undef = _ := e78
          refine rg_plain rfl fun K hK => ?_
          have hki : (k : Int) < 2 := by omega
          go_simp
          exact hK _ _ rfl ⟨hRr _, Only.refl _ _, fun _ _ _ _ h => h⟩
        -- 3: s80 := load 26 t79
        apply rgd_ev
        · intro a w hR hC hf
          obtain ⟨e79, -⟩ := hf
          replace e79 : a.tmps.getD 79 undef = _ := e79
          refine rg_plain rfl fun K hK => ?_
          have hC7 := (hC 7 (by simp) (by kernel_rfl)).1 rfl
          have h3c := hC7.cell hcP (by simp)
          go_simp
          exact hK _ _ rfl ⟨hRr _, Only.refl _ _, fun _ _ _ _ h => h⟩
        -- 4: s81 := fieldAddr 38 t7 3
        apply rgd_ev
        · intro a w hR hC hf
          obtain ⟨e7, -⟩ := hf
          replace e7 : a.tmps.getD 7 undef = _ := e7
          refine rg_plain rfl fun K hK => ?_
          go_simp
          exact hK _ _ rfl ⟨hRr _, Only.refl _ _, fun _ _ _ _ h => h⟩
        -- 5: s82 := load 26 t81
        apply rgd_ev
        · intro a w hR hC hf
          obtain ⟨e81, -⟩ := hf
          replace e81 : a.tmps.getD 81 undef = _ := e81
          refine rg_plain rfl fun K hK => ?_
          have h5c := hR.cell hcNb hnD
          go_simp
          exact hK _ _ rfl ⟨hRr _, Only.refl _ _, fun _ _ _ _ h => h⟩
        -- 6: s83 := call { value (Operand.func 17), args := #[t82], #[26] }
        refine ⟨OwnB 5 bs wb.heap.size, stands_own _ _ _ (two_dirt (Z := fun x => ∀ i ∈ x.2, i < wb.heap.size) (fun _ => hlt2) (fun _ => hltg)), fun a w hR hC hf => ?_, ?_⟩
        · obtain ⟨e82, -⟩ := hf
          replace e82 : a.tmps.getD 82 undef = _ := e82
          refine rg_plain rfl fun K hK => ?_
          have hC7 := (hC 7 (by simp) (by kernel_rfl)).1 rfl
          go_simp
          (with_reducible refine (hcall w hC7).mono ?_)
          rintro e w' ⟨q', n', c', rfl, Hn', o', h⟩
          exact hK _ _ ⟨q', n', c', rfl, Hn'.out, o'.weaken hR.size⟩ ⟨h.mono (by simp), h, fun i _ _ _ hc => ⟨fun e => (hc.1 e).trans0 h, fun e => (hc.2 e).only0 h⟩⟩
        -- 7: s84 := call { builtin append, args := #[t80, t83], #[26, 26] }
        refine ⟨PutB ww (d (2 + k)) wb.heap.size (m k + bs.length) (y2 k ++ bs), stands_of (PutB.stable (by simp)) (two_dirt (Z := fun x => Stable (Only x.2) (PutB ww (d (2 + k)) wb.heap.size (m k + bs.length) (y2 k ++ bs))) (fun h => by simp at h) (fun _ => PutB.stable (by intro x hx; simp at hx; subst hx; exact ⟨hg1, hltg _ (by simp)⟩))), fun a w hR hC hf => ?_, ?_⟩
        · obtain ⟨e80, e83, -⟩ := hf
          replace e80 : a.tmps.getD 80 undef = _ := e80
          replace e83 : OwnB 5 bs wb.heap.size (a.tmps.getD 83 undef) w := e83
          refine rg_plain rfl fun K hK => ?_
          have hC7 := (hC 7 (by simp) (by kernel_rfl)).1 rfl
          obtain ⟨q', n', k', eB, rfl, owB⟩ := e83
          have vB := owB.view
          obtain ⟨p'', c'', w'', hra, oA, hA, hpA⟩ := append_owned (P := Tryd.prog) (bytes := 1) (c := k') (news := u8s bs) (t := 26) (ty := 26) w Tryd.underlying26 infoU8w rfl (ownP.only0 hC7) vB.1 (by rw [u8s_length]) vB.2.2.1 (fun v hv => u8s_one hv) (by have := (ownP.view).2.1; rw [u8s_length] at this; omega) (by have := (ownP.view).2.1; rw [u8s_length] at this; omega) (by have := hC7.size; omega)
          rw [hbq] at hA
          rw [← u8s_append] at oA
          refine rg_append (s := .tmp 80) (x := .tmp 83) rfl e80 eB hra ?_
          refine hK _ _ ⟨p'', c'', rfl, oA, fun x hx => ?_⟩ ⟨hA.mono (fun x hx => List.mem_cons_of_mem _ hx), hA, fun i _ hne _ hc => ⟨fun e => absurd e hne, fun e => (hc.2 e).only hA hg1⟩⟩
          rcases hpA with rfl | ⟨g', rfl, hg'⟩
          · exact .inl (hbq ▸ hx)
          · simp [blk] at hx; subst hx; exact .inr (Nat.le_trans hR.size hg')
        -- 8: s85 := indexAddr 35 t4 t77
        apply rgd_ev
        · intro a w hR hC hf
          obtain ⟨e4, e77, -⟩ := hf
          replace e4 : a.tmps.getD 4 undef = _ := e4
          replace e77 : a.tmps.getD 77 undef = _ := e77
          refine rg_plain rfl fun K hK => ?_
          have hki : (k : Int) < 2 := by omega
          go_simp
          exact hK _ _ rfl ⟨hRr _, Only.refl _ _, fun _ _ _ _ h => h⟩
        -- 9: sNone := store 26 t85 t84
        refine ⟨PutZ ww g (d (2 + k)) wb.heap.size k (m k + bs.length) q m c (y2 k ++ bs), stands_of PutZ.stable0 (two_dirt (Z := fun x => Stable (Only x.2) (PutZ ww g (d (2 + k)) wb.heap.size k (m k + bs.length) q m c (y2 k ++ bs))) (fun h => Bool.noConfusion (h.symm.trans (by kernel_rfl : _ = true))) (fun h => by simp at h)), fun a w hR hC hf => ?_, ?_⟩
        · obtain ⟨e85, e84, -⟩ := hf
          replace e85 : a.tmps.getD 85 undef = _ := e85
          replace e84 : PutB ww (d (2 + k)) wb.heap.size (m k + bs.length) (y2 k ++ bs) (a.tmps.getD 84 undef) w := e84
          refine rg_plain rfl fun K hK => ?_
          have hC9 := (hC 9 (by simp) (by kernel_rfl)).2 rfl
          obtain ⟨q', c', eV, ow, hb⟩ := e84
          have h9c : w.cell? ⟨g + 1, k, none⟩ = some (.slice (q k) (m k) (c k)) := hC9.cell (w_get2 (slV q m c) hk2)
          have h9f := hC9.free k
          go_simp
          have hst : Only [g + 1] w (w.setCell ⟨g + 1, k, none⟩ (.slice q' (m k + bs.length) c')) := Only.setCell w ⟨g + 1, k, none⟩ _
          refine hK undef _ ⟨q', c', by rw [← slv_set q m c k hk2]; exact hC9.setCell k _, ow.only hst ?_, hb⟩ ⟨hst.mono (by simp), hst, ?_⟩
          · intro x hx hm
            have hbx : x ∈ blk q' := by cases q' <;> simp [Value.ownBlock, blk] at hx ⊢; exact hx.symm
            obtain rfl : x = g + 1 := by simpa using hm
            rcases hb _ hbx with h | h
            · exact hg1 h
            · have := hltg (g + 1) (by simp); omega
          · intro i hi hne ha _
            simp only [List.mem_cons, List.not_mem_nil, or_false] at hi
            rcases hi with rfl | rfl
            · exact Bool.noConfusion (ha.symm.trans (by kernel_rfl : _ = true))
            · exact absurd rfl hne
        intro f21 w21 hR21 hf hz21
        dsimp only [mergeT]
        -- r21>>
        obtain ⟨v9, q', c', rP, oP, hbP⟩ := hz21 _ (List.mem_cons_self ..)
        have ws21 := ws2.put hk2 (by simp only [if_neg (show 2 + k ≠ k by omega)]; exact hR21) rP oP (by simp only [if_neg (show 2 + k ≠ k by omega)]; exact hbP)
        clear hRr hRt hRd hC0 hz21
        go_wp2_with fail
        refine ⟨⟨j + 1, _, _, _, _, _, _, _, _, _, by go_num, by omega, Lib.hid ws21, Lib.hid fun i hi => ?_⟩, by simp [intOf]; omega⟩
        obtain ⟨z1, z2, z3⟩ := Hy.out i hi
        by_cases e : i = k
        · subst e; simp only [if_true]; exact ⟨by rw [Hbs.out, z1, List.append_assoc], z2, by rw [List.length_append, List.length_append, Hom.out]; omega⟩
        · simp only [if_neg e]; exact ⟨z1, z2, by omega⟩
      · generalize (wr.alloc (.cells #[.int .i64 o.kind, .int .i64 o.which, .int .i64 o.n, .slice o.p o.m o.c] 38)) = wa at *
        clear cvo
        have hcN := rn.cell (i := 3) rfl
        have hsz := rn.lt
        have hnd : wr.heap.size ∉ d k := fun hm => by have := (ws.sep (by omega) hm).2.2.2.2; omega
        (with_reducible refine (bytes_any o.p o.bs o.m o.c wa Hom.out (by omega) Hoz.out (hord.only0 wn.only)).mono ?_)
        rintro e wb ⟨g10, rfl, hg10, r10, ob⟩
        have wnb := wn.only0 ob
        have hcNw := ob.cell hcN (by simp)
        have hobs0 := ob.size
        have hl10 := r10.lt
        have hd10 : ∀ i, i < 8 → g10 ∉ d i := fun i hi hm => by have := (ws.apt.2 i hi _ hm).2; omega
        go_wp2_with fail
        have hrd10 : ∀ w1, Only (d k) wb w1 → Rd w1 (some ⟨g10, 0, none⟩) (u8s o.bs) := fun w1 h1 => by
          have := (r10.only h1 (hd10 k (by omega))).rd0.take o.m
          rw [u8s_take, List.take_left' Hom.out] at this
          exact this
        (with_reducible refine (bytes_put wb (d k) (B k) (y1 k) o.bs (sp k) (some ⟨g10, 0, none⟩) o.m (o.m + 6) (wnb.wr k hk2) hrd10 Hom.out (by simp) (by omega)).mono ?_)
        rintro e wc ⟨rfl, F', hwc, hoc3, hFc⟩
        have ws2 := wnb.write hk2 hoc3 hwc hFc
        have hcNc := hoc3.cell hcNw hnd
        have hobs := hoc3.size
        have r10c := r10.only hoc3 (hd10 k (by omega))
        go_wp2_with fail
        obtain ⟨bs, hbs⟩ : ∃ bs, bs = nb o.m ++ o.bs := ⟨_, rfl⟩
        have hcall : ∀ a, Only [] wc a → Calls Tryd.prog 17 #[.slice o.p o.m o.c] a fun e w' => ∃ q' n' c', e = .returned (.slice q' n' c') ∧ Hid (bs.length = n') ∧ Own w' a.heap.size 5 (.slice q' n' c') (u8s bs) ∧ Only [] a w' := fun a ha => (refBytes_any o.p o.bs o.m o.c a Hom.out (by omega) Hoz.out (hord.only0 (ws2.only.trans0 ha))).mono (by
          rintro e w' ⟨q', n', c', rfl, h1, h2, h3⟩
          exact ⟨q', n', c', rfl, by rw [hbs]; exact h1, by rw [hbs]; exact h2, h3⟩)
        have hbl : bs.length = (nb o.m).length + o.m := by rw [hbs, List.length_append, Hom.out]
        have hyb : (y2 k).length + bs.length ≤ 140737488351232 := by rw [hbl, ← (Hy.out k hk2).1]; omega
        have Hbs := Lib.hid hbs
        clear hbs hbl
        have hcP : wc.cell? ⟨g + 1, k, none⟩ = some (.slice (q k) (m k) (c k)) := ws2.r1.cell (w_get2 (slV q m c) hk2)
        have ownP := (ws2.own k hk2).1
        have hszW := ws2.only.size
        have hbq : blk (q k) = d (2 + k) := (ws.own k hk2).2
        have hg1 : g + 1 ∉ d (2 + k) := fun hm => (ws.sep (by omega) hm).2.1 rfl
        have hlt2 : ∀ i ∈ d (2 + k), i < wc.heap.size := fun i hi => by have := (ws.sep (by omega) hi).2.2.2.2; omega
        have hltg : ∀ i ∈ [g + 1], i < wc.heap.size := fun i hi => by have := ws.g0; simp at hi; omega
        have hnD : wr.heap.size ∉ (g + 1) :: d (2 + k) := fun hm => by
          rcases List.mem_cons.1 hm with e | hm
          · have := ws.g0; omega
          · have := (ws.sep (by omega) hm).2.2.2.2; omega
        have hRr : ∀ a, Only ((g + 1) :: d (2 + k)) a a := fun a => Only.refl _ _
        have hRt : ∀ a b e, Only ((g + 1) :: d (2 + k)) a b → Only ((g + 1) :: d (2 + k)) b e → Only ((g + 1) :: d (2 + k)) a e := fun a b e h h2 => h.trans h2 (fun i hi _ => hi)
        have hRd : Only ((g + 1) :: d (2 + k)) wc wc.drew := (Only.drew _).mono (by simp)
        have hC0 : ∀ i ∈ [7, 9], (fun (i : Nat) (a : World) => (i = 7 → Only [] wc a) ∧ (i = 9 → Row a (g + 1) 35 [slV q m c 0, slV q m c 1])) i wc.drew := fun _ _ => ⟨fun _ => Only.drew _, fun _ => ws2.r1.only0 (Only.drew _)⟩
        -- <<r25
        refine wp_region_rg4 (Only ((g + 1) :: d (2 + k))) (Dirt [(7, d (2 + k)), (9, [g + 1])]) (fun (i : Nat) (a : World) => (i = 7 → Only [] wc a) ∧ (i = 9 → Row a (g + 1) 35 [slV q m c 0, slV q m c 1])) [7, 9] [[(8, none)], [(8, none)], [(4, none), (95, some 0)], [(96, some 0)], [(7, none)], [(98, some 0)], [(99, some 0)], [(97, some 3), (100, some 0)], [(4, none), (94, some 7)], [(102, some 0), (101, some 1)]] [] [none, none, none, none, none, none, none, none, none, none, none, none, none, none, none, none, none, none, none, none, none, none, none, none, none, none, none, none, none, none, none, none, none, none, none, none, none, none, none, none, none, none, none, none, none, none, none, none, none, none, none, none, none, none, none, none, none, none, none, none, none, none, none, none, none, none, none, none, none, none, none, none, none, none, none, none, none, none, none, none, none, none, none, none, none, none, none, none, none, none, none, none, none, none, some 94, some 95, some 96, some 97, some 98, some 99, some 100, some 101, some 102, none, none, none, none, none, none, none, none, none, none, none, none, none, none, none, none, none, none, none, none, none, none, none, none, none, none, none, none, none, none, none, none, none, none, none, none, none, none, none, none, none, none, none, none, none, none, none, none, none, none, none, none, none, none, none, none, none, none, none, none, none, none] (by kernel_rfl) rfl (by kernel_rfl) hRr hRt (fun _ _ => Only.refl _ _) hRd hC0 (by kernel_rfl) (by kernel_rfl) ?_
        -- 0: s94 := move t8
        apply rgd_ev
        · intro a w hR hC hf
          obtain ⟨e8, -⟩ := hf
          replace e8 : a.tmps.getD 8 undef = _ := e8
          refine rg_plain rfl fun K hK => ?_
          go_simp
          exact hK _ _ rfl ⟨hRr _, Only.refl _ _, fun _ _ _ _ h => h⟩
        -- 1: s95 := move t8
        apply rgd_ev
        · intro a w hR hC hf
          obtain ⟨e8, -⟩ := hf
          replace e8 : a.tmps.getD 8 undef = _ := e8
          refine rg_plain rfl fun K hK => ?_
          go_simp
          exact hK _ _ rfl ⟨hRr _, Only.refl _ _, fun _ _ _ _ h => h⟩
        -- 2: s96 := indexAddr 35 t4 t95
        apply rgd_ev
        · intro a w hR hC hf
          obtain ⟨e4, e95, -⟩ := hf
          replace e4 : a.tmps.getD 4 undef = _ := e4
          replace e95 : a.tmps.getD 95 undef = _ := e95
          refine rg_plain rfl fun K hK => ?_
          have hki : (k : Int) < 2 := by omega
          go_simp
          exact hK _ _ rfl ⟨hRr _, Only.refl _ _, fun _ _ _ _ h => h⟩
        -- 3: s97 := load 26 t96
        apply rgd_ev
        · intro a w hR hC hf
          obtain ⟨e96, -⟩ := hf
          replace e96 : a.tmps.getD 96 undef = _ := e96
          refine rg_plain rfl fun K hK => ?_
          have hC7 := (hC 7 (by simp) (by kernel_rfl)).1 rfl
          have h3c := hC7.cell hcP (by simp)
          go_simp
          exact hK _ _ rfl ⟨hRr _, Only.refl _ _, fun _ _ _ _ h => h⟩
        -- 4: s98 := fieldAddr 38 t7 3
        apply rgd_ev
        · intro a w hR hC hf
          obtain ⟨e7, -⟩ := hf
          replace e7 : a.tmps.getD 7 undef = _ := e7
          refine rg_plain rfl fun K hK => ?_
          go_simp
          exact hK _ _ rfl ⟨hRr _, Only.refl _ _, fun _ _ _ _ h => h⟩
        -- 5: s99 := load 26 t98
        apply rgd_ev
        · intro a w hR hC hf
          obtain ⟨e98, -⟩ := hf
          replace e98 : a.tmps.getD 98 undef = _ := e98
          refine rg_plain rfl fun K hK => ?_
          have h5c := hR.cell hcNc hnD
          go_simp
          exact hK _ _ rfl ⟨hRr _, Only.refl _ _, fun _ _ _ _ h => h⟩
        -- 6: s100 := call { value (Operand.func 17), args := #[t99], #[26] }
        refine ⟨OwnB 5 bs wc.heap.size, stands_own _ _ _ (two_dirt (Z := fun x => ∀ i ∈ x.2, i < wc.heap.size) (fun _ => hlt2) (fun _ => hltg)), fun a w hR hC hf => ?_, ?_⟩
        · obtain ⟨e99, -⟩ := hf
          replace e99 : a.tmps.getD 99 undef = _ := e99
          refine rg_plain rfl fun K hK => ?_
          have hC7 := (hC 7 (by simp) (by kernel_rfl)).1 rfl
          go_simp
          (with_reducible refine (hcall w hC7).mono ?_)
          rintro e w' ⟨q', n', c', rfl, Hn', o', h⟩
          exact hK _ _ ⟨q', n', c', rfl, Hn'.out, o'.weaken hR.size⟩ ⟨h.mono (by simp), h, fun i _ _ _ hc => ⟨fun e => (hc.1 e).trans0 h, fun e => (hc.2 e).only0 h⟩⟩
        -- 7: s101 := call { builtin append, args := #[t97, t100], #[26, 26] }
        refine ⟨PutB ww (d (2 + k)) wc.heap.size (m k + bs.length) (y2 k ++ bs), stands_of (PutB.stable (by simp)) (two_dirt (Z := fun x => Stable (Only x.2) (PutB ww (d (2 + k)) wc.heap.size (m k + bs.length) (y2 k ++ bs))) (fun h => by simp at h) (fun _ => PutB.stable (by intro x hx; simp at hx; subst hx; exact ⟨hg1, hltg _ (by simp)⟩))), fun a w hR hC hf => ?_, ?_⟩
        · obtain ⟨e97, e100, -⟩ := hf
          replace e97 : a.tmps.getD 97 undef = _ := e97
          replace e100 : OwnB 5 bs wc.heap.size (a.tmps.getD 100 undef) w := e100
          refine rg_plain rfl fun K hK => ?_
          have hC7 := (hC 7 (by simp) (by kernel_rfl)).1 rfl
          obtain ⟨q', n', k', eB, rfl, owB⟩ := e100
          have vB := owB.view
          obtain ⟨p'', c'', w'', hra, oA, hA, hpA⟩ := append_owned (P := Tryd.prog) (bytes := 1) (c := k') (news := u8s bs) (t := 26) (ty := 26) w Tryd.underlying26 infoU8w rfl (ownP.only0 hC7) vB.1 (by rw [u8s_length]) vB.2.2.1 (fun v hv => u8s_one hv) (by have := (ownP.view).2.1; rw [u8s_length] at this; omega) (by have := (ownP.view).2.1; rw [u8s_length] at this; omega) (by have := hC7.size; omega)
          rw [hbq] at hA
          rw [← u8s_append] at oA
          refine rg_append (s := .tmp 97) (x := .tmp 100) rfl e97 eB hra ?_
          refine hK _ _ ⟨p'', c'', rfl, oA, fun x hx => ?_⟩ ⟨hA.mono (fun x hx => List.mem_cons_of_mem _ hx), hA, fun i _ hne _ hc => ⟨fun e => absurd e hne, fun e => (hc.2 e).only hA hg1⟩⟩
          rcases hpA with rfl | ⟨g', rfl, hg'⟩
          · exact .inl (hbq ▸ hx)
          · simp [blk] at hx; subst hx; exact .inr (Nat.le_trans hR.size hg')
        -- 8: s102 := indexAddr 35 t4 t94
        apply rgd_ev
        · intro a w hR hC hf
          obtain ⟨e4, e94, -⟩ := hf
          replace e4 : a.tmps.getD 4 undef = _ := e4
          replace e94 : a.tmps.getD 94 undef = _ := e94
          refine rg_plain rfl fun K hK => ?_
          have hki : (k : Int) < 2 := by omega
          go_simp
          exact hK _ _ rfl ⟨hRr _, Only.refl _ _, fun _ _ _ _ h => h⟩
        -- 9: sNone := store 26 t102 t101
        refine ⟨PutZ ww g (d (2 + k)) wc.heap.size k (m k + bs.length) q m c (y2 k ++ bs), stands_of PutZ.stable0 (two_dirt (Z := fun x => Stable (Only x.2) (PutZ ww g (d (2 + k)) wc.heap.size k (m k + bs.length) q m c (y2 k ++ bs))) (fun h => Bool.noConfusion (h.symm.trans (by kernel_rfl : _ = true))) (fun h => by simp at h)), fun a w hR hC hf => ?_, ?_⟩
        · obtain ⟨e102, e101, -⟩ := hf
          replace e102 : a.tmps.getD 102 undef = _ := e102
          replace e101 : PutB ww (d (2 + k)) wc.heap.size (m k + bs.length) (y2 k ++ bs) (a.tmps.getD 101 undef) w := e101
          refine rg_plain rfl fun K hK => ?_
          have hC9 := (hC 9 (by simp) (by kernel_rfl)).2 rfl
          obtain ⟨q', c', eV, ow, hb⟩ := e101
          have h9c : w.cell? ⟨g + 1, k, none⟩ = some (.slice (q k) (m k) (c k)) := hC9.cell (w_get2 (slV q m c) hk2)
          have h9f := hC9.free k
          go_simp
          have hst : Only [g + 1] w (w.setCell ⟨g + 1, k, none⟩ (.slice q' (m k + bs.length) c')) := Only.setCell w ⟨g + 1, k, none⟩ _
          refine hK undef _ ⟨q', c', by rw [← slv_set q m c k hk2]; exact hC9.setCell k _, ow.only hst ?_, hb⟩ ⟨hst.mono (by simp), hst, ?_⟩
          · intro x hx hm
            have hbx : x ∈ blk q' := by cases q' <;> simp [Value.ownBlock, blk] at hx ⊢; exact hx.symm
            obtain rfl : x = g + 1 := by simpa using hm
            rcases hb _ hbx with h | h
            · exact hg1 h
            · have := hltg (g + 1) (by simp); omega
          · intro i hi hne ha _
            simp only [List.mem_cons, List.not_mem_nil, or_false] at hi
            rcases hi with rfl | rfl
            · exact Bool.noConfusion (ha.symm.trans (by kernel_rfl : _ = true))
            · exact absurd rfl hne
        intro f25 w25 hR25 hf hz25
        dsimp only [mergeT]
        -- r25>>
        obtain ⟨v9, q', c', rP, oP, hbP⟩ := hz25 _ (List.mem_cons_self ..)
        have ws25 := ws2.put hk2 (by simp only [if_neg (show 2 + k ≠ k by omega)]; exact hR25) rP oP (by simp only [if_neg (show 2 + k ≠ k by omega)]; exact hbP)
        clear hRr hRt hRd hC0 hz25
        have r10d := r10c.only hR25 (by
          intro hm
          rcases List.mem_cons.1 hm with e | hm
          · have := ws.g0; omega
          · exact hd10 (2 + k) (by omega) hm)
        have hcNd := hR25.cell hcNc hnD
        go_wp2_with fail
        (with_reducible refine (kept_any g10 o.p o.bs o.m o.c o.m w25 Hom.out (by omega) Hoz.out (by omega) r10d (hord.only0 ws25.only)).mono ?_)
        rintro e we ⟨rfl, ⟨dn, rfl⟩⟩
        have ode := Only.drewN w25 dn
        have wse := ws25.only0 ode
        have r10e := r10d.only0 ode
        generalize w25.drewN dn = we at ode wse r10e
        have Hwse := Lib.hid wse
        have HG10 : ∀ x ∈ [g10], ww.heap.size ≤ x ∧ x ≠ g ∧ x ≠ g + 1 ∧ x ≠ g + 2 ∧ (∀ i, i < 4 → x ∉ (if i = 2 + k then blk q' else if i = k then F' else d i)) ∧ x ∉ (if 7 = 2 + k then blk q' else if 7 = k then F' else d 7) := by
          intro x hx
          obtain rfl : x = g10 := by simpa using hx
          have h0 := ws.g0
          refine ⟨by omega, by omega, by omega, by omega, fun i hi hm => ?_, ?_⟩
          · by_cases e : i = 2 + k
            · rw [if_pos e] at hm
              rcases hbP x hm with h | h
              · exact hd10 _ (by omega) h
              · omega
            · rw [if_neg e] at hm
              by_cases e2 : i = k
              · rw [if_pos e2] at hm
                rcases hFc x hm with h | h
                · exact hd10 _ (by omega) h
                · omega
              · rw [if_neg e2] at hm
                exact hd10 _ (by omega) hm
          · rw [if_neg (by omega), if_neg (by omega)]
            exact hd10 7 (by omega)
        clear wse ws25 r10d r10c r10 ws2 wnb wn ws
        go_wp2_with fail
        go_loopw [110] (fun i wf => ∃ (u : Nat) (ys : List UInt8), i = .int .i64 (u : Int) ∧ u ≤ o.m ∧ Hid (ys.length = o.m + 6) ∧ Row wf g10 5 (u8s ys) ∧ Only [g10] we wf) (fun i _ => o.m - (intOf i).toNat)
        case atStart => exact ⟨0, o.bs ++ marks, rfl, Nat.zero_le _, Lib.hid (by rw [List.length_append, Hom.out]; rfl), r10e, Only.refl _ _⟩
        case round =>
          obtain ⟨u, ys, rfl, hu, Hyl, r10f, of⟩ := hrel
          by_cases hun : u < o.m
          · have hky : u < ys.length := by rw [Hyl.out]; omega
            have hc := r10f.bytes hky
            have hf := r10f.free u
            have hx99 := w_xor99 ys[u]
            go_wp2_with fail
            go_roundw
            case rel => exact ⟨u + 1, ys.set u (ys[u] ^^^ 99), by go_num, by omega, Lib.hid (by rw [List.length_set]; exact Hyl.out), by rw [← u8s_set]; exact r10f.setCell u _, of.trans (Only.setCell _ _ _) (by simp)⟩
            case measure => simp [intOf]; omega
          · obtain rfl : u = o.m := by omega
            have wsf := Hwse.out.keep of HG10
            go_wp2_with fail
            refine ⟨⟨j + 1, _, _, _, _, _, _, _, _, _, by go_num, by omega, Lib.hid wsf, Lib.hid fun i hi => ?_⟩, by simp [intOf]; omega⟩
            obtain ⟨z1, z2, z3⟩ := Hy.out i hi
            by_cases e : i = k
            · subst e; simp only [if_true]; exact ⟨by rw [Hbs.out, z1, List.append_assoc], z2, by rw [List.length_append, List.length_append, Hom.out]; omega⟩
            · simp only [if_neg e]; exact ⟨z1, z2, by omega⟩
      · generalize (wr.alloc (.cells #[.int .i64 o.kind, .int .i64 o.which, .int .i64 o.n, .slice o.p o.m o.c] 38)) = wa at *
        clear cvo
        have hsz := rn.lt
        have hysp := (Hy.out k hk2).2.1
        have hcF : wa.cell? ⟨g + 1 + 1, k, none⟩ = some (.bool (sq k)) := wn.r2.cell (w_get2 (fun i => Value.bool (sq i)) hk2)
        have hwk := wn.wr k hk2
        cases hs : sp k with
        | true =>
          rw [hs] at hwk hysp
          rw [← hysp] at hcF
          clear hysp hs
          (with_reducible refine (done_spoilt wa (d k) (B k) (y1 k) _ hwk (hE.only0 wn.only).cell).mono ?_)
          rintro e wb ⟨rfl, hob⟩
          have hcFb := hob.cell hcF (by simp)
          have hEb := ((hE.only0 wn.only).only0 hob).cell
          have hneq := err_neq_same wb E
          go_wp2_with fail
          exact ⟨⟨j + 1, _, _, _, _, _, _, _, _, _, by go_num, by omega, Lib.hid (wn.only0 hob), Lib.hid fun i hi => by obtain ⟨z1, z2, z3⟩ := Hy.out i hi; exact ⟨z1, z2, by omega⟩⟩, by simp [intOf]; omega⟩
        | false =>
          rw [hs] at hwk hysp
          rw [← hysp] at hcF
          clear hysp hs
          (with_reducible refine (done_any wa (d k) (B k) (y1 k) hwk (by omega)).mono ?_)
          rintro e wb ⟨p', c', rfl, ow, hob⟩
          have hcFb := hob.cell hcF (by simp)
          have wnb := wn.only0 hob
          have hcP : wb.cell? ⟨g + 1, k, none⟩ = some (.slice (q k) (m k) (c k)) := wnb.r1.cell (w_get2 (slV q m c) hk2)
          have vw := ow.view
          have ownP := (wnb.own k hk2).1.view
          have hlm : (y2 k).length = m k := by have := ownP.2.1; rwa [u8s_length] at this
          rw [← (Hy.out k hk2).1] at hlm ownP
          have rdw := vw.1
          have hpw := vw.2.2.1
          have rdp := ownP.1
          have hpp := ownP.2.2.1
          have Hlm := Lib.hid hlm
          clear vw ownP hlm
          go_wp2_with fail
          -- <<r38
          refine wp_region_rg2 (Only []) [[(13, none)], [(138, some 0)], [(139, some 0)], [(140, some 0), (12, none)], [(140, some 1), (141, some 0)], [(140, some 2), (8, none)], [(140, some 3), (4, none), (143, some 0)], [(140, some 4), (144, some 0)], [(140, some 5), (145, some 0)], [(140, some 6), (142, some 4), (146, some 0)], [(140, some 7), (147, some 0)]] [(148, 0)] [none, none, none, none, none, none, none, none, none, none, none, none, none, none, none, none, none, none, none, none, none, none, none, none, none, none, none, none, none, none, none, none, none, none, none, none, none, none, none, none, none, none, none, none, none, none, none, none, none, none, none, none, none, none, none, none, none, none, none, none, none, none, none, none, none, none, none, none, none, none, none, none, none, none, none, none, none, none, none, none, none, none, none, none, none, none, none, none, none, none, none, none, none, none, none, none, none, none, none, none, none, none, none, none, none, none, none, none, none, none, none, none, none, none, none, none, none, none, none, none, none, none, none, none, none, none, none, none, none, none, none, none, none, none, none, none, none, none, some 138, some 139, some 140, some 141, some 142, some 143, some 144, some 145, some 146, some 147, some 148, none, none, none, none, none, none, none, none, none, none, none, none, none, none, none, none] (by kernel_rfl) rfl (by kernel_rfl) (fun _ => Only.refl _ _) (fun _ _ _ h k => h.trans0 k) (Only.drew _) (by kernel_rfl) ?_
          -- 0: s138 := move t13
          apply rg_ev
          · intro a w hR hf
            obtain ⟨e13, -⟩ := hf
            replace e13 : a.tmps.getD 13 undef = _ := e13
            refine rg_plain rfl fun K hK => ?_
            go_simp
            exact hK _ _ rfl (Only.refl _ _)
          -- 1: s139 := binOp Binneq 28 t138 (const Value.nilIface) 28
          apply rg_ev
          · intro a w hR hf
            obtain ⟨e138, -⟩ := hf
            replace e138 : a.tmps.getD 138 undef = _ := e138
            refine rg_plain rfl fun K hK => ?_
            go_simp
            exact hK _ _ rfl (Only.refl _ _)
          -- 2: s140 := move t139
          apply rg_ev
          · intro a w hR hf
            obtain ⟨e139, -⟩ := hf
            replace e139 : a.tmps.getD 139 undef = _ := e139
            refine rg_plain rfl fun K hK => ?_
            go_simp
            exact hK _ _ rfl (Only.refl _ _)
          -- 3: s141 := move t12 [if 2=false]
          apply rg_ev
          · intro a w hR hf
            obtain ⟨e140, e12, -⟩ := hf
            replace e140 : a.tmps.getD 140 undef = _ := e140
            replace e12 : a.tmps.getD 12 undef = _ := e12
            refine rg_want rfl rfl e140 fun K hK => ?_
            clear e140
            go_simp
            exact hK _ _ rfl (Only.refl _ _)
          -- 4: s142 := convert 26 9 t141 [if 2=false]
          apply rg_ev
          · intro a w hR hf
            obtain ⟨e140, e141, -⟩ := hf
            replace e140 : a.tmps.getD 140 undef = _ := e140
            replace e141 : a.tmps.getD 141 undef = _ := e141
            refine rg_want rfl rfl e140 fun K hK => ?_
            clear e140
            have cv1 := conv_bytes (P := Tryd.prog) (c := c') w Tryd.underlying26 Tryd.underlying5 Tryd.underlying9 (rdw.only0 hR) rfl hpw
            go_simp
            exact hK _ _ rfl (Only.refl _ _)
          -- 5: s143 := move t8 [if 2=false]
          apply rg_ev
          · intro a w hR hf
            obtain ⟨e140, e8, -⟩ := hf
            replace e140 : a.tmps.getD 140 undef = _ := e140
            replace e8 : a.tmps.getD 8 undef = _ := e8
            refine rg_want rfl rfl e140 fun K hK => ?_
            clear e140
            go_simp
            exact hK _ _ rfl (Only.refl _ _)
          -- 6: s144 := indexAddr 35 t4 t143 [if 2=false]
          apply rg_ev
          · intro a w hR hf
            obtain ⟨e140, e4, e143, -⟩ := hf
            replace e140 : a.tmps.getD 140 undef = _ := e140
            replace e4 : a.tmps.getD 4 undef = _ := e4
            replace e143 : a.tmps.getD 143 undef = _ := e143
            refine rg_want rfl rfl e140 fun K hK => ?_
            clear e140
            have hki : (k : Int) < 2 := by omega
            go_simp
            exact hK _ _ rfl (Only.refl _ _)
          -- 7: s145 := load 26 t144 [if 2=false]
          apply rg_ev
          · intro a w hR hf
            obtain ⟨e140, e144, -⟩ := hf
            replace e140 : a.tmps.getD 140 undef = _ := e140
            replace e144 : a.tmps.getD 144 undef = _ := e144
            refine rg_want rfl rfl e140 fun K hK => ?_
            clear e140
            have h7c := hR.cell hcP (by simp)
            go_simp
            exact hK _ _ rfl (Only.refl _ _)
          -- 8: s146 := convert 26 9 t145 [if 2=false]
          apply rg_ev
          · intro a w hR hf
            obtain ⟨e140, e145, -⟩ := hf
            replace e140 : a.tmps.getD 140 undef = _ := e140
            replace e145 : a.tmps.getD 145 undef = _ := e145
            refine rg_want rfl rfl e140 fun K hK => ?_
            clear e140
            have cv2 := conv_bytes (P := Tryd.prog) (c := c k) w Tryd.underlying26 Tryd.underlying5 Tryd.underlying9 (rdp.only0 hR) Hlm.out hpp
            go_simp
            exact hK _ _ rfl (Only.refl _ _)
          -- 9: s147 := binOp Binneq 9 t142 t146 9 [if 2=false]
          apply rg_ev
          · intro a w hR hf
            obtain ⟨e140, e142, e146, -⟩ := hf
            replace e140 : a.tmps.getD 140 undef = _ := e140
            replace e142 : a.tmps.getD 142 undef = _ := e142
            replace e146 : a.tmps.getD 146 undef = _ := e146
            refine rg_want rfl rfl e140 fun K hK => ?_
            clear e140
            go_simp
            exact hK _ _ rfl (Only.refl _ _)
          -- 10: s148 := pick t140 (const (Value.bool true)) t147
          apply rg_ev
          · intro a w hR hf
            obtain ⟨e140, e147, -⟩ := hf
            replace e140 : a.tmps.getD 140 undef = _ := e140
            replace e147 : a.tmps.getD 147 undef = _ := e147
            refine rg_plain rfl fun K hK => ?_
            go_simp
            exact hK _ _ rfl (Only.refl _ _)
          intro f38 w38 hR38 hf
          dsimp only [mergeT]
          obtain ⟨e148, -⟩ := hf
          replace e148 : f38 148 = _ := e148
          rw [e148]
          -- r38>>
          have oq38 := hob.trans0 hR38
          have oA := Only.alloc w38 (.cells #[.int .u8 1, .int .u8 2, .int .u8 3] 5)
          have rA := Row.new w38 5 (u8s [1, 2, 3])
          have hbase : wa.heap.size ≤ (w38.alloc (.cells #[.int .u8 1, .int .u8 2, .int .u8 3] 5)).heap.size := by have := oq38.size; have := oA.size; omega
          obtain ⟨p'', c'', wA, hra, owA, hA, hpA⟩ := append_owned (P := Tryd.prog) (n := (y1 k).length) (m := 3) (c := 3) (bytes := 1) (q := some ⟨w38.heap.size, 0, none⟩) (news := u8s [1, 2, 3]) (t := 26) (ty := 26) _ Tryd.underlying26 infoU8w rfl ((ow.only0 hR38).only0 oA) rA.rd0 (by rfl) (by simp) (fun v hv => u8s_one hv) (by omega) (by omega) hbase
          obtain ⟨gA, rfl, hgA, hgA2⟩ := owA.at (by omega)
          have hqp : ∀ x ∈ blk p', wa.heap.size ≤ x := fun x hx => (blk_own ow x hx).1
          have ofar : ∀ wf, Only [gA] wA wf → Only [] wa wf := by
            intro wf hf
            have h1 : Only (gA :: blk p') w38 wf := ((oA.mono (by simp)).trans hA (fun i hi _ => by simp [hi])).trans hf (fun i hi _ => by simp at hi; simp [hi])
            refine oq38.transN h1 (fun x hx => ?_)
            rcases List.mem_cons.1 hx with rfl | hx
            · exact hgA
            · exact hqp x hx
          rw [← u8s_append] at owA
          have hyl : (y1 k ++ [1, 2, 3]).length = (y1 k).length + 3 := by rw [List.length_append]; rfl
          generalize y1 k ++ [1, 2, 3] = ys0 at owA hyl
          have hyk3 : (y1 k).length + 3 ≤ 140737488351232 := by omega
          generalize hn23 : (y1 k).length + 3 = n25 at *
          generalize hn24 : (y1 k).length = n24 at *
          have Hyl := Lib.hid hyl
          have Hra := Lib.hid hra
          have Hfar := Lib.hid ofar
          have Hwn := Lib.hid wn
          clear hyl hra ofar oA rA hA hpA ow hqp wn ws wnb hn23 hn24 hyk rdw rdp hpw hpp hcP hcFb
          go_wp2_with (first | (at_builtin; refine wpl_append (s := .tmp 149) (x := .tmp 150) rfl rfl rfl rfl Hra.out ?_))
          go_loopw [154] (fun i wf => ∃ (u : Nat) (ys : List UInt8), i = .int .i64 (u : Int) ∧ u ≤ n25 ∧ Hid (ys.length = n25) ∧ Own wf wa.heap.size 5 (.slice (some ⟨gA, 0, none⟩) n25 c'') (u8s ys) ∧ Only [gA] wA wf) (fun i _ => n25 - (intOf i).toNat)
          case atStart => exact ⟨0, ys0, rfl, Nat.zero_le _, Hyl, owA, Only.refl _ _⟩
          case round =>
            obtain ⟨u, ys, rfl, hu, Hyl2, ow2, of⟩ := hrel
            by_cases hun : u < n25
            · have hky : u < ys.length := by rw [Hyl2.out]; exact hun
              have hc := ow2.cellAt (u8s_get hky)
              obtain ⟨hf, r2⟩ := ow2.set hun (.int .u8 ((ys[u] ^^^ 99).toNat : Int))
              have hx99 := w_xor99 ys[u]
              go_wp2_with fail
              go_roundw
              case rel => exact ⟨u + 1, ys.set u (ys[u] ^^^ 99), by go_num, by omega, Lib.hid (by rw [List.length_set]; exact Hyl2.out), by rw [← u8s_set]; exact r2, of.trans (Only.setCell _ _ _) (by simp)⟩
              case measure => simp [intOf]; omega
            · obtain rfl : u = n25 := by omega
              have hfar := Hfar.out _ of
              go_wp2_with fail
              exact ⟨⟨j + 1, _, _, _, _, _, _, _, _, _, by go_num, by omega, Lib.hid (Hwn.out.only0 hfar), Lib.hid fun i hi => by obtain ⟨z1, z2, z3⟩ := Hy.out i hi; exact ⟨z1, z2, by omega⟩⟩, by simp [intOf]; omega⟩
      · exact ⟨⟨j + 1, _, _, _, _, _, _, _, _, _, by go_num, by omega, Lib.hid wn, Lib.hid fun i hi => by obtain ⟨z1, z2, z3⟩ := Hy.out i hi; exact ⟨z1, z2, by omega⟩⟩, by simp [intOf]; omega⟩
    · skip
      go_wp2_with fail
      go_ret
      exact ⟨rfl, ws.only⟩
end Go.Proofs.YtkhccchjflmcmaaDoor
