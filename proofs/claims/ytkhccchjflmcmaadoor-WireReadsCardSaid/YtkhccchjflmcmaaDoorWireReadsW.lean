/- The walk of WireReads. -/
import Derived.Test.YtkhccchjflmcmaaDoorWireAlive
import Derived.Test.YtkhccchjflmcmaaDoorActs05
import Derived.Test.YtkhccchjflmcmaaDoorRefReaderW
import Derived.Test.YtkhccchjflmcmaaDoorApartW
import Derived.Test.YtkhccchjflmcmaaDoorRegCall
set_option linter.unusedVariables false
namespace Go.Proofs.YtkhccchjflmcmaaDoor
open Go.RowKit


theorem get2 {α : Type} (f : Nat → α) {k : Nat} (hk : k < 2) : [f 0, f 1][k]? = some (f k) := by
  match k, hk with
  | 0, _ => rfl
  | 1, _ => rfl
/-- one place of a function turned -/
def upd {α : Type} (q : Nat → α) (k : Nat) (z : α) : Nat → α := fun i => if i = k then z else q i
theorem upd_same {α : Type} (q : Nat → α) (k : Nat) (z : α) : upd q k z k = z := if_pos rfl
theorem upd_other {α : Type} (q : Nat → α) {k i : Nat} (z : α) (h : i ≠ k) : upd q k z i = q i := if_neg h
theorem set2 {α : Type} (f : Nat → α) (k : Nat) (hk : k < 2) (z : α) : [f 0, f 1].set k z = [upd f k z 0, upd f k z 1] := by
  match k, hk with
  | 0, _ => rfl
  | 1, _ => rfl

theorem u8_xor55 (x : UInt8) : bits .xor .u8 (x.toNat : Int) 55 = ((x ^^^ 55).toNat : Int) := u8_xor_u8 x 55
theorem u8_xor99 (x : UInt8) : bits .xor .u8 (x.toNat : Int) 99 = ((x ^^^ 99).toNat : Int) := u8_xor_u8 x 99
/-- the pairs of readers that stand already -/
def Pairs (w : World) (lo : Nat) (j : Nat) (P : Nat → Option Addr) (N C : Nat → Nat) (xs : Nat → List UInt8) (B m : Nat → Nat) (F : Nat → List Nat) : Prop :=
  ∀ k, k < j → Rr w (F k) (B k) (xs k) 0 ∧ Rf w (m k) (P k) (N k) (C k) (xs k) 0 ∧ (∀ x ∈ F k, lo < x ∧ x < m k ∧ ∀ i, i < k → m i < x)
theorem Pairs.lt {w : World} {lo j : Nat} {P : Nat → Option Addr} {N C : Nat → Nat} {xs : Nat → List UInt8} {B m : Nat → Nat} {F : Nat → List Nat} (h : Pairs w lo j P N C xs B m F) {k : Nat} (hk : k < j) : lo < B k ∧ B k < m k ∧ m k < w.heap.size := by
  obtain ⟨h1, h2, h3⟩ := h k hk
  obtain ⟨h4, h5, _⟩ := h3 _ h1.head
  exact ⟨h4, h5, h2.1.lt⟩
theorem Pairs.only {w w' : World} {lo j : Nat} {P : Nat → Option Addr} {N C : Nat → Nat} {xs : Nat → List UInt8} {B m : Nat → Nat} {F : Nat → List Nat} {S : List Nat} (h : Pairs w lo j P N C xs B m F) (ho : Only S w w') (hS : ∀ x ∈ S, x ≤ lo ∨ ∀ i, i < j → m i < x) (hP : ∀ k, k < j → xs k ≠ [] → ∀ a, P k = some a → a.block ∉ S) : Pairs w' lo j P N C xs B m F := by
  intro k hk
  obtain ⟨h1, h2, h3⟩ := h k hk
  refine ⟨h1.only ho ?_, h2.only ho ?_ (hP k hk), h3⟩
  · intro x hx hm
    have := h3 x hx
    rcases hS x hm with h | h
    · omega
    · have := h k hk; omega
  · intro hm
    have := h.lt hk
    rcases hS _ hm with h | h
    · omega
    · have := h k hk; omega
theorem Pairs.only0 {w w' : World} {lo j : Nat} {P : Nat → Option Addr} {N C : Nat → Nat} {xs : Nat → List UInt8} {B m : Nat → Nat} {F : Nat → List Nat} (h : Pairs w lo j P N C xs B m F) (ho : Only [] w w') : Pairs w' lo j P N C xs B m F := h.only ho (by simp) (by simp)
/-- pointers laid so far -/
def ptrTo (B : Nat → Nat) (j k : Nat) : Value := if k < j then .pointer (some ⟨B k, 0, none⟩) else .pointer none

theorem ptr_step (B : Nat → Nat) (j : Nat) (b k : Nat) : upd (ptrTo B j) j (.pointer (some ⟨b, 0, none⟩)) k = ptrTo (upd B j b) (j + 1) k := by
  unfold ptrTo
  by_cases h : k = j
  · subst h
    rw [upd_same, if_pos (by omega), upd_same]
  · rw [upd_other _ _ h, upd_other _ _ h]
    by_cases h2 : k < j
    · rw [if_pos h2, if_pos (by omega)]
    · rw [if_neg h2, if_neg (by omega)]
theorem Pairs.step {w : World} {lo j : Nat} {P : Nat → Option Addr} {N C : Nat → Nat} {xs : Nat → List UInt8} {B m : Nat → Nat} {F : Nat → List Nat} (h : Pairs w lo j P N C xs B m F) {b m' : Nat} {F' : List Nat} (h1 : Rr w F' b (xs j) 0) (h2 : Rf w m' (P j) (N j) (C j) (xs j) 0) (h3 : ∀ x ∈ F', lo < x ∧ x < m' ∧ ∀ i, i < j → m i < x) :
    Pairs w lo (j + 1) P N C xs (upd B j b) (upd m j m') (upd F j F') := by
  intro k hk
  by_cases e : k = j
  · subst e
    rw [upd_same, upd_same, upd_same]
    refine ⟨h1, h2, fun x hx => ?_⟩
    obtain ⟨a, b, c⟩ := h3 x hx
    exact ⟨a, b, fun i hi => by rw [upd_other _ _ (by omega)]; exact c i hi⟩
  · rw [upd_other _ _ e, upd_other _ _ e, upd_other _ _ e]
    obtain ⟨a, b, c⟩ := h k (by omega)
    exact ⟨a, b, fun x hx => ⟨(c x hx).1, (c x hx).2.1, fun i hi => by rw [upd_other _ _ (by omega)]; exact (c x hx).2.2 i hi⟩⟩

/-- the blocks of the two pairs lie apart -/
structure Dj (lo : Nat) (P : Nat → Option Addr) (xs : Nat → List UInt8) (B m : Nat → Nat) (F : Nat → List Nat) : Prop where
  hB : ∀ k, k < 2 → B k ∈ F k
  hF : ∀ k, k < 2 → ∀ x ∈ F k, lo < x ∧ x < m k ∧ ∀ i, i < k → m i < x
  hP : ∀ k, k < 2 → xs k ≠ [] → ∀ a, P k = some a → a.block < lo
theorem Dj.FB {lo : Nat} {P : Nat → Option Addr} {xs : Nat → List UInt8} {B m : Nat → Nat} {F : Nat → List Nat} (D : Dj lo P xs B m F) {i k : Nat} (hi : i < 2) (hk : k < 2) (h : i ≠ k) : ∀ x ∈ F i, x ≠ B k := by
  intro x hx
  obtain ⟨a, b, c⟩ := D.hF i hi x hx
  obtain ⟨a', b', c'⟩ := D.hF k hk _ (D.hB k hk)
  rcases Nat.lt_or_gt_of_ne h with h | h
  · have := c' i h; omega
  · have := c k h; omega
theorem Dj.mB {lo : Nat} {P : Nat → Option Addr} {xs : Nat → List UInt8} {B m : Nat → Nat} {F : Nat → List Nat} (D : Dj lo P xs B m F) {i k : Nat} (hi : i < 2) (hk : k < 2) : ∀ x ∈ F k, m i ≠ x := by
  intro x hx
  obtain ⟨a, b, c⟩ := D.hF i hi _ (D.hB i hi)
  obtain ⟨a', b', c'⟩ := D.hF k hk x hx
  rcases Nat.lt_trichotomy i k with h | h | h
  · have := c' i h; omega
  · subst h; omega
  · have := c k h; omega
theorem Dj.mm {lo : Nat} {P : Nat → Option Addr} {xs : Nat → List UInt8} {B m : Nat → Nat} {F : Nat → List Nat} (D : Dj lo P xs B m F) {i k : Nat} (hi : i < 2) (hk : k < 2) (h : i ≠ k) : m i ≠ m k := by
  obtain ⟨a, b, c⟩ := D.hF i hi _ (D.hB i hi)
  obtain ⟨a', b', c'⟩ := D.hF k hk _ (D.hB k hk)
  rcases Nat.lt_or_gt_of_ne h with h | h
  · have := c' i h; omega
  · have := c k h; omega
/-- all readers, all the document's readers -/
def RRs (w : World) (F : Nat → List Nat) (B : Nat → Nat) (xs : Nat → List UInt8) (q : Nat → Nat) : Prop := ∀ k, k < 2 → Rr w (F k) (B k) (xs k) (q k)
def RFs (w : World) (m : Nat → Nat) (P : Nat → Option Addr) (N C : Nat → Nat) (xs : Nat → List UInt8) (q : Nat → Nat) : Prop := ∀ k, k < 2 → Rf w (m k) (P k) (N k) (C k) (xs k) (q k)
section
variable {w w' : World} {lo : Nat} {P : Nat → Option Addr} {N C : Nat → Nat} {xs : Nat → List UInt8} {B m : Nat → Nat} {F : Nat → List Nat} {q : Nat → Nat}
theorem RRs.step (D : Dj lo P xs B m F) (h : RRs w F B xs q) {k z : Nat} (hk : k < 2) (ho : Only [B k] w w') (h1 : Rr w' (F k) (B k) (xs k) z) : RRs w' F B xs (upd q k z) := by
  intro i hi
  by_cases e : i = k
  · subst e; rw [upd_same]; exact h1
  · rw [upd_other _ _ e]
    exact (h i hi).only ho (fun x hx => by have := D.FB hi hk e x hx; simpa using this)
theorem RFs.keep (D : Dj lo P xs B m F) (h : RFs w m P N C xs q) {k : Nat} (hk : k < 2) (ho : Only [B k] w w') : RFs w' m P N C xs q := by
  intro i hi
  refine (h i hi).only ho (by have := D.mB hi hk _ (D.hB k hk); simpa using this) (fun hx a ha => ?_)
  have := D.hP i hi hx a ha
  have := (D.hF k hk _ (D.hB k hk)).1
  simp; omega
theorem RRs.keep (D : Dj lo P xs B m F) (h : RRs w F B xs q) {k : Nat} (hk : k < 2) (ho : Only [m k] w w') : RRs w' F B xs q := by
  intro i hi
  exact (h i hi).only ho (fun x hx => by have := D.mB hk hi x hx; simp; omega)
theorem RFs.step (D : Dj lo P xs B m F) (h : RFs w m P N C xs q) {k z : Nat} (hk : k < 2) (ho : Only [m k] w w') (h1 : Rf w' (m k) (P k) (N k) (C k) (xs k) z) : RFs w' m P N C xs (upd q k z) := by
  intro i hi
  by_cases e : i = k
  · subst e; rw [upd_same]; exact h1
  · rw [upd_other _ _ e]
    refine (h i hi).only ho (by have := D.mm hi hk e; simpa using this) (fun hx a ha => ?_)
    have := D.hP i hi hx a ha
    have := (D.hF k hk _ (D.hB k hk))
    simp; omega
theorem RRs.at (h : RRs w F B xs q) {k : Nat} (hk : k < 2) : Rr w (F k) (B k) (xs k) (q k) := h k hk
theorem RFs.at (h : RFs w m P N C xs q) {k : Nat} (hk : k < 2) : Rf w (m k) (P k) (N k) (C k) (xs k) (q k) := h k hk
theorem RRs.only0 (h : RRs w F B xs q) (ho : Only [] w w') : RRs w' F B xs q := fun i hi => (h i hi).only0 ho
theorem RFs.only0 (h : RFs w m P N C xs q) (ho : Only [] w w') : RFs w' m P N C xs q := fun i hi => (h i hi).only0 ho
end

def asks : List Op5 := [⟨4, 0, 0, none, 0, 0, []⟩, ⟨4, 1, 0, none, 0, 0, []⟩]
theorem asks_ok (w : World) : ∀ o ∈ asks, o.Ok w := by
  intro o ho
  have hz : ∀ k : Int, k = 0 ∨ k = 1 → (⟨4, k, 0, none, 0, 0, []⟩ : Op5).Ok w := fun k hk => by
    refine ⟨by simp, ?_, by simp, rfl, Nat.le_refl _, by simp, by simp, Rd.nil _ _⟩
    rcases hk with rfl | rfl <;> simp
  simp only [asks, List.mem_cons, List.not_mem_nil, or_false] at ho
  rcases ho with rfl | rfl
  · exact hz 0 (.inl rfl)
  · exact hz 1 (.inr rfl)
theorem i64_bit0 (a : Int) : ∃ k : Nat, k < 2 ∧ bits .and .i64 a 1 = (k : Int) := by
  refine ⟨((BitVec.ofInt 64 a) &&& (BitVec.ofInt 64 ((1 : Nat) : Int))).toNat, ?_, ?_⟩
  · rw [BitVec.toNat_and]
    exact Nat.lt_of_le_of_lt Nat.and_le_right (by decide)
  · show IntKind.i64.wrap (((BitVec.ofInt 64 a) &&& (BitVec.ofInt 64 ((1 : Nat) : Int))).toNat : Int) = _
    exact i64_wrap_nat _ (by rw [BitVec.toNat_and]; exact Nat.lt_of_le_of_lt Nat.and_le_right (by decide))

theorem byV_len (xs : List UInt8) (pl : Nat) (most : Int) : (byV xs pl most).length ≤ xs.length := by
  unfold byV byOk
  cases numAt xs pl with
  | none => simp
  | some z =>
    simp only [Option.bind_some]
    split
    · simp; omega
    · simp
set_option maxRecDepth 100000 in
set_option maxHeartbeats 4000000 in
theorem wireReads_any (P : Nat → Option Addr) (N C : Nat → Nat) (xs : Nat → List UInt8) (p : Option Addr) (os : List Op5) (n cp : Nat) (az : List Addr) (w : World) (hx : ∀ k, k < 2 → (xs k).length = N k ∧ N k ≤ C k ∧ C k ≤ 140737488351232 ∧ (P k = none → N k = 0 ∧ C k = 0) ∧ Rd w (P k) (u8s (xs k)))
    (hn : os.length = n) (hn20 : n * 48 ≤ 140737488351232) (hpz : p = none → n = 0 ∧ cp = 0) (hacts : Acts w p os) (hE : ErrAll w az) :
    Calls Tryd.prog 6 #[.agg #[.slice (P 0) (N 0) (C 0), .slice (P 1) (N 1) (C 1)], .slice p n cp] w fun e w' => e = .returned (.bool true) ∧ Only [] w w' := by
  have Hx := Lib.hid hx
  have Hn := Lib.hid hn
  have Hacts := Lib.hid hacts
  have Hpn := Lib.hid hpz
  clear hx hn hacts hpz
  go_enter Tryd.func6, Tryd.ntmps6
  go_wp2_with fail
  have o0 := Only.alloc w (.cells #[.slice (P 0) (N 0) (C 0), .slice (P 1) (N 1) (C 1)] 35)
  have r2 : Row _ w.heap.size 35 [.slice (P 0) (N 0) (C 0), .slice (P 1) (N 1) (C 1)] := Row.new w _ _
  generalize w.alloc (.cells #[.slice (P 0) (N 0) (C 0), .slice (P 1) (N 1) (C 1)] 35) = wa at o0 r2
  (with_reducible refine (alive05 wa).mono ?_)
  rintro e w1 ⟨rfl, o1⟩
  replace r2 := r2.only0 o1
  replace o1 := o0.trans0 o1
  clear o0
  go_wp2_with fail
  have o2 := Only.alloc w1 (.cells #[.pointer none, .pointer none] 46)
  have r5 : Row _ w1.heap.size 46 [.pointer none, .pointer none] := Row.new w1 _ _
  generalize hw2 : w1.alloc (.cells #[.pointer none, .pointer none] 46) = w2 at o2 r5
  have hs2 : w2.heap.size = w1.heap.size + 1 := by rw [← hw2]; simp
  have o3 := Only.alloc w2 (.cells #[.pointer none, .pointer none] 48)
  have r6 : Row _ w2.heap.size 48 [.pointer none, .pointer none] := Row.new w2 _ _
  generalize hw3 : w2.alloc (.cells #[.pointer none, .pointer none] 48) = w3 at o3 r6
  have hg2 : w.heap.size < w1.heap.size := r2.lt
  replace r2 := (r2.only0 o2).only0 o3
  replace r5 := r5.only0 o3
  have o13 := (o1.trans0 o2).trans0 o3
  have hg5 : w1.heap.size < w3.heap.size := r5.lt
  have hg6 : w2.heap.size < w3.heap.size := r6.lt
  generalize hG5 : w1.heap.size = g5 at *
  generalize hG6 : w2.heap.size = g6 at *
  generalize hG2 : w.heap.size = g2 at *
  subst hs2
  go_loopw [30] (fun i wr => ∃ (j : Nat) (B m : Nat → Nat) (F : Nat → List Nat), i = .int .i64 (j : Int) ∧ j ≤ 2 ∧ Only [] w wr ∧ Row wr g2 35 [.slice (P 0) (N 0) (C 0), .slice (P 1) (N 1) (C 1)] ∧ Row wr g5 46 [ptrTo B j 0, ptrTo B j 1] ∧ Row wr (g5 + 1) 48 [ptrTo m j 0, ptrTo m j 1] ∧ Pairs wr (g5 + 1) j P N C xs B m F) (fun i _ => 2 - (intOf i).toNat)
  case atStart => exact ⟨0, fun _ => 0, fun _ => 0, fun _ => [], rfl, by omega, o13, r2, r5, r6, fun k hk => by omega⟩
  case round =>
    obtain ⟨j, B, m, F, rfl, hj, ho, r2, r5, r6, hp⟩ := hrel
    have hgl := r6.lt
    by_cases hlt : j < 2
    -- FIRST
    · have hc2 := r2.cell (get2 (fun k => Value.slice (P k) (N k) (C k)) hlt)
      obtain ⟨hxl, hnc, hc20, hpz, hrd⟩ := Hx.out j hlt
      have Hxl := Lib.hid hxl
      have Hpz := Lib.hid hpz
      clear hxl hpz
      go_wp2_with fail
      (with_reducible refine (bytes_any (P j) (xs j) (N j) (C j) wr Hxl.out (by omega) Hpz.out (hrd.only0 ho)).mono ?_)
      rintro e wb ⟨g8, rfl, hg8, r8, ob⟩
      go_wp2_with fail
      have rd8 : Rd wb (some ⟨g8, 0, none⟩) (u8s (xs j)) := by
        have := r8.rd0.take (N j)
        rw [u8s_take, List.take_left' Hxl.out] at this
        exact this
      (with_reducible refine (newReader (some ⟨g8, 0, none⟩) (xs j) (N j) (N j + 6) wb Hxl.out (by omega) (by simp) rd8).mono ?_)
      rintro e wc ⟨b, F', rfl, hrr, oc, hF'⟩
      have obc := ob.trans0 oc
      replace r2 := r2.only0 obc
      replace r5 := r5.only0 obc
      replace r6 := r6.only0 obc
      have hc5 := r5.cell (get2 (ptrTo B j) hlt)
      have hf5 := r5.free j
      have r8c := r8.only0 oc
      have o5 : Only [g5] wc (wc.setCell ⟨g5, j, none⟩ (.pointer (some ⟨b, 0, none⟩))) := Only.setCell wc ⟨g5, j, none⟩ _
      have o6 : Only [] (wc.setCell ⟨g5, j, none⟩ (.pointer (some ⟨b, 0, none⟩))) ((wc.setCell ⟨g5, j, none⟩ (.pointer (some ⟨b, 0, none⟩))).alloc (.cells #[.slice (P j) (N j) (C j), .int .i64 0] 51)) := Only.alloc _ _
      have o7 : Only [g5 + 1] ((wc.setCell ⟨g5, j, none⟩ (.pointer (some ⟨b, 0, none⟩))).alloc (.cells #[.slice (P j) (N j) (C j), .int .i64 0] 51)) (((wc.setCell ⟨g5, j, none⟩ (.pointer (some ⟨b, 0, none⟩))).alloc (.cells #[.slice (P j) (N j) (C j), .int .i64 0] 51)).setCell ⟨g5 + 1, j, none⟩ (.pointer (some ⟨wc.heap.size, 0, none⟩))) := Only.setCell ((wc.setCell ⟨g5, j, none⟩ (.pointer (some ⟨b, 0, none⟩))).alloc (.cells #[.slice (P j) (N j) (C j), .int .i64 0] 51)) ⟨g5 + 1, j, none⟩ _
      have hN : Row ((wc.setCell ⟨g5, j, none⟩ (.pointer (some ⟨b, 0, none⟩))).alloc (.cells #[.slice (P j) (N j) (C j), .int .i64 0] 51)) wc.heap.size 51 [.slice (P j) (N j) (C j), .int .i64 0] := Row.newAt (wc.setCell ⟨g5, j, none⟩ (.pointer (some ⟨b, 0, none⟩))) _ _ (by simp)
      have r2a := r2.only o5 (by simp; omega)
      have r2b := (r2a.only0 o6).only o7 (by simp; omega)
      have r5a := r5.setCell j (.pointer (some ⟨b, 0, none⟩))
      have r5b := (r5a.only0 o6).only o7 (by simp)
      have r6a := (r6.only o5 (by simp)).only0 o6
      have r6b := r6a.setCell j (.pointer (some ⟨wc.heap.size, 0, none⟩))
      rw [set2 (ptrTo B j) j hlt, ptr_step, ptr_step] at r5b
      rw [set2 (ptrTo m j) j hlt, ptr_step, ptr_step] at r6b
      have hc2a := r2a.cell (get2 (fun k => Value.slice (P k) (N k) (C k)) hlt)
      have hc2b := r2b.cell (get2 (fun k => Value.slice (P k) (N k) (C k)) hlt)
      have hc6 := r6a.cell (get2 (ptrTo m j) hlt)
      have hf6 := r6a.free j
      have hc5b := r5b.cell (get2 (ptrTo (upd B j b) (j + 1)) hlt)
      rw [ptrTo, if_pos (by omega), upd_same] at hc5b
      go_wp2_with fail
      have ocd : Only [g5, g5 + 1] wc (((wc.setCell ⟨g5, j, none⟩ (.pointer (some ⟨b, 0, none⟩))).alloc (.cells #[.slice (P j) (N j) (C j), .int .i64 0] 51)).setCell ⟨g5 + 1, j, none⟩ (.pointer (some ⟨wc.heap.size, 0, none⟩))) := ((o5.mono (by simp)).trans0 o6).trans o7 (by simp)
      have hsz : wc.heap.size + 1 = (((wc.setCell ⟨g5, j, none⟩ (.pointer (some ⟨b, 0, none⟩))).alloc (.cells #[.slice (P j) (N j) (C j), .int .i64 0] 51)).setCell ⟨g5 + 1, j, none⟩ (.pointer (some ⟨wc.heap.size, 0, none⟩))).heap.size := by simp
      have hNd := hN.only o7 (by have := obc.size; simp; omega)
      clear o5 o6 o7 hN hc2a hc2b hc6 hf6 hc5b r2a r5a r6a hc5 hf5 r2 r5 r6
      generalize (((wc.setCell ⟨g5, j, none⟩ (.pointer (some ⟨b, 0, none⟩))).alloc (.cells #[.slice (P j) (N j) (C j), .int .i64 0] 51)).setCell ⟨g5 + 1, j, none⟩ (.pointer (some ⟨wc.heap.size, 0, none⟩))) = wd at *
      have obd : Only [g5, g5 + 1] wr wd := (obc.mono (by simp)).trans ocd (fun i hi _ => hi)
      have ho2 : Only [] w wd := ho.transN obd (by intro x hx; simp at hx; omega)
      have hobc := obc.size
      have hob := ob.size
      have r8d := r8c.only ocd (by simp; omega)
      have hrrd := hrr.only ocd (by intro x hx; have := hF' x hx; simp; omega)
      have hRf : Rf wd wc.heap.size (P j) (N j) (C j) (xs j) 0 := ⟨hNd, hrd.only0 ho2, Hxl.out, hnc, by omega, Hpz.out, fun hx a ha => by have := hrd.old hx a ha; omega, Nat.zero_le _⟩
      have hpd := hp.only obd (by intro x hx; simp at hx; exact .inl (by omega)) (fun k hk hx a ha => by have := ((Hx.out k (by omega)).2.2.2.2).old hx a ha; simp; omega)
      (with_reducible refine (kept_any g8 (P j) (xs j) (N j) (C j) (N j) wd Hxl.out (by omega) Hpz.out (by omega) r8d (hrd.only0 ho2)).mono ?_)
      rintro e we ⟨rfl, ⟨dn, rfl⟩⟩
      have ode := Only.drewN wd dn
      replace r8d := r8d.only0 ode
      replace r2b := r2b.only0 ode
      replace r5b := r5b.only0 ode
      replace r6b := r6b.only0 ode
      replace hrrd := hrrd.only0 ode
      replace hRf := hRf.only0 ode
      replace hpd := Pairs.only0 hpd ode
      replace ho2 := ho2.trans0 ode
      have hse : (wd.drewN dn).heap.size = wd.heap.size := rfl
      generalize wd.drewN dn = we at ode r8d r2b r5b r6b hrrd hRf hpd ho2 hse
      have hlt8 := r8.lt
      have hF8 : ∀ x ∈ F', g8 < x ∧ g5 + 1 < x ∧ x < wc.heap.size ∧ wr.heap.size ≤ x := fun x hx => by have := hF' x hx; have := hrr.lt x hx; omega
      have hm8 : ∀ i, i < j → m i < wr.heap.size := fun i hi => (Pairs.lt hp hi).2.2
      have hoc := oc.size
      clear hrr r8c r8 rd8 hNd hp hF'
      have Hall := Lib.hid (And.intro hrrd (And.intro hRf hpd))
      clear hrrd hRf hpd
      go_wp2_with fail
      go_loopw [62] (fun i wr => ∃ (k : Nat) (ys : List UInt8), i = .int .i64 (k : Int) ∧ k ≤ N j ∧ Hid (ys.length = N j + 6) ∧ Row wr g8 5 (u8s ys) ∧ Only [g8] we wr) (fun i _ => N j - (intOf i).toNat)
      case atStart => exact ⟨0, xs j ++ marks, rfl, Nat.zero_le _, Lib.hid (by rw [List.length_append, Hxl.out]; rfl), r8d, Only.refl _ _⟩
      case round =>
        obtain ⟨k, ys, rfl, hk, Hy, r8e, o8⟩ := hrel
        by_cases hkn : k < N j
        · have hky : k < ys.length := by rw [Hy.out]; omega
          have hc := r8e.bytes hky
          have hf := r8e.free k
          have hx55 := u8_xor55 ys[k]
          go_wp2_with fail
          go_roundw
          case rel => exact ⟨k + 1, ys.set k (ys[k] ^^^ 55), by go_num, by omega, Lib.hid (by rw [List.length_set]; exact Hy.out), by rw [← u8s_set]; exact r8e.setCell k _, o8.trans (Only.setCell _ _ _) (by simp)⟩
          case measure => simp [intOf]; omega
        · obtain rfl : k = N j := by omega
          go_wp2_with fail
          go_roundw
          case rel =>
            obtain ⟨hrrd, hRf, hpd⟩ := Hall.out
            refine ⟨j + 1, upd B j b, upd m j wc.heap.size, upd F j F', by go_num, by omega, ho2.transN o8 (by intro x hx; simp at hx; omega), r2b.only o8 (by simp; omega), r5b.only o8 (by simp; omega), r6b.only o8 (by simp; omega), ?_⟩
            refine Pairs.step (Pairs.only hpd o8 ?_ ?_) (hrrd.only o8 ?_) (hRf.only o8 ?_ ?_) ?_
            · intro x hx
              obtain rfl : x = g8 := by simpa using hx
              exact .inr fun i hi => by have := hm8 i hi; omega
            · intro k hk hx a ha; have := ((Hx.out k (by omega)).2.2.2.2).old hx a ha; simp; omega
            · intro x hx; have := hF8 x hx; simp; omega
            · simp; omega
            · intro hx a ha; have := hrd.old hx a ha; simp; omega
            · intro x hx
              have := hF8 x hx
              refine ⟨by omega, by omega, fun i hi => ?_⟩
              have := hm8 i hi
              omega
          case measure => simp [intOf]; omega
    -- ENDFIRST
    · obtain rfl : j = 2 := by omega
      have r5' : Row wr g5 46 [.pointer (some ⟨B 0, 0, none⟩), .pointer (some ⟨B 1, 0, none⟩)] := r5
      have r6' : Row wr (g5 + 1) 48 [.pointer (some ⟨m 0, 0, none⟩), .pointer (some ⟨m 1, 0, none⟩)] := r6
      have dj : Dj (g5 + 1) P xs B m F := ⟨fun k hk => (hp k hk).1.head, fun k hk => (hp k hk).2.2, fun k hk hx a ha => by have := ((Hx.out k hk).2.2.2.2).old hx a ha; omega⟩
      have hRR : RRs wr F B xs (fun _ => 0) := fun k hk => (hp k hk).1
      have hRF : RFs wr m P N C xs (fun _ => 0) := fun k hk => (hp k hk).2.1
      have hmlt : ∀ k, k < 2 → m k < wr.heap.size := fun k hk => (hp.lt hk).2.2
      have oE := Only.alloc wr (.cells #[] 38)
      obtain ⟨p1, c1, wA, Hr1, ow1, oA⟩ := acts_append (w0 := wr) (m := n) (c := cp) (os := []) (rs := os) _ (OwnK.new (n := 0) [] (Nat.le_refl _) rfl (by omega)) oE (Hacts.out.only0 (ho.trans0 oE)).rd Hn.out Hpn.out (by omega)
      rw [Nat.zero_add, List.nil_append] at *
      have oB := Only.alloc wA (.cells #[.int .i64 4, .int .i64 0, .int .i64 0, .slice none 0 0, .int .i64 4, .int .i64 1, .int .i64 0, .slice none 0 0] 38)
      have rB : Row _ wA.heap.size 38 (opsFlat asks) := Row.new wA _ _
      obtain ⟨p2, c2, wz, Hr2, ow2, oz⟩ := acts_append (w0 := wr) (m := 2) (c := 2) (os := os) (rs := asks) _ (ow1.only0 oB) (oA.trans0 oB) rB.rd0 rfl (by simp) (by omega)
      have hwz := Only.size oz
      have hacts : Acts wz p2 (os ++ asks) := acts_of ow2.view.2.2.1 (fun o ho' => by
        rcases List.mem_append.1 ho' with h | h
        · exact (Hacts.out.ok o h).only0 (ho.trans0 oz)
        · exact asks_ok wz o h)
      have hb2 : ∀ x ∈ blk p2, wr.heap.size ≤ x := fun x hx => (ow2.view.2.2.2.2.2.2 x hx).1
      have hl2 : (os ++ asks).length = n + 2 := by rw [List.length_append, Hn.out]; rfl
      generalize hn2 : n + 2 = n2 at *
      have hn22 : n2 ≤ 2932031007405 := by omega
      generalize hos2 : os ++ asks = os2 at *
      have Hl2 := Lib.hid hl2
      have Hacts2 := Lib.hid hacts
      clear hos2 hl2 hacts ow2 rB ow1 r5 r6
      replace r5' := r5'.only0 oz
      replace r6' := r6'.only0 oz
      replace hRR := hRR.only0 oz
      replace hRF := hRF.only0 oz
      have hE' := hE.only0 (ho.trans0 oz)
      go_wp2_with (first | (at_builtin; refine wpl_append (s := .tmp 73) (x := .tmp 74) rfl rfl rfl rfl Hr1.out ?_) | (at_builtin; refine wpl_append (s := .tmp 75) (x := .tmp 78) rfl rfl rfl rfl Hr2.out ?_))
      clear Hr1 Hr2 oA oB oE hp
      have hS : ∀ x ∈ [B 0, B 1, m 0, m 1], g5 + 1 < x ∧ x < wr.heap.size := by
        intro x hx
        have hB := fun k hk => (dj.hF k hk _ (dj.hB k hk))
        have h0 := hB 0 (by omega)
        have h1 := hB 1 (by omega)
        have h2 := hmlt 0 (by omega)
        have h3 := hmlt 1 (by omega)
        simp at hx; omega
      have hg56 : ∀ k, g5 + k ∉ [B 0, B 1, m 0, m 1] ∨ 1 < k := fun k => by
        rcases Nat.lt_or_ge 1 k with h | h
        · exact .inr h
        · exact .inl fun hm => by have := hS _ hm; omega
      have how0 := ho.trans0 oz
      have hwS : ∀ x ∈ [B 0, B 1, m 0, m 1], w.heap.size ≤ x := fun x hx => by have := hS x hx; omega
      have hSz : ∀ x ∈ [B 0, B 1, m 0, m 1], x < wz.heap.size := fun x hx => by have := hS x hx; omega
      have hSg : ∀ x ∈ [B 0, B 1, m 0, m 1], g5 + 1 < x := fun x hx => (hS x hx).1
      have hbS : ∀ x ∈ blk p2, x ∉ [B 0, B 1, m 0, m 1] := fun x hx hm => by have := hS _ hm; have := hb2 _ hx; omega
      clear hS hb2 ho oz o1 o13 o2 o3 hw2 hw3 hg5 hg6 hgl hG2 hG5 hmlt hE' Hn Hacts Hpn hn20 hn2 hg2
      go_loopw [81] (fun i wr' => ∃ (j : Nat) (q : Nat → Nat), i = .int .i64 (j : Int) ∧ j ≤ n2 ∧ Only [B 0, B 1, m 0, m 1] wz wr' ∧ RRs wr' F B xs q ∧ RFs wr' m P N C xs q) (fun i _ => n2 - (intOf i).toNat)
      case atStart => exact ⟨0, fun _ => 0, rfl, Nat.zero_le _, Only.refl _ _, hRR, hRF⟩
      case round =>
        obtain ⟨j, q, rfl, hj, oq, hrr, hrf⟩ := hrel
        by_cases hlt : j < n2
        · obtain ⟨o, hoj⟩ : ∃ o, os2[j]? = some o := ⟨_, List.getElem?_eq_getElem (by rw [Hl2.out]; exact hlt)⟩
          obtain ⟨b2, off2, rfl, hok, _⟩ := Hacts2.out j o hoj
          obtain ⟨b2', off2', e2, hok, hc0, hc1, hc2, hc3⟩ := Hacts2.out j o hoj
          obtain ⟨rfl, rfl, -⟩ : b2 = b2' ∧ off2 = off2' ∧ True := by simpa using e2
          have hb2S : b2 ∉ [B 0, B 1, m 0, m 1] := hbS b2 (by simp [blk])
          replace hc0 := oq.cell hc0 hb2S
          replace hc1 := oq.cell hc1 hb2S
          replace hc2 := oq.cell hc2 hb2S
          replace hc3 := oq.cell hc3 hb2S
          obtain ⟨k, hk2, hbit⟩ := i64_bit0 o.which
          have Hok := Lib.hid hok
          clear hok hoj e2
          have hcR := oq.cell (r5'.cell (get2 (fun k => Value.pointer (some ⟨B k, 0, none⟩)) hk2)) ((hg56 0).resolve_right (by omega))
          have hcM := oq.cell (r6'.cell (get2 (fun k => Value.pointer (some ⟨m k, 0, none⟩)) hk2)) ((hg56 1).resolve_right (by omega))
          obtain ⟨hxl, hnc, hc20, hpz, hrd⟩ := Hx.out k hk2
          have rn : Row (wr.alloc (.cells #[.int .i64 o.kind, .int .i64 o.which, .int .i64 o.n, .slice o.p o.m o.c] 38)) wr.heap.size 38 o.cells := Row.new wr _ _
          have on : Only [] wr (wr.alloc (.cells #[.int .i64 o.kind, .int .i64 o.which, .int .i64 o.n, .slice o.p o.m o.c] 38)) := Only.alloc wr _
          have oqn := oq.trans0 on
          replace hrr := hrr.only0 on
          replace hrf := hrf.only0 on
          have hcR' := on.cell hcR (by simp)
          have hcM' := on.cell hcM (by simp)
          have hE'' := hE.only0 (how0.transN oqn hwS)
          have hki : (k : Int) < 2 := by omega
          have hN : N k ≤ 140737488351232 := by omega
          have hgB : g5 + 1 < B k ∧ B k < wr.heap.size := by
            have h1 : B k ∈ [B 0, B 1, m 0, m 1] := by
              match k, hk2 with
              | 0, _ => simp
              | 1, _ => simp
            have := hSz _ h1
            have := oq.size
            exact ⟨hSg _ h1, by omega⟩
          have hgm : g5 + 1 < m k ∧ m k < wr.heap.size := by
            have h1 : m k ∈ [B 0, B 1, m 0, m 1] := by
              match k, hk2 with
              | 0, _ => simp
              | 1, _ => simp
            have := hSz _ h1
            have := oq.size
            exact ⟨hSg _ h1, by omega⟩
          have hBm : B k ∈ [B 0, B 1, m 0, m 1] := by
            match k, hk2 with
            | 0, _ => simp
            | 1, _ => simp
          have hmm : m k ∈ [B 0, B 1, m 0, m 1] := by
            match k, hk2 with
            | 0, _ => simp
            | 1, _ => simp
          clear hcR hcM on oq hbS hSz hSg hg56 hb2S Hacts2 Hx hnc hc20
          go_wp2_with fail
          · generalize (wr.alloc (.cells #[.int .i64 o.kind, .int .i64 o.which, .int .i64 o.n, .slice o.p o.m o.c] 38)) = wn at *
            clear hki
            have hcN := rn.cell (i := 2) rfl
            have hsz := rn.lt
            obtain ⟨Z25, hZ25⟩ : ∃ Z : World → Prop, Z = fun w => Rr w (F k) (B k) (xs k) (numQ (xs k) (q k) o.n) := ⟨_, rfl⟩
            have hRr := Rz.refl [B k] Z25
            have hRt := Rz.trans (D := [B k]) (Z := Z25)
            have hRd : Rz [B k] Z25 wn wn.drew := ⟨(Only.drew _).mono (by simp), fun h => by rw [hZ25] at h ⊢; exact h.only0 (Only.drew _)⟩
            have hC0 : (fun a => Only [] wn a) wn.drew := Only.drew _
            -- <<r25
            refine wp_region_rg3 (Rz [B k] Z25) (fun a => Only [] wn a) [5] [[(12, none)], [(5, none), (93, some 0)], [(94, some 0)], [(11, none)], [(96, some 0)], [(95, some 2), (97, some 0)], [(98, some 0)], [(92, some 0)], [(92, some 1)], [(99, some 1)], [(100, some 1)]] [(13, 1), (14, 0)] [none, none, none, none, none, none, none, none, none, none, none, none, none, some 13, some 14, none, none, none, none, none, none, none, none, none, none, none, none, none, none, none, none, none, none, none, none, none, none, none, none, none, none, none, none, none, none, none, none, none, none, none, none, none, none, none, none, none, none, none, none, none, none, none, none, none, none, none, none, none, none, none, none, none, none, none, none, none, none, none, none, none, none, none, none, none, none, none, none, none, none, none, none, none, some 92, some 93, some 94, some 95, some 96, some 97, some 98, some 99, some 100, none, none, none, none, none, none, none, none, none, none, none, none, none, none, none, none, none, none, none, none, none, none, none, none, none, none, none, none, none, none, none, none, none, none, none, none, none, none, none, none, none, none, none, none, none, none, none, none, none, none, none, none, none, none, none, none, none, none, none, none, none, none, none, none, none, none, none, none, none, none, none, none, none, none, none, none, none, none, none, none, none, none, none, none, none, none, none, none, none, none, none, none, none, none, none, none, none, none, none, none, none, none, none, none, none, none, none, none, none, none, none, none, none, none, none, none, none, none, none, none, none, none, none, none, none, none, none, none, none, none, none, none, none, none, none, none, none] (by kernel_rfl) rfl (by kernel_rfl) hRr hRt hRd hC0 (by kernel_rfl) (by kernel_rfl) ?_
            -- 0: s93 := move t12
            apply rgc_ev
            · intro a w hR hC hf
              obtain ⟨e12, -⟩ := hf
              replace e12 : a.tmps.getD 12 undef = _ := e12
              refine rg_plain rfl fun K hK => ?_
              go_simp
              exact hK _ _ rfl ⟨hRr _, fun _ h => h⟩
            -- 1: s94 := indexAddr 46 t5 t93
            apply rgc_ev
            · intro a w hR hC hf
              obtain ⟨e5, e93, -⟩ := hf
              replace e5 : a.tmps.getD 5 undef = _ := e5
              replace e93 : a.tmps.getD 93 undef = _ := e93
              refine rg_plain rfl fun K hK => ?_
              have hki : (k : Int) < 2 := by omega
              go_simp
              exact hK _ _ rfl ⟨hRr _, fun _ h => h⟩
            -- 2: s95 := load 45 t94
            apply rgc_ev
            · intro a w hR hC hf
              obtain ⟨e94, -⟩ := hf
              replace e94 : a.tmps.getD 94 undef = _ := e94
              refine rg_plain rfl fun K hK => ?_
              have h2c := hR.1.cell hcR' (by simp; omega)
              go_simp
              exact hK _ _ rfl ⟨hRr _, fun _ h => h⟩
            -- 3: s96 := fieldAddr 38 t11 2
            apply rgc_ev
            · intro a w hR hC hf
              obtain ⟨e11, -⟩ := hf
              replace e11 : a.tmps.getD 11 undef = _ := e11
              refine rg_plain rfl fun K hK => ?_
              go_simp
              exact hK _ _ rfl ⟨hRr _, fun _ h => h⟩
            -- 4: s97 := load 3 t96
            apply rgc_ev
            · intro a w hR hC hf
              obtain ⟨e96, -⟩ := hf
              replace e96 : a.tmps.getD 96 undef = _ := e96
              refine rg_plain rfl fun K hK => ?_
              have h4c := hR.1.cell hcN (by simp; omega)
              go_simp
              exact hK _ _ rfl ⟨hRr _, fun _ h => h⟩
            -- 5: s98 := call { value (Operand.func 22), args := #[t95, t97], #[45, 3] }
            refine ⟨Tup2 (EV (.int .i64 (numV (xs k) (q k) o.n : Int))) (AndZ (ErrNo az (numE (xs k) (q k) o.n)) Z25), Tup2.stable (EV.stable _) (AndZ.stable _ _ _), fun a w hR hC hf => ?_, ?_⟩
            · obtain ⟨e95, e97, -⟩ := hf
              replace e95 : a.tmps.getD 95 undef = _ := e95
              replace e97 : a.tmps.getD 97 undef = _ := e97
              refine rg_plain rfl fun K hK => ?_
              replace hC := hC (by kernel_rfl)
              go_simp
              (with_reducible refine (rdNum_any w (F k) (B k) (xs k) (q k) o.n az (hE''.only0 hC) ((hrr.at hk2).only0 hC) (by omega)).mono ?_)
              rintro e w' ⟨v, rfl, h1, h2, h3⟩
              exact hK _ _ ⟨_, _, rfl, rfl, h1, by rw [hZ25]; exact h2⟩ ⟨⟨h3, fun _ => by rw [hZ25]; exact h2⟩, fun h => Bool.noConfusion (h.symm.trans (by kernel_rfl : _ = true))⟩
            -- 6: s92 := move t98
            refine ⟨Tup2 (EV (.int .i64 (numV (xs k) (q k) o.n : Int))) (AndZ (ErrNo az (numE (xs k) (q k) o.n)) Z25), Tup2.stable (EV.stable _) (AndZ.stable _ _ _), fun a w hR hC hf => ?_, ?_⟩
            · obtain ⟨e98, -⟩ := hf
              replace e98 : Tup2 (EV (.int .i64 (numV (xs k) (q k) o.n : Int))) (AndZ (ErrNo az (numE (xs k) (q k) o.n)) Z25) (a.tmps.getD 98 undef) w := e98
              refine rg_plain rfl fun K hK => ?_
              generalize hv98 : a.tmps.getD 98 undef = v98 at e98
              go_simp
              exact hK _ _ e98 ⟨hRr _, fun _ h => h⟩
            -- 7: s99 := extract t92 0
            apply rgc_ev
            · intro a w hR hC hf
              obtain ⟨e92, -⟩ := hf
              replace e92 : Tup2 (EV (.int .i64 (numV (xs k) (q k) o.n : Int))) (AndZ (ErrNo az (numE (xs k) (q k) o.n)) Z25) (a.tmps.getD 92 undef) w := e92
              refine rg_plain rfl fun K hK => ?_
              obtain ⟨x, y, e92, a92, z92⟩ := e92
              obtain rfl := a92
              go_simp
              exact hK _ _ rfl ⟨hRr _, fun _ h => h⟩
            -- 8: s100 := extract t92 1
            refine ⟨AndZ (ErrNo az (numE (xs k) (q k) o.n)) Z25, AndZ.stable _ _ _, fun a w hR hC hf => ?_, ?_⟩
            · obtain ⟨e92, -⟩ := hf
              replace e92 : Tup2 (EV (.int .i64 (numV (xs k) (q k) o.n : Int))) (AndZ (ErrNo az (numE (xs k) (q k) o.n)) Z25) (a.tmps.getD 92 undef) w := e92
              refine rg_plain rfl fun K hK => ?_
              obtain ⟨x, y, e92, a92, z92⟩ := e92
              go_simp
              exact hK _ _ z92 ⟨hRr _, fun _ h => h⟩
            -- 9: s13 := assign t99
            apply rgc_ev
            · intro a w hR hC hf
              obtain ⟨e99, -⟩ := hf
              replace e99 : a.tmps.getD 99 undef = _ := e99
              refine rg_plain rfl fun K hK => ?_
              go_simp
              exact hK _ _ rfl ⟨hRr _, fun _ h => h⟩
            -- 10: s14 := assign t100
            refine ⟨AndZ (ErrNo az (numE (xs k) (q k) o.n)) Z25, AndZ.stable _ _ _, fun a w hR hC hf => ?_, ?_⟩
            · obtain ⟨e100, -⟩ := hf
              replace e100 : AndZ (ErrNo az (numE (xs k) (q k) o.n)) Z25 (a.tmps.getD 100 undef) w := e100
              refine rg_plain rfl fun K hK => ?_
              generalize hv100 : a.tmps.getD 100 undef = v100 at e100
              go_simp
              exact hK _ _ e100 ⟨hRr _, fun _ h => h⟩
            intro f25 w25 hR25 hf
            dsimp only [mergeT]
            obtain ⟨e13, e14, -⟩ := hf
            replace e13 : f25 13 = _ := e13
            rw [e13]
            replace e14 : AndZ (ErrNo az (numE (xs k) (q k) o.n)) Z25 (f25 14) w25 := e14
            -- r25>>
            clear hRr hRt hRd hC0
            obtain ⟨ev14, hz25⟩ := e14
            rw [hZ25] at hz25
            have o25 := hR25.1
            clear hR25
            generalize f25 14 = v14 at ev14
            have rr25 := RRs.step dj hrr hk2 o25 hz25
            have rf25 := RFs.keep dj hrf hk2 o25
            have hcM25 := o25.cell hcM' (by simp; omega)
            have hcN25 := o25.cell hcN (by simp; omega)
            go_wp2_with fail
            obtain ⟨Z26, hZ26⟩ : ∃ Z : World → Prop, Z = fun w => Rf w (m k) (P k) (N k) (C k) (xs k) (numQ (xs k) (q k) o.n) := ⟨_, rfl⟩
            have hRr := Rz.refl [m k] Z26
            have hRt := Rz.trans (D := [m k]) (Z := Z26)
            have hRd : Rz [m k] Z26 w25 w25.drew := ⟨(Only.drew _).mono (by simp), fun h => by rw [hZ26] at h ⊢; exact h.only0 (Only.drew _)⟩
            have hC0 : (fun a => Only [] w25 a) w25.drew := Only.drew _
            -- <<r26
            refine wp_region_rg3 (Rz [m k] Z26) (fun a => Only [] w25 a) [5] [[(12, none)], [(6, none), (102, some 0)], [(103, some 0)], [(11, none)], [(105, some 0)], [(104, some 2), (106, some 0)], [(107, some 0)], [(101, some 0)], [(101, some 1)], [(108, some 1)], [(109, some 1)]] [(15, 1), (16, 0)] [none, none, none, none, none, none, none, none, none, none, none, none, none, none, none, some 15, some 16, none, none, none, none, none, none, none, none, none, none, none, none, none, none, none, none, none, none, none, none, none, none, none, none, none, none, none, none, none, none, none, none, none, none, none, none, none, none, none, none, none, none, none, none, none, none, none, none, none, none, none, none, none, none, none, none, none, none, none, none, none, none, none, none, none, none, none, none, none, none, none, none, none, none, none, none, none, none, none, none, none, none, none, none, some 101, some 102, some 103, some 104, some 105, some 106, some 107, some 108, some 109, none, none, none, none, none, none, none, none, none, none, none, none, none, none, none, none, none, none, none, none, none, none, none, none, none, none, none, none, none, none, none, none, none, none, none, none, none, none, none, none, none, none, none, none, none, none, none, none, none, none, none, none, none, none, none, none, none, none, none, none, none, none, none, none, none, none, none, none, none, none, none, none, none, none, none, none, none, none, none, none, none, none, none, none, none, none, none, none, none, none, none, none, none, none, none, none, none, none, none, none, none, none, none, none, none, none, none, none, none, none, none, none, none, none, none, none, none, none, none, none, none, none, none, none, none, none, none, none] (by kernel_rfl) rfl (by kernel_rfl) hRr hRt hRd hC0 (by kernel_rfl) (by kernel_rfl) ?_
            -- 0: s102 := move t12
            apply rgc_ev
            · intro a w hR hC hf
              obtain ⟨e12, -⟩ := hf
              replace e12 : a.tmps.getD 12 undef = _ := e12
              refine rg_plain rfl fun K hK => ?_
              go_simp
              exact hK _ _ rfl ⟨hRr _, fun _ h => h⟩
            -- 1: s103 := indexAddr 48 t6 t102
            apply rgc_ev
            · intro a w hR hC hf
              obtain ⟨e6, e102, -⟩ := hf
              replace e6 : a.tmps.getD 6 undef = _ := e6
              replace e102 : a.tmps.getD 102 undef = _ := e102
              refine rg_plain rfl fun K hK => ?_
              have hki : (k : Int) < 2 := by omega
              go_simp
              exact hK _ _ rfl ⟨hRr _, fun _ h => h⟩
            -- 2: s104 := load 47 t103
            apply rgc_ev
            · intro a w hR hC hf
              obtain ⟨e103, -⟩ := hf
              replace e103 : a.tmps.getD 103 undef = _ := e103
              refine rg_plain rfl fun K hK => ?_
              have h2c := hR.1.cell hcM25 (by simp; omega)
              go_simp
              exact hK _ _ rfl ⟨hRr _, fun _ h => h⟩
            -- 3: s105 := fieldAddr 38 t11 2
            apply rgc_ev
            · intro a w hR hC hf
              obtain ⟨e11, -⟩ := hf
              replace e11 : a.tmps.getD 11 undef = _ := e11
              refine rg_plain rfl fun K hK => ?_
              go_simp
              exact hK _ _ rfl ⟨hRr _, fun _ h => h⟩
            -- 4: s106 := load 3 t105
            apply rgc_ev
            · intro a w hR hC hf
              obtain ⟨e105, -⟩ := hf
              replace e105 : a.tmps.getD 105 undef = _ := e105
              refine rg_plain rfl fun K hK => ?_
              have h4c := hR.1.cell hcN25 (by simp; omega)
              go_simp
              exact hK _ _ rfl ⟨hRr _, fun _ h => h⟩
            -- 5: s107 := call { value (Operand.func 23), args := #[t104, t106], #[47, 3] }
            refine ⟨Tup2 (EV (.int .i64 (numV (xs k) (q k) o.n : Int))) (AndZ (fun v => v = .int .i64 (numE (xs k) (q k) o.n : Int)) Z26), Tup2.stable (EV.stable _) (AndZ.stable _ _ _), fun a w hR hC hf => ?_, ?_⟩
            · obtain ⟨e104, e106, -⟩ := hf
              replace e104 : a.tmps.getD 104 undef = _ := e104
              replace e106 : a.tmps.getD 106 undef = _ := e106
              refine rg_plain rfl fun K hK => ?_
              replace hC := hC (by kernel_rfl)
              go_simp
              (with_reducible refine (rfNum_any w (m k) (P k) (xs k) (N k) (C k) (q k) o.n ((rf25.at hk2).only0 hC) (by omega)).mono ?_)
              rintro e w' ⟨rfl, h2, h3⟩
              exact hK _ _ ⟨_, _, rfl, rfl, rfl, by rw [hZ26]; exact h2⟩ ⟨⟨h3, fun _ => by rw [hZ26]; exact h2⟩, fun h => Bool.noConfusion (h.symm.trans (by kernel_rfl : _ = true))⟩
            -- 6: s101 := move t107
            refine ⟨Tup2 (EV (.int .i64 (numV (xs k) (q k) o.n : Int))) (AndZ (fun v => v = .int .i64 (numE (xs k) (q k) o.n : Int)) Z26), Tup2.stable (EV.stable _) (AndZ.stable _ _ _), fun a w hR hC hf => ?_, ?_⟩
            · obtain ⟨e107, -⟩ := hf
              replace e107 : Tup2 (EV (.int .i64 (numV (xs k) (q k) o.n : Int))) (AndZ (fun v => v = .int .i64 (numE (xs k) (q k) o.n : Int)) Z26) (a.tmps.getD 107 undef) w := e107
              refine rg_plain rfl fun K hK => ?_
              generalize hv107 : a.tmps.getD 107 undef = v107 at e107
              go_simp
              exact hK _ _ e107 ⟨hRr _, fun _ h => h⟩
            -- 7: s108 := extract t101 0
            apply rgc_ev
            · intro a w hR hC hf
              obtain ⟨e101, -⟩ := hf
              replace e101 : Tup2 (EV (.int .i64 (numV (xs k) (q k) o.n : Int))) (AndZ (fun v => v = .int .i64 (numE (xs k) (q k) o.n : Int)) Z26) (a.tmps.getD 101 undef) w := e101
              refine rg_plain rfl fun K hK => ?_
              obtain ⟨x, y, e101, a101, z101⟩ := e101
              obtain rfl := a101
              go_simp
              exact hK _ _ rfl ⟨hRr _, fun _ h => h⟩
            -- 8: s109 := extract t101 1
            refine ⟨AndZ (fun v => v = .int .i64 (numE (xs k) (q k) o.n : Int)) Z26, AndZ.stable _ _ _, fun a w hR hC hf => ?_, ?_⟩
            · obtain ⟨e101, -⟩ := hf
              replace e101 : Tup2 (EV (.int .i64 (numV (xs k) (q k) o.n : Int))) (AndZ (fun v => v = .int .i64 (numE (xs k) (q k) o.n : Int)) Z26) (a.tmps.getD 101 undef) w := e101
              refine rg_plain rfl fun K hK => ?_
              obtain ⟨x, y, e101, a101, z101⟩ := e101
              go_simp
              exact hK _ _ z101 ⟨hRr _, fun _ h => h⟩
            -- 9: s15 := assign t108
            apply rgc_ev
            · intro a w hR hC hf
              obtain ⟨e108, -⟩ := hf
              replace e108 : a.tmps.getD 108 undef = _ := e108
              refine rg_plain rfl fun K hK => ?_
              go_simp
              exact hK _ _ rfl ⟨hRr _, fun _ h => h⟩
            -- 10: s16 := assign t109
            refine ⟨AndZ (fun v => v = .int .i64 (numE (xs k) (q k) o.n : Int)) Z26, AndZ.stable _ _ _, fun a w hR hC hf => ?_, ?_⟩
            · obtain ⟨e109, -⟩ := hf
              replace e109 : AndZ (fun v => v = .int .i64 (numE (xs k) (q k) o.n : Int)) Z26 (a.tmps.getD 109 undef) w := e109
              refine rg_plain rfl fun K hK => ?_
              generalize hv109 : a.tmps.getD 109 undef = v109 at e109
              go_simp
              exact hK _ _ e109 ⟨hRr _, fun _ h => h⟩
            intro f26 w26 hR26 hf
            dsimp only [mergeT]
            obtain ⟨e15, e16, -⟩ := hf
            replace e15 : f26 15 = _ := e15
            rw [e15]
            replace e16 : AndZ (fun v => v = .int .i64 (numE (xs k) (q k) o.n : Int)) Z26 (f26 16) w26 := e16
            -- r26>>
            clear hRr hRt hRd hC0
            obtain ⟨e16, hz26⟩ := e16
            rw [hZ26] at hz26
            have o26 := hR26.1
            clear hR26
            rw [e16]
            have rr26 := RRs.keep dj rr25 hk2 o26
            have rf26 := RFs.step dj rf25 hk2 o26 hz26
            have oq26 := (oqn.trans o25 (fun i hi _ => by obtain rfl := List.mem_singleton.1 hi; exact hBm)).trans o26 (fun i hi _ => by obtain rfl := List.mem_singleton.1 hi; exact hmm)
            have hE26 := hE.only0 (how0.transN oq26 hwS)
            go_wp2_with fail
            (with_reducible refine (num_all w26 az (numE (xs k) (q k) o.n) v14 hE26 ev14).mono ?_)
            rintro e w26n ⟨rfl, on26⟩
            go_wp2_with fail
            exact ⟨⟨j + 1, upd q k (numQ (xs k) (q k) o.n), by go_num, by omega, oq26.trans0 on26, rr26.only0 on26, rf26.only0 on26⟩, by simp [intOf]; omega⟩
          · generalize (wr.alloc (.cells #[.int .i64 o.kind, .int .i64 o.which, .int .i64 o.n, .slice o.p o.m o.c] 38)) = wn at *
            clear hki
            have hcN := rn.cell (i := 2) rfl
            have hsz := rn.lt
            obtain ⟨Z30, hZ30⟩ : ∃ Z : World → Prop, Z = fun w => Rr w (F k) (B k) (xs k) (byQ (xs k) (q k) o.n) := ⟨_, rfl⟩
            have hRr := Rz.refl [B k] Z30
            have hRt := Rz.trans (D := [B k]) (Z := Z30)
            have hRd : Rz [B k] Z30 wn wn.drew := ⟨(Only.drew _).mono (by simp), fun h => by rw [hZ30] at h ⊢; exact h.only0 (Only.drew _)⟩
            have hC0 : (fun a => Only [] wn a) wn.drew := Only.drew _
            -- <<r30
            refine wp_region_rg3 (Rz [B k] Z30) (fun a => Only [] wn a) [5] [[(12, none)], [(5, none), (122, some 0)], [(123, some 0)], [(11, none)], [(125, some 0)], [(124, some 2), (126, some 0)], [(127, some 0)], [(121, some 0)], [(121, some 1)], [(128, some 1)], [(129, some 1)]] [(17, 1), (18, 0)] [none, none, none, none, none, none, none, none, none, none, none, none, none, none, none, none, none, some 17, some 18, none, none, none, none, none, none, none, none, none, none, none, none, none, none, none, none, none, none, none, none, none, none, none, none, none, none, none, none, none, none, none, none, none, none, none, none, none, none, none, none, none, none, none, none, none, none, none, none, none, none, none, none, none, none, none, none, none, none, none, none, none, none, none, none, none, none, none, none, none, none, none, none, none, none, none, none, none, none, none, none, none, none, none, none, none, none, none, none, none, none, none, none, none, none, none, none, none, none, none, none, none, none, some 121, some 122, some 123, some 124, some 125, some 126, some 127, some 128, some 129, none, none, none, none, none, none, none, none, none, none, none, none, none, none, none, none, none, none, none, none, none, none, none, none, none, none, none, none, none, none, none, none, none, none, none, none, none, none, none, none, none, none, none, none, none, none, none, none, none, none, none, none, none, none, none, none, none, none, none, none, none, none, none, none, none, none, none, none, none, none, none, none, none, none, none, none, none, none, none, none, none, none, none, none, none, none, none, none, none, none, none, none, none, none, none, none, none, none, none, none, none, none, none, none, none, none, none, none] (by kernel_rfl) rfl (by kernel_rfl) hRr hRt hRd hC0 (by kernel_rfl) (by kernel_rfl) ?_
            -- 0: s122 := move t12
            apply rgc_ev
            · intro a w hR hC hf
              obtain ⟨e12, -⟩ := hf
              replace e12 : a.tmps.getD 12 undef = _ := e12
              refine rg_plain rfl fun K hK => ?_
              go_simp
              exact hK _ _ rfl ⟨hRr _, fun _ h => h⟩
            -- 1: s123 := indexAddr 46 t5 t122
            apply rgc_ev
            · intro a w hR hC hf
              obtain ⟨e5, e122, -⟩ := hf
              replace e5 : a.tmps.getD 5 undef = _ := e5
              replace e122 : a.tmps.getD 122 undef = _ := e122
              refine rg_plain rfl fun K hK => ?_
              have hki : (k : Int) < 2 := by omega
              go_simp
              exact hK _ _ rfl ⟨hRr _, fun _ h => h⟩
            -- 2: s124 := load 45 t123
            apply rgc_ev
            · intro a w hR hC hf
              obtain ⟨e123, -⟩ := hf
              replace e123 : a.tmps.getD 123 undef = _ := e123
              refine rg_plain rfl fun K hK => ?_
              have h2c := hR.1.cell hcR' (by simp; omega)
              go_simp
              exact hK _ _ rfl ⟨hRr _, fun _ h => h⟩
            -- 3: s125 := fieldAddr 38 t11 2
            apply rgc_ev
            · intro a w hR hC hf
              obtain ⟨e11, -⟩ := hf
              replace e11 : a.tmps.getD 11 undef = _ := e11
              refine rg_plain rfl fun K hK => ?_
              go_simp
              exact hK _ _ rfl ⟨hRr _, fun _ h => h⟩
            -- 4: s126 := load 3 t125
            apply rgc_ev
            · intro a w hR hC hf
              obtain ⟨e125, -⟩ := hf
              replace e125 : a.tmps.getD 125 undef = _ := e125
              refine rg_plain rfl fun K hK => ?_
              have h4c := hR.1.cell hcN (by simp; omega)
              go_simp
              exact hK _ _ rfl ⟨hRr _, fun _ h => h⟩
            -- 5: s127 := call { value (Operand.func 25), args := #[t124, t126], #[45, 3] }
            refine ⟨Tup2 (EV (.string ⟨(byV (xs k) (q k) o.n).toArray⟩)) (AndZ (ErrNo az (byE (xs k) (q k) o.n)) Z30), Tup2.stable (EV.stable _) (AndZ.stable _ _ _), fun a w hR hC hf => ?_, ?_⟩
            · obtain ⟨e124, e126, -⟩ := hf
              replace e124 : a.tmps.getD 124 undef = _ := e124
              replace e126 : a.tmps.getD 126 undef = _ := e126
              refine rg_plain rfl fun K hK => ?_
              replace hC := hC (by kernel_rfl)
              go_simp
              (with_reducible refine (rdText_any w (F k) (B k) (xs k) (q k) o.n az (hE''.only0 hC) ((hrr.at hk2).only0 hC) (by omega)).mono ?_)
              rintro e w' ⟨v, rfl, h1, h2, h3⟩
              exact hK _ _ ⟨_, _, rfl, rfl, h1, by rw [hZ30]; exact h2⟩ ⟨⟨h3, fun _ => by rw [hZ30]; exact h2⟩, fun h => Bool.noConfusion (h.symm.trans (by kernel_rfl : _ = true))⟩
            -- 6: s121 := move t127
            refine ⟨Tup2 (EV (.string ⟨(byV (xs k) (q k) o.n).toArray⟩)) (AndZ (ErrNo az (byE (xs k) (q k) o.n)) Z30), Tup2.stable (EV.stable _) (AndZ.stable _ _ _), fun a w hR hC hf => ?_, ?_⟩
            · obtain ⟨e127, -⟩ := hf
              replace e127 : Tup2 (EV (.string ⟨(byV (xs k) (q k) o.n).toArray⟩)) (AndZ (ErrNo az (byE (xs k) (q k) o.n)) Z30) (a.tmps.getD 127 undef) w := e127
              refine rg_plain rfl fun K hK => ?_
              generalize hv127 : a.tmps.getD 127 undef = v127 at e127
              go_simp
              exact hK _ _ e127 ⟨hRr _, fun _ h => h⟩
            -- 7: s128 := extract t121 0
            apply rgc_ev
            · intro a w hR hC hf
              obtain ⟨e121, -⟩ := hf
              replace e121 : Tup2 (EV (.string ⟨(byV (xs k) (q k) o.n).toArray⟩)) (AndZ (ErrNo az (byE (xs k) (q k) o.n)) Z30) (a.tmps.getD 121 undef) w := e121
              refine rg_plain rfl fun K hK => ?_
              obtain ⟨x, y, e121, a121, z121⟩ := e121
              obtain rfl := a121
              go_simp
              exact hK _ _ rfl ⟨hRr _, fun _ h => h⟩
            -- 8: s129 := extract t121 1
            refine ⟨AndZ (ErrNo az (byE (xs k) (q k) o.n)) Z30, AndZ.stable _ _ _, fun a w hR hC hf => ?_, ?_⟩
            · obtain ⟨e121, -⟩ := hf
              replace e121 : Tup2 (EV (.string ⟨(byV (xs k) (q k) o.n).toArray⟩)) (AndZ (ErrNo az (byE (xs k) (q k) o.n)) Z30) (a.tmps.getD 121 undef) w := e121
              refine rg_plain rfl fun K hK => ?_
              obtain ⟨x, y, e121, a121, z121⟩ := e121
              go_simp
              exact hK _ _ z121 ⟨hRr _, fun _ h => h⟩
            -- 9: s17 := assign t128
            apply rgc_ev
            · intro a w hR hC hf
              obtain ⟨e128, -⟩ := hf
              replace e128 : a.tmps.getD 128 undef = _ := e128
              refine rg_plain rfl fun K hK => ?_
              go_simp
              exact hK _ _ rfl ⟨hRr _, fun _ h => h⟩
            -- 10: s18 := assign t129
            refine ⟨AndZ (ErrNo az (byE (xs k) (q k) o.n)) Z30, AndZ.stable _ _ _, fun a w hR hC hf => ?_, ?_⟩
            · obtain ⟨e129, -⟩ := hf
              replace e129 : AndZ (ErrNo az (byE (xs k) (q k) o.n)) Z30 (a.tmps.getD 129 undef) w := e129
              refine rg_plain rfl fun K hK => ?_
              generalize hv129 : a.tmps.getD 129 undef = v129 at e129
              go_simp
              exact hK _ _ e129 ⟨hRr _, fun _ h => h⟩
            intro f30 w30 hR30 hf
            dsimp only [mergeT]
            obtain ⟨e17, e18, -⟩ := hf
            replace e17 : f30 17 = _ := e17
            rw [e17]
            replace e18 : AndZ (ErrNo az (byE (xs k) (q k) o.n)) Z30 (f30 18) w30 := e18
            -- r30>>
            clear hRr hRt hRd hC0
            obtain ⟨ev18, hz30⟩ := e18
            rw [hZ30] at hz30
            have o30 := hR30.1
            clear hR30
            generalize f30 18 = v18 at ev18
            have rr30 := RRs.step dj hrr hk2 o30 hz30
            have rf30 := RFs.keep dj hrf hk2 o30
            have hcM30 := o30.cell hcM' (by simp; omega)
            have hcN30 := o30.cell hcN (by simp; omega)
            have hsz30 := o30.size
            go_wp2_with fail
            obtain ⟨Z31, hZ31⟩ : ∃ Z : World → Prop, Z = fun w => Rf w (m k) (P k) (N k) (C k) (xs k) (byQ (xs k) (q k) o.n) := ⟨_, rfl⟩
            have hRr := Rz.refl [m k] Z31
            have hRt := Rz.trans (D := [m k]) (Z := Z31)
            have hRd : Rz [m k] Z31 w30 w30.drew := ⟨(Only.drew _).mono (by simp), fun h => by rw [hZ31] at h ⊢; exact h.only0 (Only.drew _)⟩
            have hC0 : (fun a => Only [] w30 a) w30.drew := Only.drew _
            -- <<r31
            refine wp_region_rg3 (Rz [m k] Z31) (fun a => Only [] w30 a) [5] [[(12, none)], [(6, none), (131, some 0)], [(132, some 0)], [(11, none)], [(134, some 0)], [(133, some 2), (135, some 0)], [(136, some 0)], [(130, some 0)], [(130, some 1)], [(137, some 1)], [(138, some 1)]] [(19, 1), (20, 0)] [none, none, none, none, none, none, none, none, none, none, none, none, none, none, none, none, none, none, none, some 19, some 20, none, none, none, none, none, none, none, none, none, none, none, none, none, none, none, none, none, none, none, none, none, none, none, none, none, none, none, none, none, none, none, none, none, none, none, none, none, none, none, none, none, none, none, none, none, none, none, none, none, none, none, none, none, none, none, none, none, none, none, none, none, none, none, none, none, none, none, none, none, none, none, none, none, none, none, none, none, none, none, none, none, none, none, none, none, none, none, none, none, none, none, none, none, none, none, none, none, none, none, none, none, none, none, none, none, none, none, none, none, some 130, some 131, some 132, some 133, some 134, some 135, some 136, some 137, some 138, none, none, none, none, none, none, none, none, none, none, none, none, none, none, none, none, none, none, none, none, none, none, none, none, none, none, none, none, none, none, none, none, none, none, none, none, none, none, none, none, none, none, none, none, none, none, none, none, none, none, none, none, none, none, none, none, none, none, none, none, none, none, none, none, none, none, none, none, none, none, none, none, none, none, none, none, none, none, none, none, none, none, none, none, none, none, none, none, none, none, none, none, none, none, none, none, none, none, none] (by kernel_rfl) rfl (by kernel_rfl) hRr hRt hRd hC0 (by kernel_rfl) (by kernel_rfl) ?_
            -- 0: s131 := move t12
            apply rgc_ev
            · intro a w hR hC hf
              obtain ⟨e12, -⟩ := hf
              replace e12 : a.tmps.getD 12 undef = _ := e12
              refine rg_plain rfl fun K hK => ?_
              go_simp
              exact hK _ _ rfl ⟨hRr _, fun _ h => h⟩
            -- 1: s132 := indexAddr 48 t6 t131
            apply rgc_ev
            · intro a w hR hC hf
              obtain ⟨e6, e131, -⟩ := hf
              replace e6 : a.tmps.getD 6 undef = _ := e6
              replace e131 : a.tmps.getD 131 undef = _ := e131
              refine rg_plain rfl fun K hK => ?_
              have hki : (k : Int) < 2 := by omega
              go_simp
              exact hK _ _ rfl ⟨hRr _, fun _ h => h⟩
            -- 2: s133 := load 47 t132
            apply rgc_ev
            · intro a w hR hC hf
              obtain ⟨e132, -⟩ := hf
              replace e132 : a.tmps.getD 132 undef = _ := e132
              refine rg_plain rfl fun K hK => ?_
              have h2c := hR.1.cell hcM30 (by simp; omega)
              go_simp
              exact hK _ _ rfl ⟨hRr _, fun _ h => h⟩
            -- 3: s134 := fieldAddr 38 t11 2
            apply rgc_ev
            · intro a w hR hC hf
              obtain ⟨e11, -⟩ := hf
              replace e11 : a.tmps.getD 11 undef = _ := e11
              refine rg_plain rfl fun K hK => ?_
              go_simp
              exact hK _ _ rfl ⟨hRr _, fun _ h => h⟩
            -- 4: s135 := load 3 t134
            apply rgc_ev
            · intro a w hR hC hf
              obtain ⟨e134, -⟩ := hf
              replace e134 : a.tmps.getD 134 undef = _ := e134
              refine rg_plain rfl fun K hK => ?_
              have h4c := hR.1.cell hcN30 (by simp; omega)
              go_simp
              exact hK _ _ rfl ⟨hRr _, fun _ h => h⟩
            -- 5: s136 := call { value (Operand.func 26), args := #[t133, t135], #[47, 3] }
            refine ⟨Tup2 (OwnB 5 (byV (xs k) (q k) o.n) w30.heap.size) (AndZ (fun v => v = .int .i64 (byE (xs k) (q k) o.n : Int)) Z31), Tup2.stable (OwnB.stable _ _ _ (by intro x hx; simp at hx; omega)) (AndZ.stable _ _ _), fun a w hR hC hf => ?_, ?_⟩
            · obtain ⟨e133, e135, -⟩ := hf
              replace e133 : a.tmps.getD 133 undef = _ := e133
              replace e135 : a.tmps.getD 135 undef = _ := e135
              refine rg_plain rfl fun K hK => ?_
              replace hC := hC (by kernel_rfl)
              go_simp
              (with_reducible refine (rfBy_any w (m k) (P k) (xs k) (N k) (C k) (q k) o.n ((rf30.at hk2).only0 hC) (by omega)).mono ?_)
              rintro e w' ⟨q', n', k', rfl, Hn', ow', h2, h3⟩
              exact hK _ _ ⟨_, _, rfl, ⟨q', n', k', rfl, Hn'.out, ow'.weaken hR.1.size⟩, rfl, by rw [hZ31]; exact h2⟩ ⟨⟨h3, fun _ => by rw [hZ31]; exact h2⟩, fun h => Bool.noConfusion (h.symm.trans (by kernel_rfl : _ = true))⟩
            -- 6: s130 := move t136
            refine ⟨Tup2 (OwnB 5 (byV (xs k) (q k) o.n) w30.heap.size) (AndZ (fun v => v = .int .i64 (byE (xs k) (q k) o.n : Int)) Z31), Tup2.stable (OwnB.stable _ _ _ (by intro x hx; simp at hx; omega)) (AndZ.stable _ _ _), fun a w hR hC hf => ?_, ?_⟩
            · obtain ⟨e136, -⟩ := hf
              replace e136 : Tup2 (OwnB 5 (byV (xs k) (q k) o.n) w30.heap.size) (AndZ (fun v => v = .int .i64 (byE (xs k) (q k) o.n : Int)) Z31) (a.tmps.getD 136 undef) w := e136
              refine rg_plain rfl fun K hK => ?_
              generalize hv136 : a.tmps.getD 136 undef = v136 at e136
              go_simp
              exact hK _ _ e136 ⟨hRr _, fun _ h => h⟩
            -- 7: s137 := extract t130 0
            refine ⟨OwnB 5 (byV (xs k) (q k) o.n) w30.heap.size, OwnB.stable _ _ _ (by intro x hx; simp at hx; omega), fun a w hR hC hf => ?_, ?_⟩
            · obtain ⟨e130, -⟩ := hf
              replace e130 : Tup2 (OwnB 5 (byV (xs k) (q k) o.n) w30.heap.size) (AndZ (fun v => v = .int .i64 (byE (xs k) (q k) o.n : Int)) Z31) (a.tmps.getD 130 undef) w := e130
              refine rg_plain rfl fun K hK => ?_
              obtain ⟨x, y, e130, a130, z130⟩ := e130
              go_simp
              exact hK _ _ a130 ⟨hRr _, fun _ h => h⟩
            -- 8: s138 := extract t130 1
            refine ⟨AndZ (fun v => v = .int .i64 (byE (xs k) (q k) o.n : Int)) Z31, AndZ.stable _ _ _, fun a w hR hC hf => ?_, ?_⟩
            · obtain ⟨e130, -⟩ := hf
              replace e130 : Tup2 (OwnB 5 (byV (xs k) (q k) o.n) w30.heap.size) (AndZ (fun v => v = .int .i64 (byE (xs k) (q k) o.n : Int)) Z31) (a.tmps.getD 130 undef) w := e130
              refine rg_plain rfl fun K hK => ?_
              obtain ⟨x, y, e130, a130, z130⟩ := e130
              go_simp
              exact hK _ _ z130 ⟨hRr _, fun _ h => h⟩
            -- 9: s19 := assign t137
            refine ⟨OwnB 5 (byV (xs k) (q k) o.n) w30.heap.size, OwnB.stable _ _ _ (by intro x hx; simp at hx; omega), fun a w hR hC hf => ?_, ?_⟩
            · obtain ⟨e137, -⟩ := hf
              replace e137 : OwnB 5 (byV (xs k) (q k) o.n) w30.heap.size (a.tmps.getD 137 undef) w := e137
              refine rg_plain rfl fun K hK => ?_
              generalize hv137 : a.tmps.getD 137 undef = v137 at e137
              go_simp
              exact hK _ _ e137 ⟨hRr _, fun _ h => h⟩
            -- 10: s20 := assign t138
            refine ⟨AndZ (fun v => v = .int .i64 (byE (xs k) (q k) o.n : Int)) Z31, AndZ.stable _ _ _, fun a w hR hC hf => ?_, ?_⟩
            · obtain ⟨e138, -⟩ := hf
              replace e138 : AndZ (fun v => v = .int .i64 (byE (xs k) (q k) o.n : Int)) Z31 (a.tmps.getD 138 undef) w := e138
              refine rg_plain rfl fun K hK => ?_
              generalize hv138 : a.tmps.getD 138 undef = v138 at e138
              go_simp
              exact hK _ _ e138 ⟨hRr _, fun _ h => h⟩
            intro f31 w31 hR31 hf
            dsimp only [mergeT]
            obtain ⟨e19, e20, -⟩ := hf
            replace e19 : OwnB 5 (byV (xs k) (q k) o.n) w30.heap.size (f31 19) w31 := e19
            replace e20 : AndZ (fun v => v = .int .i64 (byE (xs k) (q k) o.n : Int)) Z31 (f31 20) w31 := e20
            -- r31>>
            clear hRr hRt hRd hC0
            obtain ⟨e20, hz31⟩ := e20
            rw [hZ31] at hz31
            have o31 := hR31.1
            clear hR31
            rw [e20]
            obtain ⟨q19, n19, c19, e19, l19, ow19⟩ := e19
            rw [e19]
            have L19 := Lib.hid l19
            clear l19
            have rr31 := RRs.keep dj rr30 hk2 o31
            have rf31 := RFs.step dj rf30 hk2 o31 hz31
            have oq31 := (oqn.trans o30 (fun i hi _ => by obtain rfl := List.mem_singleton.1 hi; exact hBm)).trans o31 (fun i hi _ => by obtain rfl := List.mem_singleton.1 hi; exact hmm)
            have hE31 := hE.only0 (how0.transN oq31 hwS)
            have vw19 := ow19.view
            have cv19 := conv_bytes (P := Tryd.prog) (c := c19) w31 Tryd.underlying26 Tryd.underlying5 Tryd.underlying9 vw19.1 L19.out vw19.2.2.1
            clear vw19
            go_wp2_with fail
            (with_reducible refine (num_all w31 az (byE (xs k) (q k) o.n) v18 hE31 ev18).mono ?_)
            rintro e w31n ⟨rfl, on31⟩
            go_wp2_with fail
            exact ⟨⟨j + 1, upd q k (byQ (xs k) (q k) o.n), by go_num, by omega, oq31.trans0 on31, rr31.only0 on31, rf31.only0 on31⟩, by simp [intOf]; omega⟩
          · generalize (wr.alloc (.cells #[.int .i64 o.kind, .int .i64 o.which, .int .i64 o.n, .slice o.p o.m o.c] 38)) = wn at *
            clear hki
            have hcN := rn.cell (i := 2) rfl
            have hsz := rn.lt
            obtain ⟨Z35, hZ35⟩ : ∃ Z : World → Prop, Z = fun w => Rr w (F k) (B k) (xs k) (byQ (xs k) (q k) o.n) := ⟨_, rfl⟩
            have hRr := Rz.refl [B k] Z35
            have hRt := Rz.trans (D := [B k]) (Z := Z35)
            have hRd : Rz [B k] Z35 wn wn.drew := ⟨(Only.drew _).mono (by simp), fun h => by rw [hZ35] at h ⊢; exact h.only0 (Only.drew _)⟩
            have hC0 : (fun a => Only [] wn a) wn.drew := Only.drew _
            -- <<r35
            refine wp_region_rg3 (Rz [B k] Z35) (fun a => Only [] wn a) [5] [[(12, none)], [(5, none), (152, some 0)], [(153, some 0)], [(11, none)], [(155, some 0)], [(154, some 2), (156, some 0)], [(157, some 0)], [(151, some 0)], [(151, some 1)], [(158, some 1)], [(159, some 1)]] [(21, 1), (22, 0)] [none, none, none, none, none, none, none, none, none, none, none, none, none, none, none, none, none, none, none, none, none, some 21, some 22, none, none, none, none, none, none, none, none, none, none, none, none, none, none, none, none, none, none, none, none, none, none, none, none, none, none, none, none, none, none, none, none, none, none, none, none, none, none, none, none, none, none, none, none, none, none, none, none, none, none, none, none, none, none, none, none, none, none, none, none, none, none, none, none, none, none, none, none, none, none, none, none, none, none, none, none, none, none, none, none, none, none, none, none, none, none, none, none, none, none, none, none, none, none, none, none, none, none, none, none, none, none, none, none, none, none, none, none, none, none, none, none, none, none, none, none, none, none, none, none, none, none, none, none, none, none, none, none, some 151, some 152, some 153, some 154, some 155, some 156, some 157, some 158, some 159, none, none, none, none, none, none, none, none, none, none, none, none, none, none, none, none, none, none, none, none, none, none, none, none, none, none, none, none, none, none, none, none, none, none, none, none, none, none, none, none, none, none, none, none, none, none, none, none, none, none, none, none, none, none, none, none, none, none, none, none, none, none, none, none, none, none, none, none, none, none, none, none, none, none, none, none, none, none] (by kernel_rfl) rfl (by kernel_rfl) hRr hRt hRd hC0 (by kernel_rfl) (by kernel_rfl) ?_
            -- 0: s152 := move t12
            apply rgc_ev
            · intro a w hR hC hf
              obtain ⟨e12, -⟩ := hf
              replace e12 : a.tmps.getD 12 undef = _ := e12
              refine rg_plain rfl fun K hK => ?_
              go_simp
              exact hK _ _ rfl ⟨hRr _, fun _ h => h⟩
            -- 1: s153 := indexAddr 46 t5 t152
            apply rgc_ev
            · intro a w hR hC hf
              obtain ⟨e5, e152, -⟩ := hf
              replace e5 : a.tmps.getD 5 undef = _ := e5
              replace e152 : a.tmps.getD 152 undef = _ := e152
              refine rg_plain rfl fun K hK => ?_
              have hki : (k : Int) < 2 := by omega
              go_simp
              exact hK _ _ rfl ⟨hRr _, fun _ h => h⟩
            -- 2: s154 := load 45 t153
            apply rgc_ev
            · intro a w hR hC hf
              obtain ⟨e153, -⟩ := hf
              replace e153 : a.tmps.getD 153 undef = _ := e153
              refine rg_plain rfl fun K hK => ?_
              have h2c := hR.1.cell hcR' (by simp; omega)
              go_simp
              exact hK _ _ rfl ⟨hRr _, fun _ h => h⟩
            -- 3: s155 := fieldAddr 38 t11 2
            apply rgc_ev
            · intro a w hR hC hf
              obtain ⟨e11, -⟩ := hf
              replace e11 : a.tmps.getD 11 undef = _ := e11
              refine rg_plain rfl fun K hK => ?_
              go_simp
              exact hK _ _ rfl ⟨hRr _, fun _ h => h⟩
            -- 4: s156 := load 3 t155
            apply rgc_ev
            · intro a w hR hC hf
              obtain ⟨e155, -⟩ := hf
              replace e155 : a.tmps.getD 155 undef = _ := e155
              refine rg_plain rfl fun K hK => ?_
              have h4c := hR.1.cell hcN (by simp; omega)
              go_simp
              exact hK _ _ rfl ⟨hRr _, fun _ h => h⟩
            -- 5: s157 := call { value (Operand.func 27), args := #[t154, t156], #[45, 3] }
            refine ⟨Tup2 (OwnB 5 (byV (xs k) (q k) o.n) wn.heap.size) (AndZ (ErrNo az (byE (xs k) (q k) o.n)) Z35), Tup2.stable (OwnB.stable _ _ _ (by intro x hx; simp at hx; omega)) (AndZ.stable _ _ _), fun a w hR hC hf => ?_, ?_⟩
            · obtain ⟨e154, e156, -⟩ := hf
              replace e154 : a.tmps.getD 154 undef = _ := e154
              replace e156 : a.tmps.getD 156 undef = _ := e156
              refine rg_plain rfl fun K hK => ?_
              replace hC := hC (by kernel_rfl)
              go_simp
              (with_reducible refine (rdBy_any w (F k) (B k) (xs k) (q k) o.n az (hE''.only0 hC) ((hrr.at hk2).only0 hC) (by omega)).mono ?_)
              rintro e w' ⟨q', n', k', v, rfl, Hn', ow', h1, h2, h3⟩
              exact hK _ _ ⟨_, _, rfl, ⟨q', n', k', rfl, Hn'.out, ow'.weaken hR.1.size⟩, h1, by rw [hZ35]; exact h2⟩ ⟨⟨h3, fun _ => by rw [hZ35]; exact h2⟩, fun h => Bool.noConfusion (h.symm.trans (by kernel_rfl : _ = true))⟩
            -- 6: s151 := move t157
            refine ⟨Tup2 (OwnB 5 (byV (xs k) (q k) o.n) wn.heap.size) (AndZ (ErrNo az (byE (xs k) (q k) o.n)) Z35), Tup2.stable (OwnB.stable _ _ _ (by intro x hx; simp at hx; omega)) (AndZ.stable _ _ _), fun a w hR hC hf => ?_, ?_⟩
            · obtain ⟨e157, -⟩ := hf
              replace e157 : Tup2 (OwnB 5 (byV (xs k) (q k) o.n) wn.heap.size) (AndZ (ErrNo az (byE (xs k) (q k) o.n)) Z35) (a.tmps.getD 157 undef) w := e157
              refine rg_plain rfl fun K hK => ?_
              generalize hv157 : a.tmps.getD 157 undef = v157 at e157
              go_simp
              exact hK _ _ e157 ⟨hRr _, fun _ h => h⟩
            -- 7: s158 := extract t151 0
            refine ⟨OwnB 5 (byV (xs k) (q k) o.n) wn.heap.size, OwnB.stable _ _ _ (by intro x hx; simp at hx; omega), fun a w hR hC hf => ?_, ?_⟩
            · obtain ⟨e151, -⟩ := hf
              replace e151 : Tup2 (OwnB 5 (byV (xs k) (q k) o.n) wn.heap.size) (AndZ (ErrNo az (byE (xs k) (q k) o.n)) Z35) (a.tmps.getD 151 undef) w := e151
              refine rg_plain rfl fun K hK => ?_
              obtain ⟨x, y, e151, a151, z151⟩ := e151
              go_simp
              exact hK _ _ a151 ⟨hRr _, fun _ h => h⟩
            -- 8: s159 := extract t151 1
            refine ⟨AndZ (ErrNo az (byE (xs k) (q k) o.n)) Z35, AndZ.stable _ _ _, fun a w hR hC hf => ?_, ?_⟩
            · obtain ⟨e151, -⟩ := hf
              replace e151 : Tup2 (OwnB 5 (byV (xs k) (q k) o.n) wn.heap.size) (AndZ (ErrNo az (byE (xs k) (q k) o.n)) Z35) (a.tmps.getD 151 undef) w := e151
              refine rg_plain rfl fun K hK => ?_
              obtain ⟨x, y, e151, a151, z151⟩ := e151
              go_simp
              exact hK _ _ z151 ⟨hRr _, fun _ h => h⟩
            -- 9: s21 := assign t158
            refine ⟨OwnB 5 (byV (xs k) (q k) o.n) wn.heap.size, OwnB.stable _ _ _ (by intro x hx; simp at hx; omega), fun a w hR hC hf => ?_, ?_⟩
            · obtain ⟨e158, -⟩ := hf
              replace e158 : OwnB 5 (byV (xs k) (q k) o.n) wn.heap.size (a.tmps.getD 158 undef) w := e158
              refine rg_plain rfl fun K hK => ?_
              generalize hv158 : a.tmps.getD 158 undef = v158 at e158
              go_simp
              exact hK _ _ e158 ⟨hRr _, fun _ h => h⟩
            -- 10: s22 := assign t159
            refine ⟨AndZ (ErrNo az (byE (xs k) (q k) o.n)) Z35, AndZ.stable _ _ _, fun a w hR hC hf => ?_, ?_⟩
            · obtain ⟨e159, -⟩ := hf
              replace e159 : AndZ (ErrNo az (byE (xs k) (q k) o.n)) Z35 (a.tmps.getD 159 undef) w := e159
              refine rg_plain rfl fun K hK => ?_
              generalize hv159 : a.tmps.getD 159 undef = v159 at e159
              go_simp
              exact hK _ _ e159 ⟨hRr _, fun _ h => h⟩
            intro f35 w35 hR35 hf
            dsimp only [mergeT]
            obtain ⟨e21, e22, -⟩ := hf
            replace e21 : OwnB 5 (byV (xs k) (q k) o.n) wn.heap.size (f35 21) w35 := e21
            replace e22 : AndZ (ErrNo az (byE (xs k) (q k) o.n)) Z35 (f35 22) w35 := e22
            -- r35>>
            clear hRr hRt hRd hC0
            obtain ⟨ev22, hz35⟩ := e22
            rw [hZ35] at hz35
            have o35 := hR35.1
            clear hR35
            generalize f35 22 = v22 at ev22
            obtain ⟨q21, n21, c21, e21, l21, ow21⟩ := e21
            rw [e21]
            have L21 := Lib.hid l21
            clear l21
            have rr35 := RRs.step dj hrr hk2 o35 hz35
            have rf35 := RFs.keep dj hrf hk2 o35
            have hcM35 := o35.cell hcM' (by simp; omega)
            have hcN35 := o35.cell hcN (by simp; omega)
            have hsz35 := o35.size
            go_wp2_with fail
            obtain ⟨Z36, hZ36⟩ : ∃ Z : World → Prop, Z = fun w => Rf w (m k) (P k) (N k) (C k) (xs k) (byQ (xs k) (q k) o.n) := ⟨_, rfl⟩
            have hRr := Rz.refl [m k] Z36
            have hRt := Rz.trans (D := [m k]) (Z := Z36)
            have hRd : Rz [m k] Z36 w35 w35.drew := ⟨(Only.drew _).mono (by simp), fun h => by rw [hZ36] at h ⊢; exact h.only0 (Only.drew _)⟩
            have hC0 : (fun a => Only [] w35 a) w35.drew := Only.drew _
            -- <<r36
            refine wp_region_rg3 (Rz [m k] Z36) (fun a => Only [] w35 a) [5] [[(12, none)], [(6, none), (161, some 0)], [(162, some 0)], [(11, none)], [(164, some 0)], [(163, some 2), (165, some 0)], [(166, some 0)], [(160, some 0)], [(160, some 1)], [(167, some 1)], [(168, some 1)]] [(23, 1), (24, 0)] [none, none, none, none, none, none, none, none, none, none, none, none, none, none, none, none, none, none, none, none, none, none, none, some 23, some 24, none, none, none, none, none, none, none, none, none, none, none, none, none, none, none, none, none, none, none, none, none, none, none, none, none, none, none, none, none, none, none, none, none, none, none, none, none, none, none, none, none, none, none, none, none, none, none, none, none, none, none, none, none, none, none, none, none, none, none, none, none, none, none, none, none, none, none, none, none, none, none, none, none, none, none, none, none, none, none, none, none, none, none, none, none, none, none, none, none, none, none, none, none, none, none, none, none, none, none, none, none, none, none, none, none, none, none, none, none, none, none, none, none, none, none, none, none, none, none, none, none, none, none, none, none, none, none, none, none, none, none, none, none, none, none, some 160, some 161, some 162, some 163, some 164, some 165, some 166, some 167, some 168, none, none, none, none, none, none, none, none, none, none, none, none, none, none, none, none, none, none, none, none, none, none, none, none, none, none, none, none, none, none, none, none, none, none, none, none, none, none, none, none, none, none, none, none, none, none, none, none, none, none, none, none, none, none, none, none, none, none, none, none, none, none, none, none, none, none, none, none, none] (by kernel_rfl) rfl (by kernel_rfl) hRr hRt hRd hC0 (by kernel_rfl) (by kernel_rfl) ?_
            -- 0: s161 := move t12
            apply rgc_ev
            · intro a w hR hC hf
              obtain ⟨e12, -⟩ := hf
              replace e12 : a.tmps.getD 12 undef = _ := e12
              refine rg_plain rfl fun K hK => ?_
              go_simp
              exact hK _ _ rfl ⟨hRr _, fun _ h => h⟩
            -- 1: s162 := indexAddr 48 t6 t161
            apply rgc_ev
            · intro a w hR hC hf
              obtain ⟨e6, e161, -⟩ := hf
              replace e6 : a.tmps.getD 6 undef = _ := e6
              replace e161 : a.tmps.getD 161 undef = _ := e161
              refine rg_plain rfl fun K hK => ?_
              have hki : (k : Int) < 2 := by omega
              go_simp
              exact hK _ _ rfl ⟨hRr _, fun _ h => h⟩
            -- 2: s163 := load 47 t162
            apply rgc_ev
            · intro a w hR hC hf
              obtain ⟨e162, -⟩ := hf
              replace e162 : a.tmps.getD 162 undef = _ := e162
              refine rg_plain rfl fun K hK => ?_
              have h2c := hR.1.cell hcM35 (by simp; omega)
              go_simp
              exact hK _ _ rfl ⟨hRr _, fun _ h => h⟩
            -- 3: s164 := fieldAddr 38 t11 2
            apply rgc_ev
            · intro a w hR hC hf
              obtain ⟨e11, -⟩ := hf
              replace e11 : a.tmps.getD 11 undef = _ := e11
              refine rg_plain rfl fun K hK => ?_
              go_simp
              exact hK _ _ rfl ⟨hRr _, fun _ h => h⟩
            -- 4: s165 := load 3 t164
            apply rgc_ev
            · intro a w hR hC hf
              obtain ⟨e164, -⟩ := hf
              replace e164 : a.tmps.getD 164 undef = _ := e164
              refine rg_plain rfl fun K hK => ?_
              have h4c := hR.1.cell hcN35 (by simp; omega)
              go_simp
              exact hK _ _ rfl ⟨hRr _, fun _ h => h⟩
            -- 5: s166 := call { value (Operand.func 26), args := #[t163, t165], #[47, 3] }
            refine ⟨Tup2 (OwnB 5 (byV (xs k) (q k) o.n) w35.heap.size) (AndZ (fun v => v = .int .i64 (byE (xs k) (q k) o.n : Int)) Z36), Tup2.stable (OwnB.stable _ _ _ (by intro x hx; simp at hx; omega)) (AndZ.stable _ _ _), fun a w hR hC hf => ?_, ?_⟩
            · obtain ⟨e163, e165, -⟩ := hf
              replace e163 : a.tmps.getD 163 undef = _ := e163
              replace e165 : a.tmps.getD 165 undef = _ := e165
              refine rg_plain rfl fun K hK => ?_
              replace hC := hC (by kernel_rfl)
              go_simp
              (with_reducible refine (rfBy_any w (m k) (P k) (xs k) (N k) (C k) (q k) o.n ((rf35.at hk2).only0 hC) (by omega)).mono ?_)
              rintro e w' ⟨q', n', k', rfl, Hn', ow', h2, h3⟩
              exact hK _ _ ⟨_, _, rfl, ⟨q', n', k', rfl, Hn'.out, ow'.weaken hR.1.size⟩, rfl, by rw [hZ36]; exact h2⟩ ⟨⟨h3, fun _ => by rw [hZ36]; exact h2⟩, fun h => Bool.noConfusion (h.symm.trans (by kernel_rfl : _ = true))⟩
            -- 6: s160 := move t166
            refine ⟨Tup2 (OwnB 5 (byV (xs k) (q k) o.n) w35.heap.size) (AndZ (fun v => v = .int .i64 (byE (xs k) (q k) o.n : Int)) Z36), Tup2.stable (OwnB.stable _ _ _ (by intro x hx; simp at hx; omega)) (AndZ.stable _ _ _), fun a w hR hC hf => ?_, ?_⟩
            · obtain ⟨e166, -⟩ := hf
              replace e166 : Tup2 (OwnB 5 (byV (xs k) (q k) o.n) w35.heap.size) (AndZ (fun v => v = .int .i64 (byE (xs k) (q k) o.n : Int)) Z36) (a.tmps.getD 166 undef) w := e166
              refine rg_plain rfl fun K hK => ?_
              generalize hv166 : a.tmps.getD 166 undef = v166 at e166
              go_simp
              exact hK _ _ e166 ⟨hRr _, fun _ h => h⟩
            -- 7: s167 := extract t160 0
            refine ⟨OwnB 5 (byV (xs k) (q k) o.n) w35.heap.size, OwnB.stable _ _ _ (by intro x hx; simp at hx; omega), fun a w hR hC hf => ?_, ?_⟩
            · obtain ⟨e160, -⟩ := hf
              replace e160 : Tup2 (OwnB 5 (byV (xs k) (q k) o.n) w35.heap.size) (AndZ (fun v => v = .int .i64 (byE (xs k) (q k) o.n : Int)) Z36) (a.tmps.getD 160 undef) w := e160
              refine rg_plain rfl fun K hK => ?_
              obtain ⟨x, y, e160, a160, z160⟩ := e160
              go_simp
              exact hK _ _ a160 ⟨hRr _, fun _ h => h⟩
            -- 8: s168 := extract t160 1
            refine ⟨AndZ (fun v => v = .int .i64 (byE (xs k) (q k) o.n : Int)) Z36, AndZ.stable _ _ _, fun a w hR hC hf => ?_, ?_⟩
            · obtain ⟨e160, -⟩ := hf
              replace e160 : Tup2 (OwnB 5 (byV (xs k) (q k) o.n) w35.heap.size) (AndZ (fun v => v = .int .i64 (byE (xs k) (q k) o.n : Int)) Z36) (a.tmps.getD 160 undef) w := e160
              refine rg_plain rfl fun K hK => ?_
              obtain ⟨x, y, e160, a160, z160⟩ := e160
              go_simp
              exact hK _ _ z160 ⟨hRr _, fun _ h => h⟩
            -- 9: s23 := assign t167
            refine ⟨OwnB 5 (byV (xs k) (q k) o.n) w35.heap.size, OwnB.stable _ _ _ (by intro x hx; simp at hx; omega), fun a w hR hC hf => ?_, ?_⟩
            · obtain ⟨e167, -⟩ := hf
              replace e167 : OwnB 5 (byV (xs k) (q k) o.n) w35.heap.size (a.tmps.getD 167 undef) w := e167
              refine rg_plain rfl fun K hK => ?_
              generalize hv167 : a.tmps.getD 167 undef = v167 at e167
              go_simp
              exact hK _ _ e167 ⟨hRr _, fun _ h => h⟩
            -- 10: s24 := assign t168
            refine ⟨AndZ (fun v => v = .int .i64 (byE (xs k) (q k) o.n : Int)) Z36, AndZ.stable _ _ _, fun a w hR hC hf => ?_, ?_⟩
            · obtain ⟨e168, -⟩ := hf
              replace e168 : AndZ (fun v => v = .int .i64 (byE (xs k) (q k) o.n : Int)) Z36 (a.tmps.getD 168 undef) w := e168
              refine rg_plain rfl fun K hK => ?_
              generalize hv168 : a.tmps.getD 168 undef = v168 at e168
              go_simp
              exact hK _ _ e168 ⟨hRr _, fun _ h => h⟩
            intro f36 w36 hR36 hf
            dsimp only [mergeT]
            obtain ⟨e23, e24, -⟩ := hf
            replace e23 : OwnB 5 (byV (xs k) (q k) o.n) w35.heap.size (f36 23) w36 := e23
            replace e24 : AndZ (fun v => v = .int .i64 (byE (xs k) (q k) o.n : Int)) Z36 (f36 24) w36 := e24
            -- r36>>
            clear hRr hRt hRd hC0
            obtain ⟨e24, hz36⟩ := e24
            rw [hZ36] at hz36
            have o36 := hR36.1
            clear hR36
            rw [e24]
            obtain ⟨q23, n23, c23, e23, l23, ow23⟩ := e23
            rw [e23]
            have L23 := Lib.hid l23
            clear l23
            have rr36 := RRs.keep dj rr35 hk2 o36
            have rf36 := RFs.step dj rf35 hk2 o36 hz36
            have oq36 := (oqn.trans o35 (fun i hi _ => by obtain rfl := List.mem_singleton.1 hi; exact hBm)).trans o36 (fun i hi _ => by obtain rfl := List.mem_singleton.1 hi; exact hmm)
            have hE36 := hE.only0 (how0.transN oq36 hwS)
            have vw23 := ow23.view
            have cv23 := conv_bytes (P := Tryd.prog) (c := c23) w36 Tryd.underlying26 Tryd.underlying5 Tryd.underlying9 vw23.1 L23.out vw23.2.2.1
            clear vw23
            replace ow21 := ow21.only o36 (by intro x hx hm; have := (ow21.lt x hx).1; simp at hm; omega)
            have vw21 := ow21.view
            have cv21 := conv_bytes (P := Tryd.prog) (c := c21) w36 Tryd.underlying26 Tryd.underlying5 Tryd.underlying9 vw21.1 L21.out vw21.2.2.1
            clear vw21
            go_wp2_with fail
            (with_reducible refine (num_all w36 az (byE (xs k) (q k) o.n) v22 hE36 ev22).mono ?_)
            rintro e w36n ⟨rfl, on36⟩
            have oq36n := oq36.trans0 on36
            have rr36n := rr36.only0 on36
            have rf36n := rf36.only0 on36
            have hl21 : n21 ≤ 140737488351232 := by have := byV_len (xs k) (q k) o.n; have := L21.out; omega
            have oA := Only.alloc w36n (.cells #[.int .u8 1, .int .u8 2] 5)
            have rA := Row.new w36n 5 (u8s [1, 2])
            have hbase : wn.heap.size ≤ (w36n.alloc (.cells #[.int .u8 1, .int .u8 2] 5)).heap.size := by have := o36.size; have := on36.size; have := oA.size; omega
            obtain ⟨p', c', wA, hra, owA, hA, hpA⟩ := append_owned (P := Tryd.prog) (n := n21) (m := 2) (c := 2) (bytes := 1) (q := some ⟨w36n.heap.size, 0, none⟩) (news := u8s [1, 2]) (t := 26) (ty := 26) _ Tryd.underlying26 infoU8w rfl ((ow21.only0 on36).only0 oA) rA.rd0 (by rfl) (by simp) (fun v hv => u8s_one hv) (by omega) (by omega) hbase
            obtain ⟨gA, rfl, hgA, hgA2⟩ := owA.at (by omega)
            have hq21 : ∀ x ∈ blk q21, wn.heap.size ≤ x := fun x hx => (blk_own ow21 x hx).1
            have ofar : ∀ wf, Only [gA] wA wf → Only [B 0, B 1, m 0, m 1] wz wf ∧ RRs wf F B xs (upd q k (byQ (xs k) (q k) o.n)) ∧ RFs wf m P N C xs (upd q k (byQ (xs k) (q k) o.n)) := by
              intro wf hf
              have h1 : Only (gA :: blk q21) w36n wf := ((oA.mono (by simp)).trans hA (fun i hi _ => by simp [hi])).trans hf (fun i hi _ => by simp at hi; simp [hi])
              have hx : ∀ x ∈ gA :: blk q21, wn.heap.size ≤ x := fun x hx => by
                rcases List.mem_cons.1 hx with rfl | hx
                · exact hgA
                · exact hq21 x hx
              refine ⟨oq36n.transN h1 (fun x hm => by have := hx x hm; have := oqn.size; omega), fun i hi => (rr36n i hi).only h1 ?_, fun i hi => (rf36n i hi).only h1 ?_ ?_⟩
              · intro x hxF hm; have := hx x hm; have := (hrr.at hi).lt x hxF; omega
              · intro hm; have := hx _ hm; have := (hrf i hi).1.lt; omega
              · intro hxs a ha hm; have := hx _ hm; have := dj.hP i hi hxs a ha; omega
            rw [← u8s_append] at owA
            have hyl : (byV (xs k) (q k) o.n ++ [1, 2]).length = n21 + 2 := by rw [List.length_append, L21.out]; rfl
            generalize byV (xs k) (q k) o.n ++ [1, 2] = ys0 at owA hyl
            have Hyl := Lib.hid hyl
            have Hra := Lib.hid hra
            have Hfar := Lib.hid ofar
            generalize hn23 : n21 + 2 = n25 at *
            clear hyl hra ofar rr36n rf36n rr36 rf36 rr35 rf35 hrr hrf oA rA hA hpA ow21 hq21 ow23 hz35 hz36 dj
            go_wp2_with (first | (at_builtin; refine wpl_append (s := .tmp 180) (x := .tmp 181) rfl rfl rfl rfl Hra.out ?_))
            go_loopw [185] (fun i wf => ∃ (u : Nat) (ys : List UInt8), i = .int .i64 (u : Int) ∧ u ≤ n25 ∧ Hid (ys.length = n25) ∧ Own wf wn.heap.size 5 (.slice (some ⟨gA, 0, none⟩) n25 c') (u8s ys) ∧ Only [gA] wA wf) (fun i _ => n25 - (intOf i).toNat)
            case atStart => exact ⟨0, ys0, rfl, Nat.zero_le _, Hyl, owA, Only.refl _ _⟩
            case round =>
              obtain ⟨u, ys, rfl, hu, Hy, ow, of⟩ := hrel
              by_cases hun : u < n25
              · have hky : u < ys.length := by rw [Hy.out]; exact hun
                have hc := ow.cellAt (u8s_get hky)
                obtain ⟨hf, r2⟩ := ow.set hun (.int .u8 ((ys[u] ^^^ 99).toNat : Int))
                have hx99 := u8_xor99 ys[u]
                go_wp2_with fail
                go_roundw
                case rel => exact ⟨u + 1, ys.set u (ys[u] ^^^ 99), by go_num, by omega, Lib.hid (by rw [List.length_set]; exact Hy.out), by rw [← u8s_set]; exact r2, of.trans (Only.setCell _ _ _) (by simp)⟩
                case measure => simp [intOf]; omega
              · obtain rfl : u = n25 := by omega
                obtain ⟨z1, z2, z3⟩ := Hfar.out _ of
                go_wp2_with fail
                exact ⟨⟨j + 1, upd q k (byQ (xs k) (q k) o.n), by go_num, by omega, z1, z2, z3⟩, by simp [intOf]; omega⟩
          · generalize (wr.alloc (.cells #[.int .i64 o.kind, .int .i64 o.which, .int .i64 o.n, .slice o.p o.m o.c] 38)) = wn at *
            have hk4 := hrf.at hk2
            have hk5 := hrr.at hk2
            obtain ⟨a4, ha4⟩ : ∃ a, az[4]? = some a := ⟨_, List.getElem?_eq_getElem (by rw [hE.1]; omega)⟩
            have hEa := hE''.2.2 4 _ a4 rfl ha4
            have hcm0 := hk4.1.cell (i := 0) rfl
            have hcm1 := hk4.1.cell (i := 1) rfl
            have hqN : q k ≤ N k := hk4.2.2.2.2.2.2.2
            have e1 : (N k : Int) - (q k : Int) = (((xs k).length - q k : Nat) : Int) := by omega
            have hleft := fun w' (h : Only [] wn w') => rdLeft_any w' (F k) (B k) (xs k) (q k) (hk5.only0 h) (by omega)
            have hend := fun w' (h : Only [] wn w') => rdEnd_any w' (F k) (B k) (xs k) (q k) _ (hk5.only0 h) (by omega) (hEa.only0 h).cell
            clear hk4 hk5
            generalize (xs k).length - q k = z at e1 hleft hend
            generalize hX : (if z = 0 then Value.nilIface else .iface 86 (.pointer (some a4))) = X at hend
            rcases Nat.eq_zero_or_pos z with hz | hz
            · rw [if_pos hz] at hX
              subst hX
              have hb1 : ((z : Int) == 0) = true := by simp [hz]
              have hb2 : decide (0 < z) = false := by simp [hz]
              clear hz
              go_quiet (fail)
              go_wp2_with fail
              (with_reducible refine (hend _ (Only.drewN _ _)).mono ?_)
              rintro e wd ⟨rfl, od⟩
              have od' := (Only.drewN wn _).trans0 od
              have hcRd := od'.cell hcR' (by simp)
              go_wp2_with fail
              (with_reducible refine (hleft _ od').mono ?_)
              rintro e wf ⟨rfl, df⟩
              have of' := od'.trans0 df.only
              go_wp2_with fail
              exact ⟨⟨j + 1, q, by go_num, by omega, oqn.trans0 of', hrr.only0 of', hrf.only0 of'⟩, by simp [intOf]; omega⟩
            · rw [if_neg (by omega)] at hX
              subst hX
              have hb1 : ((z : Int) == 0) = false := by simp; omega
              have hb2 : decide (0 < z) = true := by simp; omega
              clear hz
              go_quiet (fail)
              go_wp2_with fail
              (with_reducible refine (hend _ (Only.drewN _ _)).mono ?_)
              rintro e wd ⟨rfl, od⟩
              have od' := (Only.drewN wn _).trans0 od
              have hcRd := od'.cell hcR' (by simp)
              go_wp2_with fail
              (with_reducible refine (hleft _ od').mono ?_)
              rintro e wf ⟨rfl, df⟩
              have of' := od'.trans0 df.only
              have hEf := (hEa.only0 of').cell
              have hneq := err_neq_same wf a4
              go_wp2_with fail
              exact ⟨⟨j + 1, q, by go_num, by omega, oqn.trans0 of', hrr.only0 of', hrf.only0 of'⟩, by simp [intOf]; omega⟩
          · exact ⟨⟨j + 1, q, by go_num, by omega, oqn, hrr, hrf⟩, by simp [intOf]; omega⟩
        · skip
          go_wp2_with fail
          go_ret
          exact ⟨rfl, how0.transN oq hwS⟩
end Go.Proofs.YtkhccchjflmcmaaDoor
