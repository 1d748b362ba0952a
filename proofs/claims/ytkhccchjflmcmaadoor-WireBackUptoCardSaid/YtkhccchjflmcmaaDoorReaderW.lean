/- The walks of package wire: the reader. -/
import Derived.Test.YtkhccchjflmcmaaDoorWireW
import Derived.Test.YtkhccchjflmcmaaDoorReadMath
import Derived.Test.YtkhccchjflmcmaaDoorErrs
import Derived.Test.YtkhccchjflmcmaaDoorOpenAllW
import Derived.OwnWalk
set_option linter.unusedVariables false
namespace Go.Proofs.YtkhccchjflmcmaaDoor
open Go.RowKit

/-- a reader's cells: at the block B, its bytes xs, its place; all its blocks in F -/
def Rr (w : World) (F : List Nat) (B : Nat) (xs : List UInt8) (pl : Nat) : Prop :=
  ∃ p c, F = B :: blk p ∧ Row w B 77 [.slice p xs.length c, .int .i64 (pl : Int)] ∧ Own w 0 5 (.slice p xs.length c) (u8s xs) ∧ B ∉ blk p ∧ pl ≤ xs.length

theorem newReader (p : Option Addr) (xs : List UInt8) (n c : Nat) (w : World) (hn : xs.length = n) (hb : n ≤ 140737488355328) (hp : p = none → n = 0 ∧ c = 0) (hx : Rd w p (u8s xs)) :
    Calls Tryd.prog 21 #[.slice p n c] w fun e w' => ∃ B F, e = .returned (.pointer (some ⟨B, 0, none⟩)) ∧ Rr w' F B xs 0 ∧ Only [] w w' ∧ (∀ k ∈ F, w.heap.size ≤ k) := by
  have hcl := clone_any p xs n c w hn hb hp hx
  go_enter Tryd.func21, Tryd.ntmps21
  go_wp2_with fail
  refine hcl.mono ?_
  rintro e w1 ⟨p1, c1, rfl, o, ho⟩
  go_wp2_with fail
  go_ret
  refine ⟨w1.heap.size, w1.heap.size :: blk p1, rfl, ⟨p1, c1, rfl, ?_, ?_, ?_, Nat.zero_le _⟩, ho.trans0 (Only.alloc _ _), ?_⟩
  · rw [hn]; exact Row.new w1 _ _
  · rw [hn]; exact (o.only0 (Only.alloc _ _)).weaken (Nat.zero_le _)
  · intro hm
    have := (blk_own o _ hm).2
    omega
  · intro k hk
    rcases List.mem_cons.1 hk with rfl | hk
    · exact ho.size
    · exact (blk_own o _ hk).1

theorem pow128 {j : Nat} (hj : j < 9) : (128 : Nat) ^ j ≤ 72057594037927936 :=
  Nat.le_trans (Nat.pow_le_pow_right (by omega) (show j ≤ 8 by omega)) (by decide +kernel)
theorem pow7 (j : Nat) : (2 : Nat) ^ (7 * j) = 128 ^ j := by rw [Nat.pow_mul]
theorem wrap_nat (q : Nat) (h : q ≤ 9223372036854775807) : wrap64 (q : Int) = q := by unfold wrap64; omega
theorem num_or (v q k : Nat) (hv : v < 2 ^ k) : v ||| q * 2 ^ k = v + q * 2 ^ k := by
  rw [Nat.or_comm, Nat.mul_comm, ← Nat.two_pow_add_eq_or_of_lt hv, Nat.add_comm]
theorem num_lim (v q k : Nat) (hk : k ≤ 72057594037927936) (hv : v < k) (hq : q < 128) : q * k ≤ 9151314442816847872 ∧ v + q * k ≤ 9223372036854775807 := by
  have : q * k ≤ 127 * 72057594037927936 := Nat.mul_le_mul (by omega) hk
  omega
theorem num_step (v : Nat) (x : UInt8) (j : Nat) (hj : j < 9) (hv : v < 128 ^ j) : bits .or .i64 (v : Int) (wrap64 (wrap64 (bits .and .u8 (x.toNat : Int) 127) * 2 ^ (7 * j))) = ((v + x.toNat % 128 * 128 ^ j : Nat) : Int) := by
  have e1 : bits .and .u8 (x.toNat : Int) 127 = ((x.toNat % 128 : Nat) : Int) := by
    have := u8_and_nat x.toNat 127 x.toNat_lt (by omega)
    rw [show (127 : Nat) = 2 ^ 7 - 1 from rfl, Nat.and_two_pow_sub_one_eq_mod] at this
    exact this
  have hm : x.toNat % 128 < 128 := Nat.mod_lt _ (by omega)
  have hl := num_lim v (x.toNat % 128) (128 ^ j) (pow128 hj) hv hm
  rw [e1]
  generalize x.toNat % 128 = q at hm hl
  have e3 : (q : Int) * 2 ^ (7 * j) = ((q * 128 ^ j : Nat) : Int) := by
    have h8 : ((2 : Int) ^ (7 * j)) = ((128 ^ j : Nat) : Int) := by rw [← pow7]; simp
    rw [h8, Int.natCast_mul]
  have h1 := num_or v q (7 * j) (by rw [pow7]; exact hv)
  rw [pow7] at h1
  rw [wrap_nat q (by omega), e3, wrap_nat _ (by omega), i64_or_nat _ _ (by omega) (by omega), h1]

/-- what the number at a place answers -/
def NumAns (xs : List UInt8) (pl : Nat) (e : Ending) : Prop := ∃ a b ok, e = .returned (.tuple #[.int .i64 a, .int .i64 b, .bool ok]) ∧
  (ok = true → ∃ n l : Nat, Says (xs.drop pl) n l ∧ a = (n : Int) ∧ b = (pl : Int) + (l : Int)) ∧ (ok = false → ¬ ∃ n l : Nat, Says (xs.drop pl) n l)
theorem NumAns.no {xs : List UInt8} {pl : Nat} {e : Ending} {a b : Int} (h : ¬ ∃ n l : Nat, Says (xs.drop pl) n l) (he : e = .returned (.tuple #[.int .i64 a, .int .i64 b, .bool false])) : NumAns xs pl e :=
  ⟨a, b, false, he, fun h => (by cases h), fun _ => h⟩
theorem NumAns.yes {xs : List UInt8} {pl : Nat} {e : Ending} {a b : Int} {n l : Nat} (h : Says (xs.drop pl) n l) (ha : a = (n : Int)) (hb : b = (pl : Int) + (l : Int)) (he : e = .returned (.tuple #[.int .i64 a, .int .i64 b, .bool true])) : NumAns xs pl e :=
  ⟨a, b, true, he, fun _ => ⟨n, l, h, ha, hb⟩, fun h => (by cases h)⟩

set_option maxRecDepth 100000 in
theorem number_any (w : World) (F : List Nat) (B : Nat) (xs : List UInt8) (pl : Nat) (hr : Rr w F B xs pl) (hb : xs.length ≤ 140737488355328) :
    Calls Tryd.prog 39 #[.pointer (some ⟨B, 0, none⟩), .int .i64 (pl : Int)] w fun e w' => NumAns xs pl e ∧ w = w' := by
  obtain ⟨p, c, -, r, o, -, hpl⟩ := hr
  have hc0 := r.cell (i := 0) rfl
  obtain ⟨rd, -, hp, hcp, hcp2, -⟩ := o.view
  go_enter Tryd.func39, Tryd.ntmps39
  go_wp2_with fail
  go_loop [10, 7] (fun i z => ∃ j : Nat, j ≤ 9 ∧ i = .int .i64 (j : Int) ∧ z = .int .i64 (val7 ((xs.drop pl).take j) : Int) ∧ Hid (∀ q x, q < j → (xs.drop pl)[q]? = some x → 128 ≤ x.toNat) ∧ Hid (pl + j ≤ xs.length)) (fun i _ => 9 - (intOf i).toNat)
  case atStart => exact ⟨0, by omega, rfl, rfl, fun q x hq => by omega, by show _ ≤ _; omega⟩
  case round =>
    obtain ⟨j, hj, rfl, rfl, Hj, Hl⟩ := hrel
    by_cases h9 : j < 9
    · by_cases hlt : pl + j < xs.length
      · obtain ⟨b0, off, rfl, hyc⟩ := rd.bytes (by omega)
        have hc1 := hyc (pl + j) hlt
        have hxj : (xs.drop pl)[j]? = some xs[pl + j] := by rw [List.getElem?_drop, List.getElem?_eq_getElem hlt]
        have Hxj := Lib.hid hxj
        clear hyc hxj
        generalize xs[pl + j] = x at hc1 Hxj
        have hv := val7_lt ((xs.drop pl).take j)
        have hlt' : ((xs.drop pl).take j).length = j := by rw [List.length_take, List.length_drop]; omega
        rw [hlt'] at hv
        have hstep := num_step _ x j h9 hv
        have hva : val7 ((xs.drop pl).take (j + 1)) = val7 ((xs.drop pl).take j) + x.toNat % 128 * 128 ^ j := by
          rw [List.take_add_one, Hxj.out]
          have := val7_append ((xs.drop pl).take j) x
          rw [hlt'] at this
          exact this
        rw [← hva] at hstep
        clear hva hv hlt'
        by_cases h128 : 128 ≤ x.toNat
        · skip
          go_wp2_with fail
          go_round
          case rel =>
            refine ⟨j + 1, by omega, by go_num, rfl, Lib.hid ?_, Lib.hid (by omega)⟩
            intro q y hq hy
            by_cases e : q = j
            · subst e
              rw [Hxj.out] at hy
              obtain rfl := Option.some.inj hy
              exact h128
            · exact Hj.out q y (by omega) hy
          case measure => simp [intOf]; omega
        · have hlo : x.toNat < 128 := by omega
          clear h128
          by_cases h0 : x.toNat = 0
          · by_cases hj0 : j = 0
            · have hs := says_of h9 Hxj.out hlo (.inr hj0) Hj.out
              have Hs := Lib.hid hs
              have h1 : ((x.toNat : Int) == 0) = true := by simp [h0]
              have h2 : ((j : Int) == 0) = true := by simp [hj0]
              have h3 : ((x.toNat : Int) != 0) = false := by simp [h0]
              clear hs h0 hj0
              go_wp2_with fail
              go_ret3
              exact ⟨NumAns.yes (l := j + 1) (b := (pl : Int) + (j : Int) + 1) Hs.out rfl (by omega) rfl, rfl⟩
            · have hno : ¬ ∃ n l : Nat, Says (xs.drop pl) n l := by
                rintro ⟨n, l, h⟩
                obtain ⟨i, c', rfl, h1, h2, h3, h4, h5⟩ := h.at
                rcases Nat.lt_trichotomy i j with hlt2 | rfl | hlt2
                · have := Hj.out i c' hlt2 h2; omega
                · rw [Hxj.out] at h2
                  obtain rfl := Option.some.inj h2
                  omega
                · have := h5 j x hlt2 Hxj.out; omega
              have Hno := Lib.hid hno
              have h1 : ((x.toNat : Int) == 0) = true := by simp [h0]
              have h2 : ((j : Int) == 0) = false := by simp; omega
              clear hno
              go_wp2_with fail
              go_ret3
              exact ⟨NumAns.no Hno.out rfl, rfl⟩
          · have hs := says_of h9 Hxj.out hlo (.inl h0) Hj.out
            have Hs := Lib.hid hs
            have h1 : ((x.toNat : Int) == 0) = false := by simp; omega
            clear hs
            go_wp2_with fail
            go_ret3
            exact ⟨NumAns.yes (l := j + 1) (b := (pl : Int) + (j : Int) + 1) Hs.out rfl (by omega) rfl, rfl⟩
      · have hno : ¬ ∃ n l : Nat, Says (xs.drop pl) n l := by
          rintro ⟨n, l, h⟩
          obtain ⟨i, c, rfl, h1, h2, h3, _, _⟩ := h.at
          have hi := (List.getElem?_eq_some_iff.1 h2).1
          rw [List.length_drop] at hi
          have := Hj.out i c (by omega) h2
          omega
        have Hno := Lib.hid hno
        clear hno
        go_wp2_with fail
        go_ret3
        exact ⟨NumAns.no Hno.out rfl, rfl⟩
    · have hno : ¬ ∃ n l : Nat, Says (xs.drop pl) n l := by
        rintro ⟨n, l, h⟩
        obtain ⟨i, c, rfl, h1, h2, h3, _, _⟩ := h.at
        have := Hj.out i c (by omega) h2
        omega
      have Hno := Lib.hid hno
      clear hno
      go_wp2_with fail
      go_ret3
      exact ⟨NumAns.no Hno.out rfl, rfl⟩

/-- the number at a place, and how long it is -/
noncomputable def numAt (xs : List UInt8) (pl : Nat) : Option (Nat × Nat) :=
  have := Classical.propDecidable (∃ z : Nat × Nat, Says (xs.drop pl) z.1 z.2)
  if h : ∃ z : Nat × Nat, Says (xs.drop pl) z.1 z.2 then some h.choose else none
theorem numAt_yes {xs : List UInt8} {pl n l : Nat} (h : Says (xs.drop pl) n l) : numAt xs pl = some (n, l) := by
  have he : ∃ z : Nat × Nat, Says (xs.drop pl) z.1 z.2 := ⟨(n, l), h⟩
  have e1 := he.choose_spec.uniq h
  unfold numAt
  rw [dif_pos he]
  exact congrArg some (Prod.ext e1.1 e1.2)
theorem numAt_no {xs : List UInt8} {pl : Nat} (h : ¬ ∃ n l : Nat, Says (xs.drop pl) n l) : numAt xs pl = none := by
  unfold numAt
  rw [dif_neg (fun ⟨z, hz⟩ => h ⟨z.1, z.2, hz⟩)]
theorem numAt_some {xs : List UInt8} {pl n l : Nat} (h : numAt xs pl = some (n, l)) : Says (xs.drop pl) n l := by
  by_cases he : ∃ n l : Nat, Says (xs.drop pl) n l
  · obtain ⟨a, b, hs⟩ := he
    rw [numAt_yes hs] at h
    obtain ⟨rfl, rfl⟩ := Prod.mk.inj (Option.some.inj h)
    exact hs
  · rw [numAt_no he] at h
    cases h
/-- what Num answers: the number, and the place behind it -/
noncomputable def numOk (xs : List UInt8) (pl : Nat) (most : Int) : Option (Nat × Nat) := (numAt xs pl).bind fun z => if (z.1 : Int) ≤ most then some (z.1, pl + z.2) else none
/-- what Bytes answers -/
noncomputable def byOk (xs : List UInt8) (pl : Nat) (most : Int) : Option (List UInt8 × Nat) := (numAt xs pl).bind fun z => if (z.1 : Int) ≤ most ∧ pl + z.2 + z.1 ≤ xs.length then some ((xs.drop (pl + z.2)).take z.1, pl + z.2 + z.1) else none
noncomputable def numV (xs : List UInt8) (pl : Nat) (most : Int) : Nat := ((numOk xs pl most).map (·.1)).getD 0
noncomputable def numQ (xs : List UInt8) (pl : Nat) (most : Int) : Nat := ((numOk xs pl most).map (·.2)).getD pl
noncomputable def numE (xs : List UInt8) (pl : Nat) (most : Int) : Nat := if (numOk xs pl most).isSome then 0 else 5
noncomputable def byV (xs : List UInt8) (pl : Nat) (most : Int) : List UInt8 := ((byOk xs pl most).map (·.1)).getD []
noncomputable def byQ (xs : List UInt8) (pl : Nat) (most : Int) : Nat := ((byOk xs pl most).map (·.2)).getD pl
noncomputable def byE (xs : List UInt8) (pl : Nat) (most : Int) : Nat := if (byOk xs pl most).isSome then 0 else 5

theorem Rr.lt {w : World} {F : List Nat} {B : Nat} {xs : List UInt8} {pl : Nat} (h : Rr w F B xs pl) : ∀ k ∈ F, k < w.heap.size := by
  obtain ⟨p, c, rfl, r, o, hne, hpl⟩ := h
  intro k hk
  rcases List.mem_cons.1 hk with rfl | hk
  · exact r.lt
  · exact (blk_own o _ hk).2
theorem Rr.only {S : List Nat} {w w' : World} {F : List Nat} {B : Nat} {xs : List UInt8} {pl : Nat} (h : Rr w F B xs pl) (ho : Only S w w') (hn : ∀ k ∈ F, k ∉ S) : Rr w' F B xs pl := by
  obtain ⟨p, c, rfl, r, o, hne, hpl⟩ := h
  refine ⟨p, c, rfl, r.only ho (hn B (by simp)), o.only ho ?_, hne, hpl⟩
  intro k hk
  cases p with
  | none => simp [Value.ownBlock] at hk
  | some a => simp [Value.ownBlock] at hk; subst hk; exact hn _ (by simp [blk])
theorem Rr.only0 {w w' : World} {F : List Nat} {B : Nat} {xs : List UInt8} {pl : Nat} (h : Rr w F B xs pl) (ho : Only [] w w') : Rr w' F B xs pl := h.only ho (by simp)
theorem Rr.head {w : World} {F : List Nat} {B : Nat} {xs : List UInt8} {pl : Nat} (h : Rr w F B xs pl) : B ∈ F := by
  obtain ⟨p, c, rfl, _⟩ := h; simp
/-- the place moved -/
theorem Rr.move {w : World} {F : List Nat} {B : Nat} {xs : List UInt8} {pl q : Nat} (h : Rr w F B xs pl) (hq : q ≤ xs.length) : Rr (w.setCell ⟨B, 1, none⟩ (.int .i64 (q : Int))) F B xs q := by
  obtain ⟨p, c, rfl, r, o, hne, hpl⟩ := h
  refine ⟨p, c, rfl, r.setCell 1 _, o.only (Only.setCell _ _ _) ?_, hne, hq⟩
  intro k hk
  cases p with
  | none => simp [Value.ownBlock] at hk
  | some a => simp [Value.ownBlock] at hk; simp [blk] at hne; simp; omega

theorem number_yes (w : World) (F : List Nat) (B : Nat) (xs : List UInt8) (pl n l : Nat) (hr : Rr w F B xs pl) (hb : xs.length ≤ 140737488355328) (h : Says (xs.drop pl) n l) :
    Calls Tryd.prog 39 #[.pointer (some ⟨B, 0, none⟩), .int .i64 (pl : Int)] w fun e w' => e = .returned (.tuple #[.int .i64 (n : Int), .int .i64 ((pl + l : Nat) : Int), .bool true]) ∧ w = w' := by
  refine (number_any w F B xs pl hr hb).mono ?_
  rintro e w' ⟨⟨a, b, ok, rfl, h1, h2⟩, rfl⟩
  cases ok
  · exact absurd ⟨n, l, h⟩ (h2 rfl)
  · obtain ⟨n', l', h3, rfl, rfl⟩ := h1 rfl
    obtain ⟨rfl, rfl⟩ := h.uniq h3
    exact ⟨by rw [Int.natCast_add], rfl⟩
theorem number_no (w : World) (F : List Nat) (B : Nat) (xs : List UInt8) (pl : Nat) (hr : Rr w F B xs pl) (hb : xs.length ≤ 140737488355328) (h : ¬ ∃ n l : Nat, Says (xs.drop pl) n l) :
    Calls Tryd.prog 39 #[.pointer (some ⟨B, 0, none⟩), .int .i64 (pl : Int)] w fun e w' => ∃ a b, e = .returned (.tuple #[.int .i64 a, .int .i64 b, .bool false]) ∧ w = w' := by
  refine (number_any w F B xs pl hr hb).mono ?_
  rintro e w' ⟨⟨a, b, ok, rfl, h1, h2⟩, rfl⟩
  cases ok
  · exact ⟨a, b, rfl, rfl⟩
  · obtain ⟨n', l', h3, _⟩ := h1 rfl
    exact absurd ⟨n', l', h3⟩ h

/-- Num where there is one -/
theorem rdNum_yes (w : World) (F : List Nat) (B : Nat) (xs : List UInt8) (pl n l : Nat) (most : Int) (hr : Rr w F B xs pl) (hb : xs.length ≤ 140737488355328) (h : Says (xs.drop pl) n l) (hm : (n : Int) ≤ most) :
    Calls Tryd.prog 22 #[.pointer (some ⟨B, 0, none⟩), .int .i64 most] w fun e w' => e = .returned (.tuple #[.int .i64 (n : Int), .nilIface]) ∧ Rr w' F B xs (pl + l) ∧ Only [B] w w' := by
  have hnum := number_yes w F B xs pl n l hr hb h
  have hmv := hr.move (q := pl + l) (by have := h.2.2; rw [List.length_drop] at this; obtain ⟨_, _, _, _, _, _, h5⟩ := hr; omega)
  obtain ⟨p, c, -, r, -, -, -⟩ := hr
  have h1 := r.cell (i := 1) rfl
  have hf := r.free 1
  have hd : (decide (most < (n : Int))) = false := by simp; omega
  clear r h hm
  go_enter Tryd.func22, Tryd.ntmps22
  go_wp2_with fail
  refine hnum.mono ?_
  rintro e w' ⟨rfl, rfl⟩
  go_wp2_with fail
  go_ret2
  exact ⟨rfl, hmv, Only.setCell w ⟨B, 1, none⟩ _⟩
/-- Num where there is none, or too large a one -/
theorem rdNum_no (w : World) (F : List Nat) (B : Nat) (xs : List UInt8) (pl : Nat) (most : Int) (E : Value) (hr : Rr w F B xs pl) (hb : xs.length ≤ 140737488355328) (hE : w.cell? ⟨1, 0, none⟩ = some E) (h : ∀ n l : Nat, Says (xs.drop pl) n l → most < (n : Int)) :
    Calls Tryd.prog 22 #[.pointer (some ⟨B, 0, none⟩), .int .i64 most] w fun e w' => e = .returned (.tuple #[.int .i64 0, E]) ∧ Only [] w w' := by
  by_cases hs : ∃ n l : Nat, Says (xs.drop pl) n l
  · obtain ⟨n, l, hs⟩ := hs
    have hnum := number_yes w F B xs pl n l hr hb hs
    have hd : (decide (most < (n : Int))) = true := by simp; exact h n l hs
    obtain ⟨p, c, -, r, -, -, -⟩ := hr
    have h1 := r.cell (i := 1) rfl
    clear r h hs
    go_enter Tryd.func22, Tryd.ntmps22
    go_wp2_with fail
    refine hnum.mono ?_
    rintro e w' ⟨rfl, rfl⟩
    go_wp2_with fail
    go_quiet (fail)
    go_wp2_with fail
    go_ret2
    exact ⟨rfl, Only.drewN _ _⟩
  · have hnum := number_no w F B xs pl hr hb hs
    obtain ⟨p, c, -, r, -, -, -⟩ := hr
    have h1 := r.cell (i := 1) rfl
    clear r h hs
    go_enter Tryd.func22, Tryd.ntmps22
    go_wp2_with fail
    refine hnum.mono ?_
    rintro e w' ⟨a, b, rfl, rfl⟩
    go_wp2_with fail
    go_quiet (fail)
    go_wp2_with fail
    go_ret2
    exact ⟨rfl, Only.drewN _ _⟩

theorem rdNum_any (w : World) (F : List Nat) (B : Nat) (xs : List UInt8) (pl : Nat) (most : Int) (az : List Addr) (hE : ErrAll w az) (hr : Rr w F B xs pl) (hb : xs.length ≤ 140737488355328) :
    Calls Tryd.prog 22 #[.pointer (some ⟨B, 0, none⟩), .int .i64 most] w fun e w' => ∃ v, e = .returned (.tuple #[.int .i64 (numV xs pl most : Int), v]) ∧ ErrNo az (numE xs pl most) v ∧ Rr w' F B xs (numQ xs pl most) ∧ Only [B] w w' := by
  obtain ⟨a4, h4⟩ : ∃ a, az[4]? = some a := ⟨_, List.getElem?_eq_getElem (by rw [hE.1]; omega)⟩
  have hc := (hE.2.2 4 _ a4 rfl h4).cell
  by_cases h : ∃ n l : Nat, Says (xs.drop pl) n l ∧ (n : Int) ≤ most
  · obtain ⟨n, l, h, hm⟩ := h
    have e1 : numOk xs pl most = some (n, pl + l) := by rw [numOk, numAt_yes h]; simp [hm]
    refine (rdNum_yes w F B xs pl n l most hr hb h hm).mono ?_
    rintro e w' ⟨rfl, h1, h2⟩
    exact ⟨.nilIface, by rw [numV, e1]; rfl, .inl ⟨by rw [numE, e1]; rfl, rfl⟩, by rw [numQ, e1]; exact h1, h2⟩
  · have h' : ∀ n l : Nat, Says (xs.drop pl) n l → most < (n : Int) := fun n l hs => by
      rcases Int.lt_or_le most (n : Int) with k | k
      · exact k
      · exact absurd ⟨n, l, hs, k⟩ h
    have e1 : numOk xs pl most = none := by
      rw [numOk]
      cases e : numAt xs pl with
      | none => rfl
      | some z =>
        have := h' z.1 z.2 (numAt_some (by rw [e]))
        show (if (z.1 : Int) ≤ most then some (z.1, pl + z.2) else none) = none
        rw [if_neg (by omega)]
    refine (rdNum_no w F B xs pl most _ hr hb hc h').mono ?_
    rintro e w' ⟨rfl, h1⟩
    exact ⟨_, by rw [numV, e1]; rfl, .inr ⟨a4, by rw [numE, e1]; decide, by rw [numE, e1]; exact h4, rfl⟩, by rw [numQ, e1]; exact hr.only0 h1, h1.mono (by simp)⟩
end Go.Proofs.YtkhccchjflmcmaaDoor
