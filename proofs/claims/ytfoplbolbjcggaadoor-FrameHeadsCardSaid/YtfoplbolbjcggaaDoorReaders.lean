/- Plain laws of reading a number's bytes. No program in sight; wire.Open and bollardref05.Open, all answers in one; an error's number; The walks of package wire: the reader; The walks of package wire: the reader's Bytes, Text, Left, End; The walks of bollardref05: Num, Bytes; The walk of bollardref05.Read. -/
import Derived.Test.YtfoplbolbjcggaaDoorWires
import Derived.Test.YtfoplbolbjcggaaDoorErrNumW
import Derived.Test.YtfoplbolbjcggaaDoorErrs
import Derived.OwnWalk
set_option linter.unusedVariables false
set_option maxRecDepth 100000
section
set_option linter.unusedVariables false
namespace Go.Proofs.YtfoplbolbjcggaaDoor
open Go.RowKit

/-- the number that bytes say, the first one the least -/
def val7 : List UInt8 → Nat
  | [] => 0
  | c :: r => c.toNat % 128 + 128 * val7 r
theorem val7_lt : ∀ (cs : List UInt8), val7 cs < 128 ^ cs.length
  | [] => by simp [val7]
  | c :: r => by
    have := val7_lt r
    have h : c.toNat % 128 < 128 := Nat.mod_lt _ (by omega)
    simp only [val7, List.length_cons, Nat.pow_succ]
    omega
theorem val7_append : ∀ (cs : List UInt8) (c : UInt8), val7 (cs ++ [c]) = val7 cs + c.toNat % 128 * 128 ^ cs.length
  | [], c => by simp [val7]
  | x :: r, c => by
    simp only [List.cons_append, val7, val7_append r c, List.length_cons, Nat.pow_succ]
    rw [Nat.mul_add]
    have : 128 * (c.toNat % 128 * 128 ^ r.length) = c.toNat % 128 * (128 ^ r.length * 128) := by
      rw [Nat.mul_comm 128, Nat.mul_assoc]
    omega
theorem ofNat_eq (c : UInt8) (k : Nat) (h : k = c.toNat) : UInt8.ofNat k = c := by
  subst h; exact UInt8.toNat_inj.1 (by rw [UInt8.toNat_ofNat']; have := c.toNat_lt; omega)
theorem val7_pos : ∀ (cs : List UInt8) (c : UInt8), c.toNat < 128 → c.toNat ≠ 0 → 0 < val7 (cs ++ [c])
  | [], c, h, h0 => by simp [val7]; omega
  | x :: r, c, h, h0 => by
    have := val7_pos r c h h0
    simp only [List.cons_append, val7]; omega
theorem nb_val7 : ∀ (cs : List UInt8) (c : UInt8), (∀ x ∈ cs, 128 ≤ x.toNat) → c.toNat < 128 → (c.toNat ≠ 0 ∨ cs = []) → nb (val7 (cs ++ [c])) = cs ++ [c]
  | [], c, _, h, _ => by
    have e : val7 ([] ++ [c]) = c.toNat := by simp [val7]; omega
    rw [e, nb_lo h, ofNat_eq c _ rfl]; rfl
  | x :: r, c, hx, h, h0 => by
    have h1 := hx x (by simp)
    have h2 := x.toNat_lt
    have hc0 : c.toNat ≠ 0 := h0.resolve_right (by simp)
    have hp := val7_pos r c h hc0
    simp only [List.cons_append, val7]
    rw [nb_hi (by omega)]
    have e1 : (x.toNat % 128 + 128 * val7 (r ++ [c])) % 128 + 128 = x.toNat := by omega
    have e2 : (x.toNat % 128 + 128 * val7 (r ++ [c])) / 128 = val7 (r ++ [c]) := by omega
    rw [e1, e2, ofNat_eq x _ rfl, nb_val7 r c (fun y hy => hx y (by simp [hy])) h (.inl hc0)]
theorem nb_shape : ∀ (n : Nat), ∃ cs c, nb n = cs ++ [c] ∧ (∀ x ∈ cs, 128 ≤ x.toNat) ∧ c.toNat < 128 ∧ (c.toNat ≠ 0 ∨ cs = []) := by
  intro n
  induction n using Nat.strongRecOn with
  | _ n ih =>
    by_cases h : n < 128
    · exact ⟨[], UInt8.ofNat n, by rw [nb_lo h]; rfl, by simp, by rw [UInt8.toNat_ofNat']; omega, .inr rfl⟩
    · obtain ⟨cs, c, h1, h2, h3, h4⟩ := ih (n / 128) (by omega)
      refine ⟨UInt8.ofNat (n % 128 + 128) :: cs, c, by rw [nb_hi (by omega), h1]; rfl, ?_, h3, .inl ?_⟩
      · intro x hx
        rcases List.mem_cons.1 hx with rfl | hx
        · rw [UInt8.toNat_ofNat']; omega
        · exact h2 x hx
      · rcases h4 with h4 | h4
        · exact h4
        · subst h4
          intro h0
          by_cases h5 : n / 128 < 128
          · rw [nb_lo h5] at h1
            have := congrArg (fun l : List UInt8 => l.map UInt8.toNat) h1
            simp at this
            omega
          · rw [nb_hi (by omega)] at h1
            have hl := congrArg List.length h1
            have := nb_pos (n / 128 / 128)
            simp at hl
            rw [hl] at this
            simp at this
theorem val7_nb (n : Nat) : val7 (nb n) = n := by
  induction n using Nat.strongRecOn with
  | _ n ih =>
    by_cases h : n < 128
    · rw [nb_lo h]; simp [val7]; omega
    · rw [nb_hi (by omega)]
      simp only [val7, ih (n / 128) (by omega)]
      rw [UInt8.toNat_ofNat']; omega

/-- the bytes begin with the number n, in l bytes -/
def Says (xs : List UInt8) (n l : Nat) : Prop := n < 9223372036854775808 ∧ nb n = xs.take l ∧ l ≤ xs.length
theorem Says.len {xs : List UInt8} {n l : Nat} (h : Says xs n l) : l = (nb n).length := by rw [h.2.1, List.length_take]; have := h.2.2; omega
theorem Says.uniq {xs : List UInt8} {n l m k : Nat} (h : Says xs n l) (h2 : Says xs m k) : n = m ∧ l = k := by
  by_cases e : n = m
  · subst e; exact ⟨rfl, h.len.trans h2.len.symm⟩
  · exfalso
    obtain ⟨i, x, y, h3, h4, h5⟩ := nb_apart n m e
    rw [h.2.1] at h3
    rw [h2.2.1] at h4
    rw [List.getElem?_take] at h3 h4
    split at h3
    · split at h4
      · rw [h3] at h4; exact h5 (Option.some.inj h4)
      · cases h4
    · cases h3
/-- what stands at the first byte below 128 -/
theorem Says.at {xs : List UInt8} {n l : Nat} (h : Says xs n l) : ∃ i c, l = i + 1 ∧ i < 9 ∧ xs[i]? = some c ∧ c.toNat < 128 ∧ (c.toNat ≠ 0 ∨ i = 0) ∧ (∀ j x, j < i → xs[j]? = some x → 128 ≤ x.toNat) := by
  obtain ⟨cs, c, h1, h2, h3, h4⟩ := nb_shape n
  have h9 := nb_len9 n h.1
  have hl := h.len
  rw [h1] at hl h9
  simp at hl h9
  have ht : xs.take l = cs ++ [c] := by rw [← h.2.1, h1]
  refine ⟨cs.length, c, hl, by omega, ?_, h3, h4.imp id (fun e => by rw [e]; rfl), ?_⟩
  · have := congrArg (·[cs.length]?) ht
    simp only [List.getElem?_take, List.getElem?_append_right (Nat.le_refl _), Nat.sub_self] at this
    rw [if_pos (by omega)] at this
    simpa using this
  · intro j x hj hx
    have := congrArg (·[j]?) ht
    simp only [List.getElem?_take, List.getElem?_append_left hj] at this
    rw [if_pos (by omega), hx] at this
    exact h2 x (List.mem_of_getElem? this.symm)
/-- bytes of 128 and more, then one below -/
theorem says_of {xs : List UInt8} {i : Nat} {c : UInt8} (hi : i < 9) (hc : xs[i]? = some c) (h : c.toNat < 128) (h0 : c.toNat ≠ 0 ∨ i = 0) (hb : ∀ j x, j < i → xs[j]? = some x → 128 ≤ x.toNat) : Says xs (val7 (xs.take (i + 1))) (i + 1) := by
  have hl := (List.getElem?_eq_some_iff.1 hc).1
  have e : xs.take (i + 1) = xs.take i ++ [c] := by rw [List.take_add_one, hc]; rfl
  refine ⟨?_, ?_, by omega⟩
  · have := val7_lt (xs.take (i + 1))
    rw [List.length_take, Nat.min_eq_left (by omega)] at this
    have h2 : 128 ^ (i + 1) ≤ 128 ^ 9 := Nat.pow_le_pow_right (by omega) (by omega)
    have h3 : (128 : Nat) ^ 9 = 9223372036854775808 := by decide
    omega
  · rw [e]
    refine nb_val7 _ c ?_ h (h0.imp id (fun e => by subst e; rfl))
    intro x hx
    obtain ⟨j, hj⟩ := List.getElem?_of_mem hx
    rw [List.getElem?_take] at hj
    split at hj
    · exact hb j x (by assumption) hj
    · cases hj
end Go.Proofs.YtfoplbolbjcggaaDoor
end
section
set_option linter.unusedVariables false
namespace Go.Proofs.YtfoplbolbjcggaaDoor
open Go.RowKit

/-- the value of the error with a number (0: nil) -/
def ErrNo (az : List Addr) (k : Nat) (v : Value) : Prop := (k = 0 ∧ v = .nilIface) ∨ ∃ a, 1 ≤ k ∧ az[k - 1]? = some a ∧ v = ev a
theorem num_all (w : World) (az : List Addr) (k : Nat) (v : Value) (h : ErrAll w az) (hv : ErrNo az k v) : Calls Tryd.prog 26 #[v] w fun e w' => e = .returned (.int .i64 (k : Int)) ∧ Only [] w w' := by
  rcases hv with ⟨rfl, rfl⟩ | ⟨a, h1, h2, rfl⟩
  · refine (num_nil w).mono ?_
    rintro e w' ⟨rfl, rfl⟩
    exact ⟨rfl, Only.refl _ _⟩
  · refine (num_err w az (k - 1) a h h2).mono ?_
    rintro e w' ⟨rfl, ho⟩
    exact ⟨congrArg (fun z => Ending.returned (.int .i64 z)) (by omega), ho⟩

/-- what Open answers: the bytes, the error's number -/
def openBy (xs : List UInt8) : List UInt8 := if xs.length < 4 then [] else if sealB (xs.take (xs.length - 4)) = xs then xs.take (xs.length - 4) else []
def openNo (xs : List UInt8) : Nat := if xs.length < 4 then 5 else if sealB (xs.take (xs.length - 4)) = xs then 0 else 6

theorem open_all (p : Option Addr) (xs : List UInt8) (n c : Nat) (az : List Addr) (w : World) (hE : ErrAll w az) (hn : xs.length = n) (hnc : n ≤ c) (hb : n ≤ 140737488351236) (hc63 : c ≤ 9223372036854775807) (hp : p = none → n = 0 ∧ c = 0) (hx : Rd w p (u8s xs)) :
    Calls Tryd.prog 92 #[.slice p n c] w fun e w' => ∃ q k d v, e = .returned (.tuple #[.slice q k d, v]) ∧ Hid ((openBy xs).length = k) ∧ Own w' w.heap.size 5 (.slice q k d) (u8s (openBy xs)) ∧ ErrNo az (openNo xs) v ∧ Only [] w w' := by
  obtain ⟨a4, h4⟩ : ∃ a, az[4]? = some a := ⟨_, List.getElem?_eq_getElem (by rw [hE.1]; omega)⟩
  obtain ⟨a5, h5⟩ : ∃ a, az[5]? = some a := ⟨_, List.getElem?_eq_getElem (by rw [hE.1]; omega)⟩
  by_cases hs : n < 4
  · have e1 : openBy xs = [] := by rw [openBy, if_pos (by omega)]
    have e2 : openNo xs = 5 := by rw [openNo, if_pos (by omega)]
    refine (open_short p n c w a4 (hE.2.2 4 _ a4 rfl h4) hs).mono ?_
    rintro e w' ⟨rfl, ho⟩
    exact ⟨none, 0, 0, _, rfl, by rw [e1]; rfl, by rw [e1]; exact Own.nil _ _ _, .inr ⟨a4, by omega, by rw [e2]; exact h4, rfl⟩, ho⟩
  · by_cases hg : sealB (xs.take (n - 4)) = xs
    · have e1 : openBy xs = xs.take (n - 4) := by rw [openBy, if_neg (by omega), hn, if_pos hg]
      have e2 : openNo xs = 0 := by rw [openNo, if_neg (by omega), hn, if_pos hg]
      refine (open_good p xs n c w hn hnc hb hc63 hp hx (by omega) hg).mono ?_
      rintro e w' ⟨q, d, rfl, o, ho⟩
      exact ⟨q, n - 4, d, _, rfl, by rw [e1]; show _ = _; rw [List.length_take]; omega, by rw [e1]; exact o, .inl ⟨e2, rfl⟩, ho⟩
    · have e1 : openBy xs = [] := by rw [openBy, if_neg (by omega), hn, if_neg hg]
      have e2 : openNo xs = 6 := by rw [openNo, if_neg (by omega), hn, if_neg hg]
      refine (open_bad p xs n c w a5 (hE.2.2 5 _ a5 rfl h5) hn hnc hb hc63 hp hx (by omega) hg).mono ?_
      rintro e w' ⟨rfl, ho⟩
      exact ⟨none, 0, 0, _, rfl, by rw [e1]; rfl, by rw [e1]; exact Own.nil _ _ _, .inr ⟨a5, by omega, by rw [e2]; exact h5, rfl⟩, ho⟩

theorem refOpen_all (p : Option Addr) (xs : List UInt8) (n c : Nat) (w : World) (hn : xs.length = n) (hnc : n ≤ c) (hb : n ≤ 140737488351232) (hc63 : c ≤ 9223372036854775807) (hx : Rd w p (u8s xs)) :
    Calls Tryd.prog 63 #[.slice p n c] w fun e w' => ∃ q k d, e = .returned (.tuple #[.slice q k d, .int .i64 (openNo xs : Int)]) ∧ Hid ((openBy xs).length = k) ∧ Own w' w.heap.size 5 (.slice q k d) (u8s (openBy xs)) ∧ Only [] w w' := by
  by_cases hs : n < 4
  · have e1 : openBy xs = [] := by rw [openBy, if_pos (by omega)]
    have e2 : openNo xs = 5 := by rw [openNo, if_pos (by omega)]
    refine (refOpen_short p n c w hs).mono ?_
    rintro e w' ⟨rfl, rfl⟩
    exact ⟨none, 0, 0, by rw [e2]; rfl, by rw [e1]; rfl, by rw [e1]; exact Own.nil _ _ _, Only.refl _ _⟩
  · by_cases hg : sealB (xs.take (n - 4)) = xs
    · have e1 : openBy xs = xs.take (n - 4) := by rw [openBy, if_neg (by omega), hn, if_pos hg]
      have e2 : openNo xs = 0 := by rw [openNo, if_neg (by omega), hn, if_pos hg]
      refine (refOpen_long p xs n c true w hn hnc hb hc63 hx (by omega) (by rw [hg]; simp)).mono ?_
      rintro e w' ⟨h, ho⟩
      obtain ⟨q, d, rfl, o⟩ := h
      exact ⟨q, n - 4, d, by rw [e2]; rfl, by rw [e1]; show _ = _; rw [List.length_take]; omega, by rw [e1]; exact o, ho⟩
    · have e1 : openBy xs = [] := by rw [openBy, if_neg (by omega), hn, if_neg hg]
      have e2 : openNo xs = 6 := by rw [openNo, if_neg (by omega), hn, if_neg hg]
      refine (refOpen_long p xs n c false w hn hnc hb hc63 hx (by omega) (by rw [beq_eq_false_iff_ne]; exact hg)).mono ?_
      rintro e w' ⟨h, ho⟩
      have h' : e = .returned (.tuple #[.slice none 0 0, .int .i64 6]) := h
      subst h'
      exact ⟨none, 0, 0, by rw [e2]; rfl, by rw [e1]; rfl, by rw [e1]; exact Own.nil _ _ _, ho⟩
end Go.Proofs.YtfoplbolbjcggaaDoor
end
section
set_option linter.unusedVariables false
namespace Go.Proofs.YtfoplbolbjcggaaDoor
open Go.RowKit

/-- a reader's cells: at the block B, its bytes xs, its place; all its blocks in F -/
def Rr (w : World) (F : List Nat) (B : Nat) (xs : List UInt8) (pl : Nat) : Prop :=
  ∃ p c, F = B :: blk p ∧ Row w B 204 [.slice p xs.length c, .int .i64 (pl : Int)] ∧ Own w 0 5 (.slice p xs.length c) (u8s xs) ∧ B ∉ blk p ∧ pl ≤ xs.length

theorem newReader (p : Option Addr) (xs : List UInt8) (n c : Nat) (w : World) (hn : xs.length = n) (hb : n ≤ 140737488355328) (hp : p = none → n = 0 ∧ c = 0) (hx : Rd w p (u8s xs)) :
    Calls Tryd.prog 90 #[.slice p n c] w fun e w' => ∃ B F, e = .returned (.pointer (some ⟨B, 0, none⟩)) ∧ Rr w' F B xs 0 ∧ Only [] w w' ∧ (∀ k ∈ F, w.heap.size ≤ k) := by
  have hcl := clone_any p xs n c w hn hb hp hx
  go_enter Tryd.func90, Tryd.ntmps90
  go_wp2_with fail
  refine hcl.mono ?_
  rintro e w1 ⟨p1, c1, rfl, o, ho⟩
  go_wp2_with fail
  go_ret
  refine ⟨w1.heap.size, w1.heap.size :: blk p1, rfl, ⟨p1, c1, rfl, ?_, ?_, ?_, Nat.zero_le _⟩, ho.trans0 (Only.alloc _ _), ?_⟩
  · rw [hn]; exact Row.new w1 _ _
  · rw [hn]; exact (o.only0 (Only.alloc _ _)).weaken (Nat.zero_le _)
  · intro hm
    have := (blk_own o _ hm).2
    omega
  · intro k hk
    rcases List.mem_cons.1 hk with rfl | hk
    · exact ho.size
    · exact (blk_own o _ hk).1

theorem pow128 {j : Nat} (hj : j < 9) : (128 : Nat) ^ j ≤ 72057594037927936 :=
  Nat.le_trans (Nat.pow_le_pow_right (by omega) (show j ≤ 8 by omega)) (by decide +kernel)
theorem pow7 (j : Nat) : (2 : Nat) ^ (7 * j) = 128 ^ j := by rw [Nat.pow_mul]
theorem wrap_nat (q : Nat) (h : q ≤ 9223372036854775807) : wrap64 (q : Int) = q := by unfold wrap64; omega
theorem num_or (v q k : Nat) (hv : v < 2 ^ k) : v ||| q * 2 ^ k = v + q * 2 ^ k := by
  rw [Nat.or_comm, Nat.mul_comm, ← Nat.two_pow_add_eq_or_of_lt hv, Nat.add_comm]
theorem num_lim (v q k : Nat) (hk : k ≤ 72057594037927936) (hv : v < k) (hq : q < 128) : q * k ≤ 9151314442816847872 ∧ v + q * k ≤ 9223372036854775807 := by
  have : q * k ≤ 127 * 72057594037927936 := Nat.mul_le_mul (by omega) hk
  omega
theorem num_step (v : Nat) (x : UInt8) (j : Nat) (hj : j < 9) (hv : v < 128 ^ j) : bits .or .i64 (v : Int) (wrap64 (wrap64 (bits .and .u8 (x.toNat : Int) 127) * 2 ^ (7 * j))) = ((v + x.toNat % 128 * 128 ^ j : Nat) : Int) := by
  have e1 : bits .and .u8 (x.toNat : Int) 127 = ((x.toNat % 128 : Nat) : Int) := by
    have := u8_and_nat x.toNat 127 x.toNat_lt (by omega)
    rw [show (127 : Nat) = 2 ^ 7 - 1 from rfl, Nat.and_two_pow_sub_one_eq_mod] at this
    exact this
  have hm : x.toNat % 128 < 128 := Nat.mod_lt _ (by omega)
  have hl := num_lim v (x.toNat % 128) (128 ^ j) (pow128 hj) hv hm
  rw [e1]
  generalize x.toNat % 128 = q at hm hl
  have e3 : (q : Int) * 2 ^ (7 * j) = ((q * 128 ^ j : Nat) : Int) := by
    have h8 : ((2 : Int) ^ (7 * j)) = ((128 ^ j : Nat) : Int) := by rw [← pow7]; simp
    rw [h8, Int.natCast_mul]
  have h1 := num_or v q (7 * j) (by rw [pow7]; exact hv)
  rw [pow7] at h1
  rw [wrap_nat q (by omega), e3, wrap_nat _ (by omega), i64_or_nat _ _ (by omega) (by omega), h1]

/-- what the number at a place answers -/
def NumAns (xs : List UInt8) (pl : Nat) (e : Ending) : Prop := ∃ a b ok, e = .returned (.tuple #[.int .i64 a, .int .i64 b, .bool ok]) ∧
  (ok = true → ∃ n l : Nat, Says (xs.drop pl) n l ∧ a = (n : Int) ∧ b = (pl : Int) + (l : Int)) ∧ (ok = false → ¬ ∃ n l : Nat, Says (xs.drop pl) n l)
theorem NumAns.no {xs : List UInt8} {pl : Nat} {e : Ending} {a b : Int} (h : ¬ ∃ n l : Nat, Says (xs.drop pl) n l) (he : e = .returned (.tuple #[.int .i64 a, .int .i64 b, .bool false])) : NumAns xs pl e :=
  ⟨a, b, false, he, fun h => (by cases h), fun _ => h⟩
theorem NumAns.yes {xs : List UInt8} {pl : Nat} {e : Ending} {a b : Int} {n l : Nat} (h : Says (xs.drop pl) n l) (ha : a = (n : Int)) (hb : b = (pl : Int) + (l : Int)) (he : e = .returned (.tuple #[.int .i64 a, .int .i64 b, .bool true])) : NumAns xs pl e :=
  ⟨a, b, true, he, fun _ => ⟨n, l, h, ha, hb⟩, fun h => (by cases h)⟩

set_option maxRecDepth 100000 in
theorem number_any (w : World) (F : List Nat) (B : Nat) (xs : List UInt8) (pl : Nat) (hr : Rr w F B xs pl) (hb : xs.length ≤ 140737488355328) :
    Calls Tryd.prog 116 #[.pointer (some ⟨B, 0, none⟩), .int .i64 (pl : Int)] w fun e w' => NumAns xs pl e ∧ w = w' := by
  obtain ⟨p, c, -, r, o, -, hpl⟩ := hr
  have hc0 := r.cell (i := 0) rfl
  obtain ⟨rd, -, hp, hcp, hcp2, -⟩ := o.view
  go_enter Tryd.func116, Tryd.ntmps116
  go_wp2_with fail
  go_loop [10, 7] (fun i z => ∃ j : Nat, j ≤ 9 ∧ i = .int .i64 (j : Int) ∧ z = .int .i64 (val7 ((xs.drop pl).take j) : Int) ∧ Hid (∀ q x, q < j → (xs.drop pl)[q]? = some x → 128 ≤ x.toNat) ∧ Hid (pl + j ≤ xs.length)) (fun i _ => 9 - (intOf i).toNat)
  case atStart => exact ⟨0, by omega, rfl, rfl, fun q x hq => by omega, by show _ ≤ _; omega⟩
  case round =>
    obtain ⟨j, hj, rfl, rfl, Hj, Hl⟩ := hrel
    by_cases h9 : j < 9
    · by_cases hlt : pl + j < xs.length
      · obtain ⟨b0, off, rfl, hyc⟩ := rd.bytes (by omega)
        have hc1 := hyc (pl + j) hlt
        have hxj : (xs.drop pl)[j]? = some xs[pl + j] := by rw [List.getElem?_drop, List.getElem?_eq_getElem hlt]
        have Hxj := Lib.hid hxj
        clear hyc hxj
        generalize xs[pl + j] = x at hc1 Hxj
        have hv := val7_lt ((xs.drop pl).take j)
        have hlt' : ((xs.drop pl).take j).length = j := by rw [List.length_take, List.length_drop]; omega
        rw [hlt'] at hv
        have hstep := num_step _ x j h9 hv
        have hva : val7 ((xs.drop pl).take (j + 1)) = val7 ((xs.drop pl).take j) + x.toNat % 128 * 128 ^ j := by
          rw [List.take_add_one, Hxj.out]
          have := val7_append ((xs.drop pl).take j) x
          rw [hlt'] at this
          exact this
        rw [← hva] at hstep
        clear hva hv hlt'
        by_cases h128 : 128 ≤ x.toNat
        · skip
          go_wp2_with fail
          go_round
          case rel =>
            refine ⟨j + 1, by omega, by go_num, rfl, Lib.hid ?_, Lib.hid (by omega)⟩
            intro q y hq hy
            by_cases e : q = j
            · subst e
              rw [Hxj.out] at hy
              obtain rfl := Option.some.inj hy
              exact h128
            · exact Hj.out q y (by omega) hy
          case measure => simp [intOf]; omega
        · have hlo : x.toNat < 128 := by omega
          clear h128
          by_cases h0 : x.toNat = 0
          · by_cases hj0 : j = 0
            · have hs := says_of h9 Hxj.out hlo (.inr hj0) Hj.out
              have Hs := Lib.hid hs
              have h1 : ((x.toNat : Int) == 0) = true := by simp [h0]
              have h2 : ((j : Int) == 0) = true := by simp [hj0]
              have h3 : ((x.toNat : Int) != 0) = false := by simp [h0]
              clear hs h0 hj0
              go_wp2_with fail
              go_ret3
              exact ⟨NumAns.yes (l := j + 1) (b := (pl : Int) + (j : Int) + 1) Hs.out rfl (by omega) rfl, rfl⟩
            · have hno : ¬ ∃ n l : Nat, Says (xs.drop pl) n l := by
                rintro ⟨n, l, h⟩
                obtain ⟨i, c', rfl, h1, h2, h3, h4, h5⟩ := h.at
                rcases Nat.lt_trichotomy i j with hlt2 | rfl | hlt2
                · have := Hj.out i c' hlt2 h2; omega
                · rw [Hxj.out] at h2
                  obtain rfl := Option.some.inj h2
                  omega
                · have := h5 j x hlt2 Hxj.out; omega
              have Hno := Lib.hid hno
              have h1 : ((x.toNat : Int) == 0) = true := by simp [h0]
              have h2 : ((j : Int) == 0) = false := by simp; omega
              clear hno
              go_wp2_with fail
              go_ret3
              exact ⟨NumAns.no Hno.out rfl, rfl⟩
          · have hs := says_of h9 Hxj.out hlo (.inl h0) Hj.out
            have Hs := Lib.hid hs
            have h1 : ((x.toNat : Int) == 0) = false := by simp; omega
            clear hs
            go_wp2_with fail
            go_ret3
            exact ⟨NumAns.yes (l := j + 1) (b := (pl : Int) + (j : Int) + 1) Hs.out rfl (by omega) rfl, rfl⟩
      · have hno : ¬ ∃ n l : Nat, Says (xs.drop pl) n l := by
          rintro ⟨n, l, h⟩
          obtain ⟨i, c, rfl, h1, h2, h3, _, _⟩ := h.at
          have hi := (List.getElem?_eq_some_iff.1 h2).1
          rw [List.length_drop] at hi
          have := Hj.out i c (by omega) h2
          omega
        have Hno := Lib.hid hno
        clear hno
        go_wp2_with fail
        go_ret3
        exact ⟨NumAns.no Hno.out rfl, rfl⟩
    · have hno : ¬ ∃ n l : Nat, Says (xs.drop pl) n l := by
        rintro ⟨n, l, h⟩
        obtain ⟨i, c, rfl, h1, h2, h3, _, _⟩ := h.at
        have := Hj.out i c (by omega) h2
        omega
      have Hno := Lib.hid hno
      clear hno
      go_wp2_with fail
      go_ret3
      exact ⟨NumAns.no Hno.out rfl, rfl⟩

/-- the number at a place, and how long it is -/
noncomputable def numAt (xs : List UInt8) (pl : Nat) : Option (Nat × Nat) :=
  have := Classical.propDecidable (∃ z : Nat × Nat, Says (xs.drop pl) z.1 z.2)
  if h : ∃ z : Nat × Nat, Says (xs.drop pl) z.1 z.2 then some h.choose else none
theorem numAt_yes {xs : List UInt8} {pl n l : Nat} (h : Says (xs.drop pl) n l) : numAt xs pl = some (n, l) := by
  have he : ∃ z : Nat × Nat, Says (xs.drop pl) z.1 z.2 := ⟨(n, l), h⟩
  have e1 := he.choose_spec.uniq h
  unfold numAt
  rw [dif_pos he]
  exact congrArg some (Prod.ext e1.1 e1.2)
theorem numAt_no {xs : List UInt8} {pl : Nat} (h : ¬ ∃ n l : Nat, Says (xs.drop pl) n l) : numAt xs pl = none := by
  unfold numAt
  rw [dif_neg (fun ⟨z, hz⟩ => h ⟨z.1, z.2, hz⟩)]
theorem numAt_some {xs : List UInt8} {pl n l : Nat} (h : numAt xs pl = some (n, l)) : Says (xs.drop pl) n l := by
  by_cases he : ∃ n l : Nat, Says (xs.drop pl) n l
  · obtain ⟨a, b, hs⟩ := he
    rw [numAt_yes hs] at h
    obtain ⟨rfl, rfl⟩ := Prod.mk.inj (Option.some.inj h)
    exact hs
  · rw [numAt_no he] at h
    cases h
/-- what Num answers: the number, and the place behind it -/
noncomputable def numOk (xs : List UInt8) (pl : Nat) (most : Int) : Option (Nat × Nat) := (numAt xs pl).bind fun z => if (z.1 : Int) ≤ most then some (z.1, pl + z.2) else none
/-- what Bytes answers -/
noncomputable def byOk (xs : List UInt8) (pl : Nat) (most : Int) : Option (List UInt8 × Nat) := (numAt xs pl).bind fun z => if (z.1 : Int) ≤ most ∧ pl + z.2 + z.1 ≤ xs.length then some ((xs.drop (pl + z.2)).take z.1, pl + z.2 + z.1) else none
noncomputable def numV (xs : List UInt8) (pl : Nat) (most : Int) : Nat := ((numOk xs pl most).map (·.1)).getD 0
noncomputable def numQ (xs : List UInt8) (pl : Nat) (most : Int) : Nat := ((numOk xs pl most).map (·.2)).getD pl
noncomputable def numE (xs : List UInt8) (pl : Nat) (most : Int) : Nat := if (numOk xs pl most).isSome then 0 else 5
noncomputable def byV (xs : List UInt8) (pl : Nat) (most : Int) : List UInt8 := ((byOk xs pl most).map (·.1)).getD []
noncomputable def byQ (xs : List UInt8) (pl : Nat) (most : Int) : Nat := ((byOk xs pl most).map (·.2)).getD pl
noncomputable def byE (xs : List UInt8) (pl : Nat) (most : Int) : Nat := if (byOk xs pl most).isSome then 0 else 5

theorem Rr.lt {w : World} {F : List Nat} {B : Nat} {xs : List UInt8} {pl : Nat} (h : Rr w F B xs pl) : ∀ k ∈ F, k < w.heap.size := by
  obtain ⟨p, c, rfl, r, o, hne, hpl⟩ := h
  intro k hk
  rcases List.mem_cons.1 hk with rfl | hk
  · exact r.lt
  · exact (blk_own o _ hk).2
theorem Rr.only {S : List Nat} {w w' : World} {F : List Nat} {B : Nat} {xs : List UInt8} {pl : Nat} (h : Rr w F B xs pl) (ho : Only S w w') (hn : ∀ k ∈ F, k ∉ S) : Rr w' F B xs pl := by
  obtain ⟨p, c, rfl, r, o, hne, hpl⟩ := h
  refine ⟨p, c, rfl, r.only ho (hn B (by simp)), o.only ho ?_, hne, hpl⟩
  intro k hk
  cases p with
  | none => simp [Value.ownBlock] at hk
  | some a => simp [Value.ownBlock] at hk; subst hk; exact hn _ (by simp [blk])
theorem Rr.only0 {w w' : World} {F : List Nat} {B : Nat} {xs : List UInt8} {pl : Nat} (h : Rr w F B xs pl) (ho : Only [] w w') : Rr w' F B xs pl := h.only ho (by simp)
theorem Rr.head {w : World} {F : List Nat} {B : Nat} {xs : List UInt8} {pl : Nat} (h : Rr w F B xs pl) : B ∈ F := by
  obtain ⟨p, c, rfl, _⟩ := h; simp
/-- the place moved -/
theorem Rr.move {w : World} {F : List Nat} {B : Nat} {xs : List UInt8} {pl q : Nat} (h : Rr w F B xs pl) (hq : q ≤ xs.length) : Rr (w.setCell ⟨B, 1, none⟩ (.int .i64 (q : Int))) F B xs q := by
  obtain ⟨p, c, rfl, r, o, hne, hpl⟩ := h
  refine ⟨p, c, rfl, r.setCell 1 _, o.only (Only.setCell _ _ _) ?_, hne, hq⟩
  intro k hk
  cases p with
  | none => simp [Value.ownBlock] at hk
  | some a => simp [Value.ownBlock] at hk; simp [blk] at hne; simp; omega

theorem number_yes (w : World) (F : List Nat) (B : Nat) (xs : List UInt8) (pl n l : Nat) (hr : Rr w F B xs pl) (hb : xs.length ≤ 140737488355328) (h : Says (xs.drop pl) n l) :
    Calls Tryd.prog 116 #[.pointer (some ⟨B, 0, none⟩), .int .i64 (pl : Int)] w fun e w' => e = .returned (.tuple #[.int .i64 (n : Int), .int .i64 ((pl + l : Nat) : Int), .bool true]) ∧ w = w' := by
  refine (number_any w F B xs pl hr hb).mono ?_
  rintro e w' ⟨⟨a, b, ok, rfl, h1, h2⟩, rfl⟩
  cases ok
  · exact absurd ⟨n, l, h⟩ (h2 rfl)
  · obtain ⟨n', l', h3, rfl, rfl⟩ := h1 rfl
    obtain ⟨rfl, rfl⟩ := h.uniq h3
    exact ⟨by rw [Int.natCast_add], rfl⟩
theorem number_no (w : World) (F : List Nat) (B : Nat) (xs : List UInt8) (pl : Nat) (hr : Rr w F B xs pl) (hb : xs.length ≤ 140737488355328) (h : ¬ ∃ n l : Nat, Says (xs.drop pl) n l) :
    Calls Tryd.prog 116 #[.pointer (some ⟨B, 0, none⟩), .int .i64 (pl : Int)] w fun e w' => ∃ a b, e = .returned (.tuple #[.int .i64 a, .int .i64 b, .bool false]) ∧ w = w' := by
  refine (number_any w F B xs pl hr hb).mono ?_
  rintro e w' ⟨⟨a, b, ok, rfl, h1, h2⟩, rfl⟩
  cases ok
  · exact ⟨a, b, rfl, rfl⟩
  · obtain ⟨n', l', h3, _⟩ := h1 rfl
    exact absurd ⟨n', l', h3⟩ h

/-- Num where there is one -/
theorem rdNum_yes (w : World) (F : List Nat) (B : Nat) (xs : List UInt8) (pl n l : Nat) (most : Int) (hr : Rr w F B xs pl) (hb : xs.length ≤ 140737488355328) (h : Says (xs.drop pl) n l) (hm : (n : Int) ≤ most) :
    Calls Tryd.prog 93 #[.pointer (some ⟨B, 0, none⟩), .int .i64 most] w fun e w' => e = .returned (.tuple #[.int .i64 (n : Int), .nilIface]) ∧ Rr w' F B xs (pl + l) ∧ Only [B] w w' := by
  have hnum := number_yes w F B xs pl n l hr hb h
  have hmv := hr.move (q := pl + l) (by have := h.2.2; rw [List.length_drop] at this; obtain ⟨_, _, _, _, _, _, h5⟩ := hr; omega)
  obtain ⟨p, c, -, r, -, -, -⟩ := hr
  have h1 := r.cell (i := 1) rfl
  have hf := r.free 1
  have hd : (decide (most < (n : Int))) = false := by simp; omega
  clear r h hm
  go_enter Tryd.func93, Tryd.ntmps93
  go_wp2_with fail
  refine hnum.mono ?_
  rintro e w' ⟨rfl, rfl⟩
  go_wp2_with fail
  go_ret2
  exact ⟨rfl, hmv, Only.setCell w ⟨B, 1, none⟩ _⟩
/-- Num where there is none, or too large a one -/
theorem rdNum_no (w : World) (F : List Nat) (B : Nat) (xs : List UInt8) (pl : Nat) (most : Int) (E : Value) (hr : Rr w F B xs pl) (hb : xs.length ≤ 140737488355328) (hE : w.cell? ⟨3, 0, none⟩ = some E) (h : ∀ n l : Nat, Says (xs.drop pl) n l → most < (n : Int)) :
    Calls Tryd.prog 93 #[.pointer (some ⟨B, 0, none⟩), .int .i64 most] w fun e w' => e = .returned (.tuple #[.int .i64 0, E]) ∧ Only [] w w' := by
  by_cases hs : ∃ n l : Nat, Says (xs.drop pl) n l
  · obtain ⟨n, l, hs⟩ := hs
    have hnum := number_yes w F B xs pl n l hr hb hs
    have hd : (decide (most < (n : Int))) = true := by simp; exact h n l hs
    obtain ⟨p, c, -, r, -, -, -⟩ := hr
    have h1 := r.cell (i := 1) rfl
    clear r h hs
    go_enter Tryd.func93, Tryd.ntmps93
    go_wp2_with fail
    refine hnum.mono ?_
    rintro e w' ⟨rfl, rfl⟩
    go_wp2_with fail
    go_quiet (fail)
    go_wp2_with fail
    go_ret2
    exact ⟨rfl, Only.drewN _ _⟩
  · have hnum := number_no w F B xs pl hr hb hs
    obtain ⟨p, c, -, r, -, -, -⟩ := hr
    have h1 := r.cell (i := 1) rfl
    clear r h hs
    go_enter Tryd.func93, Tryd.ntmps93
    go_wp2_with fail
    refine hnum.mono ?_
    rintro e w' ⟨a, b, rfl, rfl⟩
    go_wp2_with fail
    go_quiet (fail)
    go_wp2_with fail
    go_ret2
    exact ⟨rfl, Only.drewN _ _⟩

theorem rdNum_any (w : World) (F : List Nat) (B : Nat) (xs : List UInt8) (pl : Nat) (most : Int) (az : List Addr) (hE : ErrAll w az) (hr : Rr w F B xs pl) (hb : xs.length ≤ 140737488355328) :
    Calls Tryd.prog 93 #[.pointer (some ⟨B, 0, none⟩), .int .i64 most] w fun e w' => ∃ v, e = .returned (.tuple #[.int .i64 (numV xs pl most : Int), v]) ∧ ErrNo az (numE xs pl most) v ∧ Rr w' F B xs (numQ xs pl most) ∧ Only [B] w w' := by
  obtain ⟨a4, h4⟩ : ∃ a, az[4]? = some a := ⟨_, List.getElem?_eq_getElem (by rw [hE.1]; omega)⟩
  have hc := (hE.2.2 4 _ a4 rfl h4).cell
  by_cases h : ∃ n l : Nat, Says (xs.drop pl) n l ∧ (n : Int) ≤ most
  · obtain ⟨n, l, h, hm⟩ := h
    have e1 : numOk xs pl most = some (n, pl + l) := by rw [numOk, numAt_yes h]; simp [hm]
    refine (rdNum_yes w F B xs pl n l most hr hb h hm).mono ?_
    rintro e w' ⟨rfl, h1, h2⟩
    exact ⟨.nilIface, by rw [numV, e1]; rfl, .inl ⟨by rw [numE, e1]; rfl, rfl⟩, by rw [numQ, e1]; exact h1, h2⟩
  · have h' : ∀ n l : Nat, Says (xs.drop pl) n l → most < (n : Int) := fun n l hs => by
      rcases Int.lt_or_le most (n : Int) with k | k
      · exact k
      · exact absurd ⟨n, l, hs, k⟩ h
    have e1 : numOk xs pl most = none := by
      rw [numOk]
      cases e : numAt xs pl with
      | none => rfl
      | some z =>
        have := h' z.1 z.2 (numAt_some (by rw [e]))
        show (if (z.1 : Int) ≤ most then some (z.1, pl + z.2) else none) = none
        rw [if_neg (by omega)]
    refine (rdNum_no w F B xs pl most _ hr hb hc h').mono ?_
    rintro e w' ⟨rfl, h1⟩
    exact ⟨_, by rw [numV, e1]; rfl, .inr ⟨a4, by rw [numE, e1]; decide, by rw [numE, e1]; exact h4, rfl⟩, by rw [numQ, e1]; exact hr.only0 h1, h1.mono (by simp)⟩
end Go.Proofs.YtfoplbolbjcggaaDoor
end
section
set_option linter.unusedVariables false
namespace Go.Proofs.YtfoplbolbjcggaaDoor
open Go.RowKit

/-- a slice owned, with bytes -/
def OwnBy (xs : List UInt8) (n base : Nat) : Value → World → Prop := fun v w => ∃ p k, v = .slice p n k ∧ Own w base 5 (.slice p n k) (u8s xs)
theorem OwnBy.stable (xs : List UInt8) (n base : Nat) : Stable (Only []) (OwnBy xs n base) := fun v w w' ⟨p, k, h1, h2⟩ ho => ⟨p, k, h1, h2.only0 ho⟩

theorem Rr.field0 {w : World} {F : List Nat} {B : Nat} {xs : List UInt8} {pl : Nat} (h : Rr w F B xs pl) : ∃ p c, w.cell? ⟨B, 0, none⟩ = some (.slice p xs.length c) ∧ w.cell? ⟨B, 1, none⟩ = some (.int .i64 (pl : Int)) ∧ (∀ i, w.frozen? ⟨B, i, none⟩ = false) ∧ Rd w p (u8s xs) ∧ xs.length ≤ c ∧ c ≤ 9223372036854775807 ∧ (p = none → xs.length = 0 ∧ c = 0) ∧ pl ≤ xs.length := by
  obtain ⟨p, c, -, r, o, -, hpl⟩ := h
  obtain ⟨rd, -, hp, hcp, hcp2, -⟩ := o.view
  exact ⟨p, c, r.cell rfl, r.cell rfl, r.free, rd, hcp, hcp2, hp, hpl⟩

theorem Rd.skip {w : World} {b off : Nat} {vs : List Value} (h : Rd w (some ⟨b, off, none⟩) vs) (n : Nat) : Rd w (some ⟨b, off + n, none⟩) (vs.drop n) := by
  rcases h with h | ⟨b', off', e, h⟩
  · exact .inl (by simp [h])
  · obtain ⟨rfl, rfl, -⟩ : b = b' ∧ off = off' ∧ True := by simpa using e
    exact .inr ⟨b, off + n, rfl, fun j v hv => by rw [Nat.add_assoc]; exact h (n + j) v (by rwa [List.getElem?_drop] at hv)⟩

theorem rdBy_yes (w : World) (F : List Nat) (B : Nat) (xs : List UInt8) (pl n l : Nat) (most : Int) (hr : Rr w F B xs pl) (hb : xs.length ≤ 140737488351232) (h : Says (xs.drop pl) n l) (hm : (n : Int) ≤ most) (hn : pl + l + n ≤ xs.length) :
    Calls Tryd.prog 91 #[.pointer (some ⟨B, 0, none⟩), .int .i64 most] w fun e w' => (∃ q k, e = .returned (.tuple #[.slice q n k, .nilIface]) ∧ Own w' w.heap.size 5 (.slice q n k) (u8s ((xs.drop (pl + l)).take n))) ∧ Rr w' F B xs (pl + l + n) ∧ Only [B] w w' := by
  have hnum := number_yes w F B xs pl n l hr (by omega) h
  have hmv := hr.move (q := pl + l + n) hn
  obtain ⟨p, c, h0, h1, hf, rd, hcp, hcp2, hp, hpl⟩ := hr.field0
  have hpos : 0 < xs.length := by
    have := h.len
    have := nb_pos n
    omega
  clear hr h
  have hf1 := hf 1
  have hd : (decide (most < (n : Int))) = false := by simp; omega
  generalize pl + l = nx at hn hnum hmv
  have hd2 : (decide ((xs.length : Int) - (nx : Int) < (n : Int))) = false := by simp; omega
  clear hm
  go_enter Tryd.func91, Tryd.ntmps91
  go_wp2_with fail
  refine hnum.mono ?_
  rintro e w' ⟨rfl, rfl⟩
  go_wp2_with fail
  have ho1 : Only [B] w (w.setCell ⟨B, 1, none⟩ (.int .i64 ((nx : Int) + (n : Int)))) := Only.setCell w ⟨B, 1, none⟩ _
  rw [Int.natCast_add] at hmv
  generalize w.setCell ⟨B, 1, none⟩ (.int .i64 ((nx : Int) + (n : Int))) = w1 at hmv ho1
  clear h0 h1 hf rd hcp hcp2 hp hpl hf1
  obtain ⟨p, c, h0, h1, hf, rd, hcp, hcp2, hp, hpl⟩ := hmv.field0
  obtain ⟨b0, off, rfl, -⟩ := rd.bytes hpos
  have rdk : Rd w1 (some ⟨b0, off + nx, none⟩) (u8s ((xs.drop nx).take n)) := by rw [← u8s_take, ← u8s_drop]; exact (rd.skip nx).take n
  have hlk : ((xs.drop nx).take n).length = n := by rw [List.length_take, List.length_drop]; omega
  have Hlk := Lib.hid hlk
  clear hlk
  -- <<r5
  refine wp_region_rg2 (Only []) [[(0, none)], [(44, some 0)], [(45, some 0)], [(46, some 0)], [(7, none)], [(0, none)], [(49, some 0)], [(50, some 0)], [(51, some 0)], [(47, some 5), (48, some 4), (52, some 0)], [(53, some 0)], [(54, some 0)], []] [(4, 1), (5, 0)] [none, none, none, none, some 4, some 5, none, none, none, none, none, none, none, none, none, none, none, none, none, none, none, none, none, none, none, none, none, none, none, none, none, none, none, none, none, none, none, none, none, none, none, none, none, none, some 44, some 45, some 46, some 47, some 48, some 49, some 50, some 51, some 52, some 53, some 54] (by kernel_rfl) rfl (by kernel_rfl) (fun _ => Only.refl _ _) (fun _ _ _ h k => h.trans0 k) (Only.drew _) (by kernel_rfl) ?_
  -- 0: s44 := move t0
  apply rg_ev
  · intro a w hR hf
    obtain ⟨e0, -⟩ := hf
    replace e0 : a.tmps.getD 0 undef = _ := e0
    refine rg_plain rfl fun K hK => ?_
    go_simp
    exact hK _ _ rfl (Only.refl _ _)
  -- 1: s45 := nilCheck t44
  apply rg_ev
  · intro a w hR hf
    obtain ⟨e44, -⟩ := hf
    replace e44 : a.tmps.getD 44 undef = _ := e44
    refine rg_plain rfl fun K hK => ?_
    go_simp
    exact hK _ _ rfl (Only.refl _ _)
  -- 2: s46 := fieldAddr 77 t45 0
  apply rg_ev
  · intro a w hR hf
    obtain ⟨e45, -⟩ := hf
    replace e45 : a.tmps.getD 45 undef = _ := e45
    refine rg_plain rfl fun K hK => ?_
    go_simp
    exact hK _ _ rfl (Only.refl _ _)
  -- 3: s47 := load 26 t46
  apply rg_ev
  · intro a w hR hf
    obtain ⟨e46, -⟩ := hf
    replace e46 : a.tmps.getD 46 undef = _ := e46
    refine rg_plain rfl fun K hK => ?_
    have h0' := hR.cell h0 (by simp)
    go_simp
    exact hK _ _ rfl (Only.refl _ _)
  -- 4: s48 := move t7
  apply rg_ev
  · intro a w hR hf
    obtain ⟨e7, -⟩ := hf
    replace e7 : a.tmps.getD 7 undef = _ := e7
    refine rg_plain rfl fun K hK => ?_
    go_simp
    exact hK _ _ rfl (Only.refl _ _)
  -- 5: s49 := move t0
  apply rg_ev
  · intro a w hR hf
    obtain ⟨e0, -⟩ := hf
    replace e0 : a.tmps.getD 0 undef = _ := e0
    refine rg_plain rfl fun K hK => ?_
    go_simp
    exact hK _ _ rfl (Only.refl _ _)
  -- 6: s50 := nilCheck t49
  apply rg_ev
  · intro a w hR hf
    obtain ⟨e49, -⟩ := hf
    replace e49 : a.tmps.getD 49 undef = _ := e49
    refine rg_plain rfl fun K hK => ?_
    go_simp
    exact hK _ _ rfl (Only.refl _ _)
  -- 7: s51 := fieldAddr 77 t50 1
  apply rg_ev
  · intro a w hR hf
    obtain ⟨e50, -⟩ := hf
    replace e50 : a.tmps.getD 50 undef = _ := e50
    refine rg_plain rfl fun K hK => ?_
    go_simp
    exact hK _ _ rfl (Only.refl _ _)
  -- 8: s52 := load 3 t51
  apply rg_ev
  · intro a w hR hf
    obtain ⟨e51, -⟩ := hf
    replace e51 : a.tmps.getD 51 undef = _ := e51
    refine rg_plain rfl fun K hK => ?_
    have h1' := hR.cell h1 (by simp)
    go_simp
    exact hK _ _ rfl (Only.refl _ _)
  -- 9: s53 := slice 26 t47 (some t48) (some t52) none
  refine ⟨IsBy ((xs.drop nx).take n) n, IsBy.stable _ _, fun a w hR hf => ?_, ?_⟩
  · obtain ⟨e47, e48, e52, -⟩ := hf
    replace e47 : a.tmps.getD 47 undef = _ := e47
    replace e48 : a.tmps.getD 48 undef = _ := e48
    replace e52 : a.tmps.getD 52 undef = _ := e52
    refine rg_plain rfl fun K hK => ?_
    go_simp
    have hk3 : ((nx : Int) + (n : Int)).toNat - nx = n := by omega
    rw [if_pos ⟨by omega, by omega⟩, if_pos (by omega), hk3]
    go_simp
    refine hK _ _ ⟨Hlk.out, _, _, rfl, ?_, by split <;> simp⟩ (Only.refl _ _)
    split
    · rw [List.take_eq_nil_iff.2 (.inl (by omega : n = 0))]; exact Rd.nil _ _
    · exact rdk.only0 hR
  -- 10: s54 := call { value (Operand.func 38), args := #[t53], #[26] }
  refine ⟨OwnBy ((xs.drop nx).take n) n w1.heap.size, OwnBy.stable _ _ _, fun a w hR hf => ?_, ?_⟩
  · obtain ⟨e53, -⟩ := hf
    replace e53 : IsBy ((xs.drop nx).take n) n (a.tmps.getD 53 undef) w := e53
    refine rg_plain rfl fun K hK => ?_
    obtain ⟨l53, p53, k53, e53, r53, n53⟩ := e53
    go_simp
    (with_reducible refine (clone_any p53 _ n k53 w l53 (by omega) n53 r53).mono ?_)
    rintro e w' ⟨q, k, rfl, o, ho⟩
    exact hK _ _ ⟨q, k, rfl, o.weaken hR.size⟩ ho
  -- 11: s4 := assign t54
  refine ⟨OwnBy ((xs.drop nx).take n) n w1.heap.size, OwnBy.stable _ _ _, fun a w hR hf => ?_, ?_⟩
  · obtain ⟨e54, -⟩ := hf
    replace e54 : OwnBy ((xs.drop nx).take n) n w1.heap.size (a.tmps.getD 54 undef) w := e54
    refine rg_plain rfl fun K hK => ?_
    generalize hv54 : a.tmps.getD 54 undef = v54 at e54
    go_simp
    exact hK _ _ e54 (Only.refl _ _)
  -- 12: s5 := assign (const Value.nilIface)
  apply rg_ev
  · intro a w hR hf
    refine rg_plain rfl fun K hK => ?_
    go_simp
    exact hK _ _ rfl (Only.refl _ _)
  intro f5 w5 hR5 hf
  dsimp only [mergeT]
  obtain ⟨e4, e5, -⟩ := hf
  replace e4 : OwnBy ((xs.drop nx).take n) n w1.heap.size (f5 4) w5 := e4
  replace e5 : f5 5 = _ := e5
  rw [e5]
  -- r5>>
  go_wp2_with fail
  go_ret2
  obtain ⟨q, k, e54, o⟩ := e4
  rw [e54]
  exact ⟨⟨q, k, rfl, o.weaken ho1.size⟩, hmv.only0 hR5, ho1.trans0 hR5⟩

theorem rdBy_no (w : World) (F : List Nat) (B : Nat) (xs : List UInt8) (pl : Nat) (most : Int) (E : Value) (hr : Rr w F B xs pl) (hb : xs.length ≤ 140737488351232) (hE : w.cell? ⟨3, 0, none⟩ = some E) (h : ∀ n l : Nat, Says (xs.drop pl) n l → most < (n : Int) ∨ xs.length < pl + l + n) :
    Calls Tryd.prog 91 #[.pointer (some ⟨B, 0, none⟩), .int .i64 most] w fun e w' => e = .returned (.tuple #[.slice none 0 0, E]) ∧ Only [] w w' := by
  obtain ⟨p, c, h0, h1, hf, rd, hcp, hcp2, hp, hpl⟩ := hr.field0
  by_cases hs : ∃ n l : Nat, Says (xs.drop pl) n l
  · obtain ⟨n, l, hs⟩ := hs
    have hnum := number_yes w F B xs pl n l hr (by omega) hs
    have h' := h n l hs
    have hlt := hs.2.2
    have hn63 := hs.1
    rw [List.length_drop] at hlt
    clear hr h hs
    have hle : pl + l ≤ xs.length := by omega
    generalize pl + l = nx at h' hnum hle
    by_cases hm : most < (n : Int)
    · have hd : (decide (most < (n : Int))) = true := by simp; exact hm
      clear h' rd hp hcp hcp2 hf
      go_enter Tryd.func91, Tryd.ntmps91
      go_wp2_with fail
      refine hnum.mono ?_
      rintro e w' ⟨rfl, rfl⟩
      go_wp2_with fail
      go_quiet (fail)
      go_wp2_with fail
      go_ret2
      exact ⟨rfl, Only.drewN _ _⟩
    · have hd : (decide (most < (n : Int))) = false := by simp; omega
      have hd2 : (decide ((xs.length : Int) - (nx : Int) < (n : Int))) = true := by simp; omega
      clear h' rd hp hcp hcp2 hf hm
      go_enter Tryd.func91, Tryd.ntmps91
      go_wp2_with fail
      refine hnum.mono ?_
      rintro e w' ⟨rfl, rfl⟩
      go_wp2_with fail
      go_quiet (fail)
      go_wp2_with fail
      go_ret2
      exact ⟨rfl, Only.drewN _ _⟩
  · have hnum := number_no w F B xs pl hr (by omega) hs
    clear hr h hs rd hp hcp hcp2 hf
    go_enter Tryd.func91, Tryd.ntmps91
    go_wp2_with fail
    refine hnum.mono ?_
    rintro e w' ⟨a, b, rfl, rfl⟩
    go_wp2_with fail
    go_quiet (fail)
    go_wp2_with fail
    go_ret2
    exact ⟨rfl, Only.drewN _ _⟩

theorem rdBy_any (w : World) (F : List Nat) (B : Nat) (xs : List UInt8) (pl : Nat) (most : Int) (az : List Addr) (hE : ErrAll w az) (hr : Rr w F B xs pl) (hb : xs.length ≤ 140737488351232) :
    Calls Tryd.prog 91 #[.pointer (some ⟨B, 0, none⟩), .int .i64 most] w fun e w' => ∃ q n k v, e = .returned (.tuple #[.slice q n k, v]) ∧ Hid ((byV xs pl most).length = n) ∧ Own w' w.heap.size 5 (.slice q n k) (u8s (byV xs pl most)) ∧ ErrNo az (byE xs pl most) v ∧ Rr w' F B xs (byQ xs pl most) ∧ Only [B] w w' := by
  obtain ⟨a4, h4⟩ : ∃ a, az[4]? = some a := ⟨_, List.getElem?_eq_getElem (by rw [hE.1]; omega)⟩
  have hc := (hE.2.2 4 _ a4 rfl h4).cell
  by_cases h : ∃ n l : Nat, Says (xs.drop pl) n l ∧ (n : Int) ≤ most ∧ pl + l + n ≤ xs.length
  · obtain ⟨n, l, h, hm, hn⟩ := h
    have e1 : byOk xs pl most = some ((xs.drop (pl + l)).take n, pl + l + n) := by rw [byOk, numAt_yes h]; simp [hm, hn]
    refine (rdBy_yes w F B xs pl n l most hr hb h hm hn).mono ?_
    rintro e w' ⟨⟨q, k, rfl, h0⟩, h1, h2⟩
    have e2 : byV xs pl most = (xs.drop (pl + l)).take n := by rw [byV, e1]; rfl
    exact ⟨q, n, k, .nilIface, rfl, by rw [e2]; show _ = _; rw [List.length_take, List.length_drop]; omega, by rw [e2]; exact h0, .inl ⟨by rw [byE, e1]; rfl, rfl⟩, by rw [byQ, e1]; exact h1, h2⟩
  · have h' : ∀ n l : Nat, Says (xs.drop pl) n l → most < (n : Int) ∨ xs.length < pl + l + n := fun n l hs => by
      rcases Int.lt_or_le most (n : Int) with k | k
      · exact .inl k
      · rcases Nat.lt_or_ge xs.length (pl + l + n) with k2 | k2
        · exact .inr k2
        · exact absurd ⟨n, l, hs, k, k2⟩ h
    have e1 : byOk xs pl most = none := by
      rw [byOk]
      cases e : numAt xs pl with
      | none => rfl
      | some z =>
        have := h' z.1 z.2 (numAt_some (by rw [e]))
        show (if (z.1 : Int) ≤ most ∧ pl + z.2 + z.1 ≤ xs.length then some ((xs.drop (pl + z.2)).take z.1, pl + z.2 + z.1) else none) = none
        rw [if_neg (by omega)]
    have e2 : byV xs pl most = [] := by rw [byV, e1]; rfl
    refine (rdBy_no w F B xs pl most _ hr hb hc h').mono ?_
    rintro e w' ⟨rfl, h1⟩
    exact ⟨none, 0, 0, _, rfl, by rw [e2]; exact rfl, by rw [e2]; exact Own.nil _ _ _, .inr ⟨a4, by rw [byE, e1]; decide, by rw [byE, e1]; exact h4, rfl⟩, by rw [byQ, e1]; exact hr.only0 h1, h1.mono (by simp)⟩

theorem rdLeft_any (w : World) (F : List Nat) (B : Nat) (xs : List UInt8) (pl : Nat) (hr : Rr w F B xs pl) (hb : xs.length ≤ 140737488351232) :
    Calls Tryd.prog 95 #[.pointer (some ⟨B, 0, none⟩)] w fun e w' => e = .returned (.int .i64 ((xs.length - pl : Nat) : Int)) ∧ Drew w w' := by
  obtain ⟨p, c, h0, h1, hf, rd, hcp, hcp2, hp, hpl⟩ := hr.field0
  have e1 : ((xs.length : Int) - (pl : Int)) = ((xs.length - pl : Nat) : Int) := by omega
  clear hr hf rd hp
  go_enter Tryd.func95, Tryd.ntmps95
  go_wp2_with fail
  go_quiet (fail)
  go_wp2_with fail
  go_ret
  exact ⟨rfl, Drew.N _ _⟩

theorem rdEnd_any (w : World) (F : List Nat) (B : Nat) (xs : List UInt8) (pl : Nat) (E : Value) (hr : Rr w F B xs pl) (hb : xs.length ≤ 140737488351232) (hE : w.cell? ⟨3, 0, none⟩ = some E) :
    Calls Tryd.prog 94 #[.pointer (some ⟨B, 0, none⟩)] w fun e w' => e = .returned (if xs.length - pl = 0 then .nilIface else E) ∧ Only [] w w' := by
  have hl := rdLeft_any w F B xs pl hr hb
  by_cases h : xs.length - pl = 0
  · have hd : decide (0 < xs.length - pl) = false := by simp; omega
    rw [if_pos h]
    generalize xs.length - pl = z at hl hd
    clear hr h
    go_enter Tryd.func94, Tryd.ntmps94
    go_wp2_with fail
    refine hl.mono ?_
    rintro e w1 ⟨rfl, ⟨n, rfl⟩⟩
    go_wp2_with fail
    go_ret
    exact ⟨rfl, Only.drewN _ _⟩
  · have hd : decide (0 < xs.length - pl) = true := by simp; omega
    rw [if_neg h]
    generalize xs.length - pl = z at hl hd
    clear hr h
    go_enter Tryd.func94, Tryd.ntmps94
    go_wp2_with fail
    refine hl.mono ?_
    rintro e w1 ⟨rfl, ⟨n, rfl⟩⟩
    have hE' := (Only.drewN w n).cell hE (by simp)
    clear hE
    go_wp2_with fail
    go_ret
    exact ⟨rfl, Only.drewN _ _⟩
end Go.Proofs.YtfoplbolbjcggaaDoor
end
section
set_option linter.unusedVariables false
namespace Go.Proofs.YtfoplbolbjcggaaDoor
open Go.RowKit

/-- one byte behind a slice of our own -/
theorem push_u8 {w0 wr : World} {p : Option Addr} {c : Nat} (ys : List UInt8) (x : UInt8) (o : Own wr w0.heap.size 5 (.slice p ys.length c) (u8s ys)) (ho : Only [] w0 wr) (hl : ys.length + 1 ≤ 140737488355328) :
    ∃ p' c' w2, Hid ((Builtin.append_ #[22, 22] 22 #[.slice p ys.length c, .slice (some ⟨wr.heap.size, 0, none⟩) 1 1]).run Tryd.prog (wr.alloc (.cells #[.int .u8 (x.toNat : Int)] 5)) = .ok (.slice p' (ys.length + 1) c') w2) ∧
      Own w2 w0.heap.size 5 (.slice p' (ys ++ [x]).length c') (u8s (ys ++ [x])) ∧ Only [] w0 w2 := by
  have on := Only.alloc wr (.cells #[.int .u8 (x.toNat : Int)] 5)
  have rn := Row.new wr 5 (u8s [x])
  obtain ⟨p', c', w2, hr, o2, h2, hp⟩ := append_owned (P := Tryd.prog) (n := ys.length) (m := 1) (bytes := 1) (q := some ⟨wr.heap.size, 0, none⟩) (c := 1) (news := u8s [x]) (t := 22) (ty := 22) _ Tryd.underlying22 infoU8w rfl (o.only0 on) rn.rd0 (by rfl) (by simp) (fun v hv => u8s_one hv) (by omega) (by omega) (Nat.le_trans ho.size on.size)
  refine ⟨p', c', w2, Lib.hid hr, ?_, (ho.trans0 on).transN h2 ?_⟩
  · rw [u8s_append, List.length_append]; exact o2
  · intro k hk
    exact (blk_own o k hk).1

theorem ref_lo (j : Nat) (h : j < 128) : ∃ x : UInt8, nb j = [x] ∧ (j : Int) % 128 = (x.toNat : Int) := by
  refine ⟨_, nb_lo h, ?_⟩
  rw [UInt8.toNat_ofNat']; omega
theorem ref_hi (j : Nat) (h : 128 ≤ j) : ∃ x : UInt8, nb j = x :: nb (j / 128) ∧ (j : Int) % 128 + 128 = (x.toNat : Int) := by
  refine ⟨_, nb_hi h, ?_⟩
  rw [UInt8.toNat_ofNat']; omega

theorem refNum_any (w : World) (n : Nat) (hn : n < 9223372036854775808) :
    Calls Tryd.prog 68 #[.int .i64 (n : Int)] w fun e w' => ∃ p c, e = .returned (.slice p (nb n).length c) ∧ Own w' w.heap.size 5 (.slice p (nb n).length c) (u8s (nb n)) ∧ Only [] w w' := by
  have h9 := nb_len9 n hn
  go_enter Tryd.func68, Tryd.ntmps68
  go_wp2_with fail
  go_loopw [0, 3] (fun i s wr => ∃ (j : Nat) (ys : List UInt8) (p : Option Addr) (c : Nat), i = .int .i64 (j : Int) ∧ s = .slice p ys.length c ∧ j ≤ n ∧ Own wr w.heap.size 5 (.slice p ys.length c) (u8s ys) ∧ Only [] w wr ∧ ys ++ nb j = nb n) (fun i _ _ => (intOf i).toNat)
  case atStart =>
    exact ⟨n, [], _, _, rfl, rfl, Nat.le_refl _, Own.ofRow (vs := []) (rest := []) (Nat.le_refl _) (Row.new w _ _) rfl (by omega), Only.alloc _ _, rfl⟩
  case round =>
    obtain ⟨j, ys, p, c, rfl, rfl, hj, o, ho, he⟩ := hrel
    have hlen : ys.length + (nb j).length = (nb n).length := by rw [← List.length_append, he]
    by_cases h128 : j < 128
    · obtain ⟨x, hx, hbx⟩ := ref_lo j h128
      obtain ⟨p', c', w2, Hr, o2, ho2⟩ := push_u8 ys x o ho (by rw [hx] at hlen; simp at hlen; omega)
      have hd : ((j : Int) / 128 == 0) = true := by simp; omega
      rw [hx] at he
      have He := Lib.hid he
      clear he hlen o ho hx
      go_wp2_with (first | (at_builtin; refine wpl_append (s := .tmp 13) (x := .tmp 15) rfl rfl rfl rfl Hr.out ?_))
      go_ret
      exact ⟨p', c', by rw [← He.out, List.length_append]; rfl, by rw [← He.out]; exact o2, ho2⟩
    · obtain ⟨x, hx, hbx⟩ := ref_hi j (by omega)
      obtain ⟨p', c', w2, Hr, o2, ho2⟩ := push_u8 ys x o ho (by rw [hx] at hlen; simp at hlen; omega)
      have hd : ((j : Int) / 128 == 0) = false := by simp; omega
      rw [hx] at he
      have He := Lib.hid he
      clear he hlen o ho hx
      go_wp2_with (first | (at_builtin; refine wpl_append (s := .tmp 17) (x := .tmp 20) rfl rfl rfl rfl Hr.out ?_))
      go_roundw
      case rel => exact ⟨j / 128, ys ++ [x], p', c', by go_num, by rw [List.length_append]; rfl, by omega, o2, ho2, by rw [List.append_assoc]; exact He.out⟩
      case measure => simp [intOf]; omega

theorem refBytes_any (p : Option Addr) (xs : List UInt8) (n c : Nat) (w : World) (hn : xs.length = n) (hb : n ≤ 140737488351232) (hp : p = none → n = 0 ∧ c = 0) (hx : Rd w p (u8s xs)) :
    Calls Tryd.prog 69 #[.slice p n c] w fun e w' => ∃ q m d, e = .returned (.slice q m d) ∧ Hid ((nb n ++ xs).length = m) ∧ Own w' w.heap.size 5 (.slice q m d) (u8s (nb n ++ xs)) ∧ Only [] w w' := by
  have hnum := refNum_any w n (by omega)
  have h9 := nb_len9 n (by omega)
  go_enter Tryd.func69, Tryd.ntmps69
  go_wp2_with fail
  refine hnum.mono ?_
  rintro e w1 ⟨p1, c1, rfl, o1, ho1⟩
  generalize hys : nb n = ys at h9 o1
  have Hys := Lib.hid hys
  clear hys
  obtain ⟨p', c', w2, hr, o2, h2, hp2⟩ := append_owned (P := Tryd.prog) (n := ys.length) (m := n) (c := c) (bytes := 1) (q := p) (news := u8s xs) (t := 22) (ty := 22) _ Tryd.underlying22 infoU8w rfl o1 (hx.only0 ho1) (by rw [u8s_length, hn]) hp (fun v hv => u8s_one hv) (by omega) (by omega) ho1.size
  have h12 : Only [] w w2 := ho1.transN h2 (fun k hk => (blk_own o1 k hk).1)
  have Hr := Lib.hid hr
  have Hn := Lib.hid hn
  clear hr hn o1 h2 hp2 ho1 hnum
  go_wp2_with (first | (at_builtin; refine wpl_append (s := .tmp 5) (x := .tmp 6) rfl rfl rfl rfl Hr.out ?_))
  go_ret
  exact ⟨p', ys.length + n, c', rfl, by show _ = _; rw [List.length_append, Hn.out, Hys.out], by rw [u8s_append, Hys.out]; exact o2, h12⟩

/-- the last bytes first: what the document's loop makes -/
theorem val7_down (ys : List UInt8) (m : Nat) (x : UInt8) (h : ys[m]? = some x) : val7 (ys.drop m) = val7 (ys.drop (m + 1)) * 128 + x.toNat % 128 := by
  have hm := (List.getElem?_eq_some_iff.1 h).1
  have hx := (List.getElem?_eq_some_iff.1 h).2
  rw [← List.getElem_cons_drop hm, hx]
  simp only [val7]; omega
theorem val7_lim (ys : List UInt8) (m : Nat) (h : ys.length ≤ m + 9) : val7 (ys.drop m) < 9223372036854775808 := by
  have := val7_lt (ys.drop m)
  have h2 : (128 : Nat) ^ (ys.drop m).length ≤ 128 ^ 9 := Nat.pow_le_pow_right (by omega) (by rw [List.length_drop]; omega)
  have h3 : (128 : Nat) ^ 9 = 9223372036854775808 := by decide +kernel
  omega
theorem says_no {ys : List UInt8} {k : Nat} {x : UInt8} (hx : ys[k]? = some x) (hlo : x.toNat < 128) (hb : ∀ j y, j < k → ys[j]? = some y → 128 ≤ y.toNat) (hne : nb (val7 (ys.take (k + 1))) ≠ ys.take (k + 1)) : ¬ ∃ n l : Nat, Says ys n l := by
  rintro ⟨n, l, h⟩
  obtain ⟨i, c, rfl, h1, h2, h3, h4, h5⟩ := h.at
  have : i = k := by
    rcases Nat.lt_trichotomy i k with h6 | h6 | h6
    · have := hb i c h6 h2; omega
    · exact h6
    · have := h5 k x h6 hx; omega
  subst this
  exact hne (by rw [← h.2.1, val7_nb])
end Go.Proofs.YtfoplbolbjcggaaDoor
end
section
set_option linter.unusedVariables false
namespace Go.Proofs.YtfoplbolbjcggaaDoor
open Go.RowKit

set_option maxRecDepth 100000 in
theorem refRead_any (w : World) (p : Option Addr) (xs : List UInt8) (n c pl : Nat) (hn : xs.length = n) (hnc : n ≤ c) (hb : n ≤ 140737488351232) (hc63 : c ≤ 9223372036854775807) (hp : p = none → n = 0 ∧ c = 0) (hx : Rd w p (u8s xs)) (hpl : pl ≤ n) :
    Calls Tryd.prog 89 #[.slice p n c, .int .i64 (pl : Int)] w fun e w' => NumAns xs pl e ∧ Only [] w w' := by
  go_enter Tryd.func89, Tryd.ntmps89
  go_wp2_with fail
  go_loop [7] (fun i => ∃ k : Nat, k ≤ 9 ∧ i = .int .i64 ((pl : Int) + (k : Int)) ∧ Hid (∀ q x, q < k → (xs.drop pl)[q]? = some x → 128 ≤ x.toNat) ∧ Hid (pl + k ≤ n)) (fun i => 9 - (intOf i - pl).toNat)
  case atStart => exact ⟨0, by omega, by simp, fun q x hq => by omega, by show _ ≤ _; omega⟩
  case round =>
    obtain ⟨k, hk, rfl, Hk, Hl⟩ := hrel
    by_cases h9 : k < 9
    · by_cases hlt : pl + k < n
      · obtain ⟨b0, off, rfl, hyc⟩ := hx.bytes (by omega)
        have hxk : (xs.drop pl)[k]? = some xs[pl + k] := by rw [List.getElem?_drop, List.getElem?_eq_getElem (by omega)]
        have hc1 := hyc (pl + k) (by omega)
        generalize xs[pl + k] = x at hxk hc1
        have Hxk := Lib.hid hxk
        clear hxk
        by_cases h128 : 128 ≤ x.toNat
        · clear hyc
          go_wp2_with fail
          refine ⟨⟨k + 1, by omega, by go_num, Lib.hid ?_, Lib.hid (by omega)⟩, by simp [intOf]; omega⟩
          intro q y hq hy
          by_cases e : q = k
          · subst e
            rw [Hxk.out] at hy
            obtain rfl := Option.some.inj hy
            exact h128
          · exact Hk.out q y (by omega) hy
        · have hlo : x.toNat < 128 := by omega
          clear h128
          have hys : ((xs.drop pl).take (k + 1)).length = k + 1 := by rw [List.length_take, List.length_drop]; omega
          have hcells : ∀ m (hm : m < k + 1), ∃ y : UInt8, ((xs.drop pl).take (k + 1))[m]? = some y ∧ w.cell? ⟨b0, off + (pl + m), none⟩ = some (.int .u8 (y.toNat : Int)) := by
            intro m hm
            refine ⟨xs[pl + m], ?_, hyc (pl + m) (by omega)⟩
            rw [List.getElem?_take, if_pos hm, List.getElem?_drop, List.getElem?_eq_getElem (by omega)]
          have Hys := Lib.hid hys
          clear hyc hys
          go_wp2_with fail
          go_loop [9, 8] (fun i s => ∃ m : Nat, m ≤ k + 1 ∧ i = .int .i64 ((pl : Int) + (m : Int) - 1) ∧ s = .int .i64 (val7 (((xs.drop pl).take (k + 1)).drop m) : Int)) (fun i _ => (intOf i - pl + 1).toNat)
          case atStart => exact ⟨k + 1, Nat.le_refl _, by go_num, by rw [List.drop_of_length_le (by rw [Hys.out]; omega)]; rfl⟩
          case round =>
            obtain ⟨m, hm, rfl, rfl⟩ := hrel
            cases m with
            | zero =>
              clear hcells
              go_wp2_with fail
              generalize hz : (xs.drop pl).take (k + 1) = ys at Hys
              have Hz := Lib.hid hz
              have rdk : Rd w (some ⟨b0, off + pl, none⟩) (u8s ys) := by rw [← hz, ← u8s_take, ← u8s_drop]; exact (hx.skip pl).take _
              have hlim : val7 ys < 9223372036854775808 := by
                have := val7_lim ys 0 (by rw [Hys.out]; omega)
                exact this
              generalize hbb : (nb (val7 ys) == ys) = bb
              have Hbb := Lib.hid hbb
              generalize hv : val7 ys = v at hlim Hbb
              have Hv := Lib.hid hv
              clear hz hbb hv
              -- <<r10
              refine wp_region_rg2 (Only []) [[(8, none)], [(43, some 0)], [(44, some 0)], [(0, none)], [(1, none)], [(7, none)], [(48, some 0)], [(46, some 3), (47, some 2), (49, some 0)], [(50, some 0)], [(45, some 6), (51, some 0)]] [(52, 0)] [none, none, none, none, none, none, none, none, none, none, none, none, none, none, none, none, none, none, none, none, none, none, none, none, none, none, none, none, none, none, none, none, none, none, none, none, none, none, none, none, none, none, none, some 43, some 44, some 45, some 46, some 47, some 48, some 49, some 50, some 51, some 52, none, none, none] (by kernel_rfl) rfl (by kernel_rfl) (fun _ => Only.refl _ _) (fun _ _ _ h k => h.trans0 k) (Only.drew _) (by kernel_rfl) ?_
              -- 0: s43 := move t8
              apply rg_ev
              · intro a w hR hf
                obtain ⟨e8, -⟩ := hf
                replace e8 : a.tmps.getD 8 undef = _ := e8
                refine rg_plain rfl fun K hK => ?_
                go_simp
                exact hK _ _ rfl (Only.refl _ _)
              -- 1: s44 := call { value (Operand.func 15), args := #[t43], #[3] }
              refine ⟨IsBy (nb v) (nb v).length, IsBy.stable _ _, fun a w hR hf => ?_, ?_⟩
              · obtain ⟨e43, -⟩ := hf
                replace e43 : a.tmps.getD 43 undef = _ := e43
                refine rg_plain rfl fun K hK => ?_
                go_simp
                (with_reducible refine (refNum_any w v hlim).mono ?_)
                rintro e w' ⟨p', c', rfl, o, h⟩
                obtain ⟨v1, v2, v3, _⟩ := o.view
                exact hK _ _ ⟨rfl, p', c', rfl, v1, v3⟩ h
              -- 2: s45 := convert 26 9 t44
              apply rg_ev
              · intro a w hR hf
                obtain ⟨e44, -⟩ := hf
                replace e44 : IsBy (nb v) (nb v).length (a.tmps.getD 44 undef) w := e44
                refine rg_plain rfl fun K hK => ?_
                obtain ⟨l44, p44, k44, e44, r44, n44⟩ := e44
                have hc := conv_bytes (P := Tryd.prog) (c := k44) w Tryd.underlying22 Tryd.underlying5 Tryd.underlying9 r44 l44 n44
                clear l44 n44
                go_simp
                exact hK _ _ rfl (Only.refl _ _)
              -- 3: s46 := move t0
              apply rg_ev
              · intro a w hR hf
                obtain ⟨e0, -⟩ := hf
                replace e0 : a.tmps.getD 0 undef = _ := e0
                refine rg_plain rfl fun K hK => ?_
                go_simp
                exact hK _ _ rfl (Only.refl _ _)
              -- 4: s47 := move t1
              apply rg_ev
              · intro a w hR hf
                obtain ⟨e1, -⟩ := hf
                replace e1 : a.tmps.getD 1 undef = _ := e1
                refine rg_plain rfl fun K hK => ?_
                go_simp
                exact hK _ _ rfl (Only.refl _ _)
              -- 5: s48 := move t7
              apply rg_ev
              · intro a w hR hf
                obtain ⟨e7, -⟩ := hf
                replace e7 : a.tmps.getD 7 undef = _ := e7
                refine rg_plain rfl fun K hK => ?_
                go_simp
                exact hK _ _ rfl (Only.refl _ _)
              -- 6: s49 := binOp Binadd 3 t48 (const (1:i64)) 3
              apply rg_ev
              · intro a w hR hf
                obtain ⟨e48, -⟩ := hf
                replace e48 : a.tmps.getD 48 undef = _ := e48
                refine rg_plain rfl fun K hK => ?_
                have hwr := IntWalk.i64_in ((pl : Int) + (k : Int) + 1) (by omega)
                go_simp
                exact hK _ _ rfl (Only.refl _ _)
              -- 7: s50 := slice 26 t46 (some t47) (some t49) none
              refine ⟨IsBy ys (k + 1), IsBy.stable _ _, fun a w hR hf => ?_, ?_⟩
              · obtain ⟨e46, e47, e49, -⟩ := hf
                replace e46 : a.tmps.getD 46 undef = _ := e46
                replace e47 : a.tmps.getD 47 undef = _ := e47
                replace e49 : a.tmps.getD 49 undef = _ := e49
                refine rg_plain rfl fun K hK => ?_
                go_simp
                have hk3 : ((pl : Int) + (k : Int) + 1).toNat - pl = k + 1 := by omega
                rw [if_pos ⟨by omega, by omega⟩, if_pos (by omega), hk3, if_neg (by omega)]
                go_simp
                exact hK _ _ ⟨Hys.out, _, _, rfl, rdk.only0 hR, by simp⟩ (Only.refl _ _)
              -- 8: s51 := convert 26 9 t50
              apply rg_ev
              · intro a w hR hf
                obtain ⟨e50, -⟩ := hf
                replace e50 : IsBy ys (k + 1) (a.tmps.getD 50 undef) w := e50
                refine rg_plain rfl fun K hK => ?_
                obtain ⟨l50, p50, k50, e50, r50, n50⟩ := e50
                have hc := conv_bytes (P := Tryd.prog) (c := k50) w Tryd.underlying22 Tryd.underlying5 Tryd.underlying9 r50 l50 n50
                clear l50 n50
                go_simp
                exact hK _ _ rfl (Only.refl _ _)
              -- 9: s52 := binOp Binneq 9 t45 t51 9
              apply rg_ev
              · intro a w hR hf
                obtain ⟨e45, e51, -⟩ := hf
                replace e45 : a.tmps.getD 45 undef = _ := e45
                replace e51 : a.tmps.getD 51 undef = _ := e51
                refine rg_plain rfl fun K hK => ?_
                have hb2 := Hbb.out
                go_simp
                exact hK _ _ rfl (Only.refl _ _)
              intro f10 w10 hR10 hf
              dsimp only [mergeT]
              obtain ⟨e52, -⟩ := hf
              replace e52 : f10 52 = _ := e52
              rw [e52]
              -- r10>>
              cases bb
              · have hno : ¬ ∃ n l : Nat, Says (xs.drop pl) n l := says_no Hxk.out hlo Hk.out (by rw [Hz.out, Hv.out]; have := Hbb.out; simpa using this)
                have Hno := Lib.hid hno
                clear hno
                go_wp2_with fail
                go_ret3
                exact ⟨NumAns.no Hno.out rfl, hR10⟩
              · have hyes : Says (xs.drop pl) v (k + 1) := by
                  refine ⟨hlim, ?_, ?_⟩
                  · rw [Hz.out]; have := Hbb.out; simpa using this
                  · rw [List.length_drop]; omega
                have Hyes := Lib.hid hyes
                clear hyes
                go_wp2_with fail
                go_ret3
                exact ⟨NumAns.yes (l := k + 1) (b := (pl : Int) + (k : Int) + 1) Hyes.out rfl (by omega) rfl, hR10⟩
            | succ m =>
              obtain ⟨y, hy, hc2⟩ := hcells m (by omega)
              have hv := val7_down _ m y hy
              have hlim := val7_lim ((xs.drop pl).take (k + 1)) m (by rw [Hys.out]; omega)
              generalize val7 (((xs.drop pl).take (k + 1)).drop (m + 1)) = v at hv ⊢
              rw [hv] at hlim
              have Hv := Lib.hid hv
              clear hv hcells
              go_wp2_with fail
              go_round
              case rel => exact ⟨m, by omega, by go_num, by rw [Hv.out]; go_num⟩
              case measure => simp [intOf]; omega
      · have hno : ¬ ∃ n l : Nat, Says (xs.drop pl) n l := by
          rintro ⟨n', l, h⟩
          obtain ⟨i, c, rfl, h1, h2, h3, _, _⟩ := h.at
          have hi := (List.getElem?_eq_some_iff.1 h2).1
          rw [List.length_drop] at hi
          have := Hk.out i c (by omega) h2
          omega
        have Hno := Lib.hid hno
        clear hno
        go_wp2_with fail
        go_ret3
        exact ⟨NumAns.no Hno.out rfl, Only.refl _ _⟩
    · have hno : ¬ ∃ n l : Nat, Says (xs.drop pl) n l := by
        rintro ⟨n', l, h⟩
        obtain ⟨i, c, rfl, h1, h2, h3, _, _⟩ := h.at
        have := Hk.out i c (by omega) h2
        omega
      have Hno := Lib.hid hno
      clear hno
      go_wp2_with fail
      all_goals
        go_ret3
        exact ⟨NumAns.no Hno.out rfl, Only.refl _ _⟩
end Go.Proofs.YtfoplbolbjcggaaDoor
end
