/- wire.Open and bollardref05.Open, all answers in one; an error's number. -/
import Derived.Test.YtkhccchjflmcmaaDoorRef05W
import Derived.Test.YtkhccchjflmcmaaDoorErrNumW
set_option linter.unusedVariables false
namespace Go.Proofs.YtkhccchjflmcmaaDoor
open Go.RowKit

/-- the value of the error with a number (0: nil) -/
def ErrNo (az : List Addr) (k : Nat) (v : Value) : Prop := (k = 0 ∧ v = .nilIface) ∨ ∃ a, 1 ≤ k ∧ az[k - 1]? = some a ∧ v = ev a
theorem num_all (w : World) (az : List Addr) (k : Nat) (v : Value) (h : ErrAll w az) (hv : ErrNo az k v) : Calls Tryd.prog 24 #[v] w fun e w' => e = .returned (.int .i64 (k : Int)) ∧ Only [] w w' := by
  rcases hv with ⟨rfl, rfl⟩ | ⟨a, h1, h2, rfl⟩
  · refine (num_nil w).mono ?_
    rintro e w' ⟨rfl, rfl⟩
    exact ⟨rfl, Only.refl _ _⟩
  · refine (num_err w az (k - 1) a h h2).mono ?_
    rintro e w' ⟨rfl, ho⟩
    exact ⟨congrArg (fun z => Ending.returned (.int .i64 z)) (by omega), ho⟩

/-- what Open answers: the bytes, the error's number -/
def openBy (xs : List UInt8) : List UInt8 := if xs.length < 4 then [] else if sealB (xs.take (xs.length - 4)) = xs then xs.take (xs.length - 4) else []
def openNo (xs : List UInt8) : Nat := if xs.length < 4 then 5 else if sealB (xs.take (xs.length - 4)) = xs then 0 else 6

theorem open_all (p : Option Addr) (xs : List UInt8) (n c : Nat) (az : List Addr) (w : World) (hE : ErrAll w az) (hn : xs.length = n) (hnc : n ≤ c) (hb : n ≤ 140737488351236) (hc63 : c ≤ 9223372036854775807) (hp : p = none → n = 0 ∧ c = 0) (hx : Rd w p (u8s xs)) :
    Calls Tryd.prog 32 #[.slice p n c] w fun e w' => ∃ q k d v, e = .returned (.tuple #[.slice q k d, v]) ∧ Hid ((openBy xs).length = k) ∧ Own w' w.heap.size 5 (.slice q k d) (u8s (openBy xs)) ∧ ErrNo az (openNo xs) v ∧ Only [] w w' := by
  obtain ⟨a4, h4⟩ : ∃ a, az[4]? = some a := ⟨_, List.getElem?_eq_getElem (by rw [hE.1]; omega)⟩
  obtain ⟨a5, h5⟩ : ∃ a, az[5]? = some a := ⟨_, List.getElem?_eq_getElem (by rw [hE.1]; omega)⟩
  by_cases hs : n < 4
  · have e1 : openBy xs = [] := by rw [openBy, if_pos (by omega)]
    have e2 : openNo xs = 5 := by rw [openNo, if_pos (by omega)]
    refine (open_short p n c w a4 (hE.2.2 4 _ a4 rfl h4) hs).mono ?_
    rintro e w' ⟨rfl, ho⟩
    exact ⟨none, 0, 0, _, rfl, by rw [e1]; rfl, by rw [e1]; exact Own.nil _ _ _, .inr ⟨a4, by omega, by rw [e2]; exact h4, rfl⟩, ho⟩
  · by_cases hg : sealB (xs.take (n - 4)) = xs
    · have e1 : openBy xs = xs.take (n - 4) := by rw [openBy, if_neg (by omega), hn, if_pos hg]
      have e2 : openNo xs = 0 := by rw [openNo, if_neg (by omega), hn, if_pos hg]
      refine (open_good p xs n c w hn hnc hb hc63 hp hx (by omega) hg).mono ?_
      rintro e w' ⟨q, d, rfl, o, ho⟩
      exact ⟨q, n - 4, d, _, rfl, by rw [e1]; show _ = _; rw [List.length_take]; omega, by rw [e1]; exact o, .inl ⟨e2, rfl⟩, ho⟩
    · have e1 : openBy xs = [] := by rw [openBy, if_neg (by omega), hn, if_neg hg]
      have e2 : openNo xs = 6 := by rw [openNo, if_neg (by omega), hn, if_neg hg]
      refine (open_bad p xs n c w a5 (hE.2.2 5 _ a5 rfl h5) hn hnc hb hc63 hp hx (by omega) hg).mono ?_
      rintro e w' ⟨rfl, ho⟩
      exact ⟨none, 0, 0, _, rfl, by rw [e1]; rfl, by rw [e1]; exact Own.nil _ _ _, .inr ⟨a5, by omega, by rw [e2]; exact h5, rfl⟩, ho⟩

theorem refOpen_all (p : Option Addr) (xs : List UInt8) (n c : Nat) (w : World) (hn : xs.length = n) (hnc : n ≤ c) (hb : n ≤ 140737488351232) (hc63 : c ≤ 9223372036854775807) (hx : Rd w p (u8s xs)) :
    Calls Tryd.prog 33 #[.slice p n c] w fun e w' => ∃ q k d, e = .returned (.tuple #[.slice q k d, .int .i64 (openNo xs : Int)]) ∧ Hid ((openBy xs).length = k) ∧ Own w' w.heap.size 5 (.slice q k d) (u8s (openBy xs)) ∧ Only [] w w' := by
  by_cases hs : n < 4
  · have e1 : openBy xs = [] := by rw [openBy, if_pos (by omega)]
    have e2 : openNo xs = 5 := by rw [openNo, if_pos (by omega)]
    refine (refOpen_short p n c w hs).mono ?_
    rintro e w' ⟨rfl, rfl⟩
    exact ⟨none, 0, 0, by rw [e2]; rfl, by rw [e1]; rfl, by rw [e1]; exact Own.nil _ _ _, Only.refl _ _⟩
  · by_cases hg : sealB (xs.take (n - 4)) = xs
    · have e1 : openBy xs = xs.take (n - 4) := by rw [openBy, if_neg (by omega), hn, if_pos hg]
      have e2 : openNo xs = 0 := by rw [openNo, if_neg (by omega), hn, if_pos hg]
      refine (refOpen_long p xs n c true w hn hnc hb hc63 hx (by omega) (by rw [hg]; simp)).mono ?_
      rintro e w' ⟨h, ho⟩
      obtain ⟨q, d, rfl, o⟩ := h
      exact ⟨q, n - 4, d, by rw [e2]; rfl, by rw [e1]; show _ = _; rw [List.length_take]; omega, by rw [e1]; exact o, ho⟩
    · have e1 : openBy xs = [] := by rw [openBy, if_neg (by omega), hn, if_neg hg]
      have e2 : openNo xs = 6 := by rw [openNo, if_neg (by omega), hn, if_neg hg]
      refine (refOpen_long p xs n c false w hn hnc hb hc63 hx (by omega) (by rw [beq_eq_false_iff_ne]; exact hg)).mono ?_
      rintro e w' ⟨h, ho⟩
      have h' : e = .returned (.tuple #[.slice none 0 0, .int .i64 6]) := h
      subst h'
      exact ⟨none, 0, 0, by rw [e2]; rfl, by rw [e1]; rfl, by rw [e1]; exact Own.nil _ _ _, ho⟩
end Go.Proofs.YtkhccchjflmcmaaDoor
