/- Plain laws of the schedule. No program in sight. -/
import Derived.Test.YtfoplbolbjcggaaDoorShaMath
set_option linter.unusedVariables false
set_option maxRecDepth 100000
namespace Go.Proofs.YtfoplbolbjcggaaDoor
open Go.RowKit

theorem grow_len : ∀ (n : Nat) (w : List UInt32), (grow n w).length = w.length + n
  | 0, w => rfl
  | n + 1, w => by simp only [grow, grow_len n, List.length_append]; simp; omega
theorem grow_take : ∀ (n : Nat) (w : List UInt32), (grow n w).take w.length = w
  | 0, w => by simp [grow]
  | n + 1, w => by
    have h := grow_take n (w ++ [nextW w])
    have h2 := congrArg (List.take w.length) h
    rw [List.take_take, List.length_append, Nat.min_eq_left (by omega), List.take_left] at h2
    exact h2
theorem grow_get : ∀ (n : Nat) (w : List UInt32) (t : Nat), w.length ≤ t → t < w.length + n → (grow n w)[t]? = some (nextW ((grow n w).take t))
  | 0, w, t, h1, h2 => by omega
  | n + 1, w, t, h1, h2 => by
    have hl : (w ++ [nextW w]).length = w.length + 1 := by simp
    by_cases e : t = w.length
    · subst e
      have h := grow_take n (w ++ [nextW w])
      have h3 := grow_take (n + 1) w
      rw [h3]
      have h4 : (grow n (w ++ [nextW w])).take (w.length + 1) = w ++ [nextW w] := by rw [← hl]; exact h
      have h5 := congrArg (fun l : List UInt32 => l[w.length]?) h4
      simp only [List.getElem?_take] at h5
      rw [if_pos (by omega)] at h5
      simpa [grow] using h5
    · exact grow_get n (w ++ [nextW w]) t (by omega) (by omega)
theorem words_get : ∀ (bs : List UInt8) (j : Nat) (a b c d : UInt8), bs[4 * j]? = some a → bs[4 * j + 1]? = some b → bs[4 * j + 2]? = some c → bs[4 * j + 3]? = some d → (words bs)[j]? = some (word a b c d)
  | w :: x :: y :: z :: r, 0, a, b, c, d, h1, h2, h3, h4 => by
    simp at h1 h2 h3 h4
    subst h1 h2 h3 h4
    rfl
  | w :: x :: y :: z :: r, j + 1, a, b, c, d, h1, h2, h3, h4 => by
    simp only [words, List.getElem?_cons_succ]
    refine words_get r j a b c d ?_ ?_ ?_ ?_
    · rw [show 4 * (j + 1) = 4 * j + 4 by omega] at h1; simpa using h1
    · rw [show 4 * (j + 1) + 1 = 4 * j + 1 + 4 by omega] at h2; simpa using h2
    · rw [show 4 * (j + 1) + 2 = 4 * j + 2 + 4 by omega] at h3; simpa using h3
    · rw [show 4 * (j + 1) + 3 = 4 * j + 3 + 4 by omega] at h4; simpa using h4
  | [], j, a, b, c, d, h1, _, _, _ => by simp at h1
  | [_], j, a, b, c, d, _, h2, _, _ => by simp at h2
  | [_, _], j, a, b, c, d, _, _, h3, _ => by simp at h3
  | [_, _, _], j, a, b, c, d, _, _, _, h4 => by simp at h4
theorem words_len : ∀ (n : Nat) (bs : List UInt8), bs.length = 4 * n → (words bs).length = n
  | 0, bs, h => by
    have : bs = [] := List.eq_nil_of_length_eq_zero (by omega)
    subst this; rfl
  | n + 1, bs, h => by
    match bs, h with
    | w :: x :: y :: z :: r, h => simp only [words, List.length_cons]; rw [words_len n r (by simp at h; omega)]
    | [], h => simp at h
    | [_], h => simp at h; omega
    | [_, _], h => simp at h; omega
    | [_, _, _], h => simp at h; omega
theorem sched_len (bs : List UInt8) (h : bs.length = 64) : (sched bs).length = 64 := by
  unfold sched; rw [grow_len, words_len 16 bs (by omega)]
theorem sched_lo (bs : List UInt8) (h : bs.length = 64) {j : Nat} (hj : j < 16) {a b c d : UInt8} (h1 : bs[4 * j]? = some a) (h2 : bs[4 * j + 1]? = some b) (h3 : bs[4 * j + 2]? = some c) (h4 : bs[4 * j + 3]? = some d) : (sched bs)[j]? = some (word a b c d) := by
  have hw := words_len 16 bs (by omega)
  have ht := grow_take 48 (words bs)
  have := words_get bs j a b c d h1 h2 h3 h4
  rw [← ht, List.getElem?_take, if_pos (by omega)] at this
  exact this
theorem sched_hi (bs : List UInt8) (h : bs.length = 64) {t : Nat} (ht : 16 ≤ t) (ht2 : t < 64) {a b c d : UInt32} (h1 : (sched bs)[t - 16]? = some a) (h2 : (sched bs)[t - 15]? = some b) (h3 : (sched bs)[t - 7]? = some c) (h4 : (sched bs)[t - 2]? = some d) : (sched bs)[t]? = some (a + sig0 b + c + sig1 d) := by
  have hw := words_len 16 bs (by omega)
  have hl := sched_len bs h
  have hg := grow_get 48 (words bs) t (by omega) (by omega)
  have hgd : ∀ (k : Nat) (x : UInt32), k < t → (sched bs)[k]? = some x → ((sched bs).take t).getD k 0 = x := fun k x hk hx => by
    rw [List.getD_eq_getElem?_getD, List.getElem?_take, if_pos hk, hx]; rfl
  have hlt : ((sched bs).take t).length = t := by rw [List.length_take]; omega
  rw [show (sched bs)[t]? = some (nextW ((sched bs).take t)) from hg]
  unfold nextW
  rw [hlt, hgd _ _ (by omega) h1, hgd _ _ (by omega) h2, hgd _ _ (by omega) h3, hgd _ _ (by omega) h4]
/-- the row while it is filled -/
def fillR (l : List UInt32) (j : Nat) : List UInt32 := l.take j ++ List.replicate (64 - j) 0
theorem fillR_len (l : List UInt32) (h : l.length = 64) (j : Nat) (hj : j ≤ 64) : (fillR l j).length = 64 := by
  unfold fillR; rw [List.length_append, List.length_take, List.length_replicate]; omega
theorem fillR_set (l : List UInt32) (h : l.length = 64) {j : Nat} {x : UInt32} (hj : l[j]? = some x) : (fillR l j).set j x = fillR l (j + 1) := by
  have hjl := (List.getElem?_eq_some_iff.1 hj).1
  unfold fillR
  have hlt : (l.take j).length = j := by rw [List.length_take]; omega
  rw [List.set_append_right _ _ (by omega), hlt, Nat.sub_self, List.take_add_one, hj]
  obtain ⟨m, hm⟩ : ∃ m, 64 - j = m + 1 := ⟨63 - j, by omega⟩
  rw [hm, show 64 - (j + 1) = m by omega, List.replicate_succ]
  simp
theorem fillR_get (l : List UInt32) (h : l.length = 64) {j k : Nat} (hk : k < j) : (fillR l j)[k]? = l[k]? := by
  unfold fillR
  by_cases hkl : k < l.length
  · rw [List.getElem?_append_left (by rw [List.length_take]; omega), List.getElem?_take, if_pos hk]
  · rw [List.getElem?_eq_none (by omega : l.length ≤ k)]
    rw [List.getElem?_append_right (by rw [List.length_take]; omega), List.getElem?_eq_none]
    rw [List.length_replicate, List.length_take]; omega
end Go.Proofs.YtfoplbolbjcggaaDoor
