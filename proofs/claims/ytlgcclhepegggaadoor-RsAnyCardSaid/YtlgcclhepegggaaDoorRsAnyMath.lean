/- Any k shards of the data. -/
import Derived.Test.YtlgcclhepegggaaDoorRsEncMath
import Derived.Test.YtlgcclhepegggaaDoorRsDecW
set_option linter.unusedVariables false
set_option maxRecDepth 100000
namespace Go.Proofs.YtlgcclhepegggaaDoor
open Go.RowKit

theorem any_good {k m size : Nat} {xs : List UInt8} {L : List Sh} (hl : L.length = k) (hfit : xs.length ≤ k * size) (hinv : ∀ o ∈ L, ∃ j : Nat, j < k + m ∧ o.n = (j : Int) ∧ (encB k m size xs)[j]? = some o.xs)
    (hnd : ∀ (a b : Nat) oa ob, L[a]? = some oa → L[b]? = some ob → oa.n = ob.n → a = b) : goodL k m size L :=
  ⟨hl, fun j o hj => by
    obtain ⟨t, ht, e, hE⟩ := hinv o (List.mem_of_getElem? hj)
    exact ⟨by omega, by omega, encB_each hfit _ (List.mem_of_getElem? hE), fun i x hi hx e2 => by have := hnd i j x o hx hj e2; omega⟩⟩
theorem any_data {k m size : Nat} {xs : List UInt8} {L : List Sh} (hkm : k + m ≤ 16) (hl : L.length = k) (hfit : xs.length ≤ k * size) (hinv : ∀ o ∈ L, ∃ j : Nat, j < k + m ∧ o.n = (j : Int) ∧ (encB k m size xs)[j]? = some o.xs)
    (hnd : ∀ (a b : Nat) oa ob, L[a]? = some oa → L[b]? = some ob → oa.n = ob.n → a = b) : dataOf k L = dataB k size xs := by
  have hN : ∀ o ∈ L, o.n.toNat < k + m ∧ (encB k m size xs)[o.n.toNat]? = some o.xs := fun o ho => by
    obtain ⟨t, ht, e, hE⟩ := hinv o ho
    rw [e, Int.toNat_natCast]
    exact ⟨ht, hE⟩
  refine solve_any_k (N := L.map fun o => o.n.toNat) hkm hfit (by rw [List.length_map, hl]) ?_ ?_ ?_ ?_
  · unfold List.Nodup
    rw [List.pairwise_iff_getElem]
    intro i j h1 h2 hij
    rw [List.getElem_map, List.getElem_map]
    intro e
    rw [List.length_map] at h1 h2
    have a1 := hinv L[i] (List.getElem_mem h1)
    have a2 := hinv L[j] (List.getElem_mem h2)
    obtain ⟨t1, -, e1, -⟩ := a1
    obtain ⟨t2, -, e2, -⟩ := a2
    have := hnd i j L[i] L[j] (List.getElem?_eq_getElem h1) (List.getElem?_eq_getElem h2) (by rw [e1, e2] at e ⊢; omega)
    omega
  · intro x hx
    obtain ⟨o, ho, rfl⟩ := List.mem_map.1 hx
    exact (hN o ho).1
  · show rowsOf k L k = _
    unfold rowsOf
    rw [List.take_of_length_le (by rw [hl]; exact Nat.le_refl _), List.map_map]
    rfl
  · show valsOf L k = _
    unfold valsOf
    rw [List.take_of_length_le (by rw [hl]; exact Nat.le_refl _), List.map_map]
    refine List.map_congr_left fun o ho => ?_
    obtain ⟨h1, h2⟩ := hN o ho
    rw [encB_get h1] at h2
    exact (Option.some.inj h2).symm
theorem any_bytes {k m size n : Nat} {xs : List UInt8} {L : List Sh} (hkm : k + m ≤ 16) (hn : xs.length = n) (hl : L.length = k) (hfit : xs.length ≤ k * size) (hinv : ∀ o ∈ L, ∃ j : Nat, j < k + m ∧ o.n = (j : Int) ∧ (encB k m size xs)[j]? = some o.xs)
    (hnd : ∀ (a b : Nat) oa ob, L[a]? = some oa → L[b]? = some ob → oa.n = ob.n → a = b) : decB k n L = xs := by
  unfold decB
  rw [any_data hkm hl hfit hinv hnd, dataB_flatten hfit]
  unfold padD
  exact List.take_left' hn
theorem swapL_get {α : Type} {l : List α} {a b : Nat} (ha : a < l.length) (hb : b < l.length) (i : Nat) : (swapL l a b)[i]? = l[if i = b then a else if i = a then b else i]? := by
  have e1 : l[a]? = some l[a] := List.getElem?_eq_getElem ha
  have e2 : l[b]? = some l[b] := List.getElem?_eq_getElem hb
  rw [swapL_eq e1 e2]
  by_cases h : i = b
  · subst h; rw [if_pos rfl, List.getElem?_set_self (by rw [List.length_set]; exact hb), e1]
  · rw [if_neg h, List.getElem?_set_ne (fun e => h e.symm)]
    by_cases h2 : i = a
    · subst h2; rw [if_pos rfl, List.getElem?_set_self ha, e2]
    · rw [if_neg h2, List.getElem?_set_ne (fun e => h2 e.symm)]
theorem swapL_apart {L : List Sh} {i j : Nat} (hi : i < L.length) (hj : j < L.length) (hnd : ∀ (a b : Nat) oa ob, L[a]? = some oa → L[b]? = some ob → oa.n = ob.n → a = b) :
    ∀ (a b : Nat) oa ob, (swapL L i j)[a]? = some oa → (swapL L i j)[b]? = some ob → oa.n = ob.n → a = b := fun a b oa ob h1 h2 e => by
  rw [swapL_get hi hj] at h1 h2
  have := hnd _ _ oa ob h1 h2 e
  split at this <;> split at this <;> (try split at this) <;> (try split at this) <;> omega
theorem take_apart {L : List Sh} {k : Nat} (hnd : ∀ (a b : Nat) oa ob, L[a]? = some oa → L[b]? = some ob → oa.n = ob.n → a = b) :
    ∀ (a b : Nat) oa ob, (L.take k)[a]? = some oa → (L.take k)[b]? = some ob → oa.n = ob.n → a = b := fun a b oa ob h1 h2 e => by
  rw [List.getElem?_take] at h1 h2
  split at h1 <;> split at h2 <;> first | exact hnd a b oa ob h1 h2 e | (cases h1) | (cases h2)
end Go.Proofs.YtlgcclhepegggaaDoor
