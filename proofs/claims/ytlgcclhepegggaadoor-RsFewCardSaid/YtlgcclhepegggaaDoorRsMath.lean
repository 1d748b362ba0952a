/- Plain laws of chapter 2: shards. No program in sight. -/
import Derived.Test.YtlgcclhepegggaaDoorGfRest
set_option linter.unusedVariables false
namespace Go.Proofs.YtlgcclhepegggaaDoor
open Go.RowKit

/-- how often data shard j is in a shard -/
def factor (k number j : Nat) : UInt8 := if number < k then (if j = number then 1 else 0) else ginvZ (UInt8.ofNat (number ^^^ j))
def rowB (k number : Nat) : List UInt8 := (List.range k).map (factor k number)
theorem rowB_len (k number : Nat) : (rowB k number).length = k := by unfold rowB; simp
theorem rowB_get {k number j : Nat} (h : j < k) : (rowB k number)[j]? = some (factor k number j) := by unfold rowB; simp [h]
/-- a row while it is made -/
def rowUp (k number j : Nat) : List UInt8 := (rowB k number).take j ++ List.replicate (k - j) 0
theorem rowUp_zero (k number : Nat) : rowUp k number 0 = List.replicate k 0 := by unfold rowUp; simp
theorem rowUp_full (k number : Nat) : rowUp k number k = rowB k number := by unfold rowUp; rw [List.take_of_length_le (by rw [rowB_len]; exact Nat.le_refl _)]; simp
theorem rowUp_len {k number j : Nat} (h : j ≤ k) : (rowUp k number j).length = k := by unfold rowUp; rw [List.length_append, List.length_take, rowB_len, List.length_replicate]; omega
theorem rowUp_step {k number j : Nat} (h : j < k) : (rowUp k number j)[j]? = some 0 ∧ (rowUp k number j).set j (factor k number j) = rowUp k number (j + 1) := by
  have hl : ((rowB k number).take j).length = j := by rw [List.length_take, rowB_len]; omega
  have hd : List.replicate (k - j) (0 : UInt8) = 0 :: List.replicate (k - (j + 1)) 0 := by
    rw [← List.replicate_succ]; congr 1; omega
  unfold rowUp
  constructor
  · rw [List.getElem?_append_right (by omega), hl, Nat.sub_self, hd]; rfl
  · rw [List.set_append_right _ _ (by omega), hl, Nat.sub_self, hd, List.set_cons_zero, List.take_add_one, rowB_get h]; simp
theorem rowUp_same {k number j : Nat} (h : j < k) (h0 : factor k number j = 0) : rowUp k number j = rowUp k number (j + 1) := by
  obtain ⟨h1, h2⟩ := rowUp_step (number := number) h
  rw [← h2, h0]
  apply List.ext_getElem?
  intro i
  by_cases e : i = j
  · subst e; rw [h1, List.getElem?_set_self (by rw [rowUp_len (by omega)]; exact h)]
  · rw [List.getElem?_set_ne (fun e2 => e e2.symm)]
/-- a list plus an element's multiple of another one -/
def addS (o : List UInt8) (x : UInt8) (l : List UInt8) : List UInt8 := eachS (fun a b => gadd a (gmul x b)) o l
theorem addS_len (o : List UInt8) (x : UInt8) (l : List UInt8) : (addS o x l).length = max o.length l.length := eachS_length _ _ _
/-- the sum of lists, each times an element -/
def combB (cs : List UInt8) (ls : List (List UInt8)) (size : Nat) : List UInt8 := (cs.zip ls).foldl (fun o y => addS o y.1 y.2) (List.replicate size 0)
theorem foldAdd_len {size : Nat} : ∀ (zs : List (UInt8 × List UInt8)) (o : List UInt8), o.length = size → (∀ z ∈ zs, z.2.length = size) → (zs.foldl (fun o y => addS o y.1 y.2) o).length = size
  | [], o, h, _ => h
  | z :: r, o, h, hz => foldAdd_len r _ (by rw [addS_len, h, hz z (by simp), Nat.max_self]) (fun y hy => hz y (by simp [hy]))
theorem combB_len {cs : List UInt8} {ls : List (List UInt8)} {size : Nat} (h : ∀ l ∈ ls, l.length = size) : (combB cs ls size).length = size :=
  foldAdd_len _ _ (by simp) (fun z hz => h _ (List.of_mem_zip hz).2)
theorem combB_step {cs : List UInt8} {ls : List (List UInt8)} {size j : Nat} {x : UInt8} {l : List UInt8} (hc : cs[j]? = some x) (hl : ls[j]? = some l) : combB (cs.take (j + 1)) (ls.take (j + 1)) size = addS (combB (cs.take j) (ls.take j) size) x l := by
  have hj := (List.getElem?_eq_some_iff.1 hc).1
  have hj2 := (List.getElem?_eq_some_iff.1 hl).1
  unfold combB
  rw [List.take_add_one, List.take_add_one, hc, hl]
  rw [List.zip_append (by rw [List.length_take, List.length_take]; omega), List.foldl_append]
  rfl
theorem combB_full {cs : List UInt8} {ls : List (List UInt8)} {size j : Nat} (hc : cs.length = j) (hl : ls.length = j) : combB (cs.take j) (ls.take j) size = combB cs ls size := by
  rw [List.take_of_length_le (by omega), List.take_of_length_le (by omega)]
/-- the data shards -/
def padD (k size : Nat) (data : List UInt8) : List UInt8 := data ++ List.replicate (k * size - data.length) 0
def dataB (k size : Nat) (data : List UInt8) : List (List UInt8) := (List.range k).map fun j => ((padD k size data).drop (j * size)).take size
theorem dataB_len (k size : Nat) (data : List UInt8) : (dataB k size data).length = k := by unfold dataB; simp
theorem dataB_get {k size j : Nat} {data : List UInt8} (h : j < k) : (dataB k size data)[j]? = some (((padD k size data).drop (j * size)).take size) := by unfold dataB; simp [h]
theorem padD_len {k size : Nat} {data : List UInt8} (h : data.length ≤ k * size) : (padD k size data).length = k * size := by unfold padD; simp; omega
theorem dataB_each {k size : Nat} {data : List UInt8} (h : data.length ≤ k * size) : ∀ l ∈ dataB k size data, l.length = size := by
  intro l hl
  unfold dataB at hl
  obtain ⟨j, hj, rfl⟩ := List.mem_map.1 hl
  have hj := List.mem_range.1 hj
  rw [List.length_take, List.length_drop, padD_len h]
  have := Nat.mul_le_mul_right size (show j + 1 ≤ k by omega)
  rw [Nat.add_mul] at this
  omega
/-- all shards -/
def encB (k m size : Nat) (data : List UInt8) : List (List UInt8) := (List.range (k + m)).map fun i => combB (rowB k i) (dataB k size data) size
theorem encB_len (k m size : Nat) (data : List UInt8) : (encB k m size data).length = k + m := by unfold encB; simp
theorem encB_get {k m size i : Nat} {data : List UInt8} (h : i < k + m) : (encB k m size data)[i]? = some (combB (rowB k i) (dataB k size data) size) := by unfold encB; simp [h]
theorem encB_each {k m size : Nat} {data : List UInt8} (h : data.length ≤ k * size) : ∀ l ∈ encB k m size data, l.length = size := by
  intro l hl
  unfold encB at hl
  obtain ⟨j, hj, rfl⟩ := List.mem_map.1 hl
  exact combB_len (dataB_each h)
end Go.Proofs.YtlgcclhepegggaaDoor
