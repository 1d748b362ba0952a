/- Plain laws of there and back. No program in sight but the script's acts. -/
import Derived.Test.YtkhccchjflmcmaaDoorScript05
import Derived.Test.YtkhccchjflmcmaaDoorReadMath
import Derived.Test.YtkhccchjflmcmaaDoorWireSpoiltW
set_option linter.unusedVariables false
namespace Go.Proofs.YtkhccchjflmcmaaDoor
open Go.RowKit

/-- what an act writes -/
def opB (o : Op5) : List UInt8 := if o.kind = 1 then nb (mask63 o.n) else if o.kind = 2 ∨ o.kind = 3 then nb o.m ++ o.bs else []
def encO (os : List Op5) : List UInt8 := os.flatMap opB
theorem encO_take (os : List Op5) {j : Nat} {o : Op5} (h : os[j]? = some o) : encO (os.take (j + 1)) = encO (os.take j) ++ opB o := by
  unfold encO
  rw [List.take_add_one, h]; simp
theorem encO_split (os : List Op5) {j : Nat} {o : Op5} (h : os[j]? = some o) : encO os = encO (os.take j) ++ (opB o ++ encO (os.drop (j + 1))) := by
  have hj := (List.getElem?_eq_some_iff.1 h).1
  have e : os = os.take j ++ o :: os.drop (j + 1) := by
    have h2 := (List.getElem?_eq_some_iff.1 h).2
    rw [← h2, List.getElem_cons_drop hj, List.take_append_drop]
  unfold encO
  conv => lhs; rw [e]
  rw [List.flatMap_append, List.flatMap_cons]
theorem encO_le (os : List Op5) (j : Nat) : (encO (os.take j)).length ≤ (encO os).length := by
  unfold encO
  conv => rhs; rw [← List.take_append_drop j os]
  rw [List.flatMap_append, List.length_append]; omega
theorem opB_len (o : Op5) (h : o.bs.length = o.m) (hm : o.m < 9223372036854775808) : (opB o).length ≤ 9 + o.m := by
  unfold opB
  split
  · have := nb_len9 (mask63 o.n) (mask63_lt _); omega
  · split
    · have := nb_len9 o.m hm
      rw [List.length_append]; omega
    · simp
/-- a number at the head, whole -/
theorem says_head {v t : Nat} {rest : List UInt8} (hv : v < 9223372036854775808) (ht : (nb v).length ≤ t) : Says ((nb v ++ rest).take t) v (nb v).length := by
  refine ⟨hv, ?_, ?_⟩
  · rw [List.take_take, Nat.min_eq_left ht, List.take_left]
  · rw [List.length_take, List.length_append]; omega
/-- a number at the head, cut -/
theorem says_cut {v t : Nat} {rest : List UInt8} (ht : t < (nb v).length) : ¬ ∃ n l : Nat, Says ((nb v ++ rest).take t) n l := by
  rintro ⟨n, l, h⟩
  obtain ⟨i, c, rfl, h1, h2, h3, h4, h5⟩ := h.at
  obtain ⟨cs, c', e1, e2, e3, e4⟩ := nb_shape v
  rw [List.getElem?_take] at h2
  split at h2
  · rename_i hi
    rw [e1] at ht h2
    simp at ht
    have hic : i < cs.length := by omega
    rw [List.append_assoc, List.getElem?_append_left hic] at h2
    have := e2 c (List.mem_of_getElem? h2)
    omega
  · cases h2
end Go.Proofs.YtkhccchjflmcmaaDoor
