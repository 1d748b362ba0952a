/- Regions that draw their order, some operations turning known blocks. Over any program. -/
import Derived.Test.YtfoplbolbjcggaaDoorRegion4
import Derived.Test.YtfoplbolbjcggaaDoorRegCall
set_option linter.unusedVariables false
set_option maxRecDepth 100000
namespace Go.Proofs.YtfoplbolbjcggaaDoor
open Go.RowKit

/-- operation j turns only the blocks that the list gives it -/
def Dirt (dl : List (Nat × List Nat)) (j : Nat) : World → World → Prop := Only ((dl.lookup j).getD [])
theorem lookup_mem {dl : List (Nat × List Nat)} {j : Nat} {S : List Nat} (h : dl.lookup j = some S) : (j, S) ∈ dl := by
  induction dl with
  | nil => cases h
  | cons x r ih =>
    obtain ⟨a, b⟩ := x
    rw [List.lookup_cons] at h
    split at h
    · rename_i he
      obtain rfl : j = a := by simpa using he
      obtain rfl := Option.some.inj h
      simp
    · exact List.mem_cons_of_mem _ (ih h)
theorem stands_of {ops : Array Oper} {dl : List (Nat × List Nat)} {k : Nat} {S : Value → World → Prop} (h0 : Stable (Only []) S) (h : ∀ x ∈ dl, (x.1 == k || (ancs ops k).contains x.1) = false → Stable (Only x.2) S) : Stands ops (Dirt dl) k S := by
  intro j hj hc
  unfold Dirt
  cases e : dl.lookup j with
  | none => exact h0
  | some D =>
    refine h (j, D) (lookup_mem e) ?_
    simp only [Bool.or_eq_false_iff]
    exact ⟨by simpa using hj, hc⟩
theorem ownB_stable {D : List Nat} (e : TypeId) (bs : List UInt8) (base : Nat) (hD : ∀ x ∈ D, x < base) : Stable (Only D) (OwnB e bs base) := fun v w w' ⟨q, n, k, h1, h2, h3⟩ hR =>
  ⟨q, n, k, h1, h2, h3.only hR (fun x hx hm => by have := (h3.lt x hx).1; have := hD x hm; omega)⟩
theorem stands_own {ops : Array Oper} {dl : List (Nat × List Nat)} {k : Nat} (e : TypeId) (bs : List UInt8) (base : Nat) (h : ∀ x ∈ dl, (x.1 == k || (ancs ops k).contains x.1) = false → ∀ i ∈ x.2, i < base) : Stands ops (Dirt dl) k (OwnB e bs base) :=
  stands_of (ownB_stable e bs base (by simp)) (fun x hx hk => ownB_stable e bs base (h x hx hk))
/-- two dirty operations: what stands through those that are not waited for -/
theorem two_dirt {ops : Array Oper} {a b k : Nat} {A B : List Nat} {Z : Nat × List Nat → Prop} (h1 : (a == k || (ancs ops k).contains a) = false → Z (a, A)) (h2 : (b == k || (ancs ops k).contains b) = false → Z (b, B)) :
    ∀ x ∈ [(a, A), (b, B)], (x.1 == k || (ancs ops k).contains x.1) = false → Z x := by
  intro x hx
  simp only [List.mem_cons, List.not_mem_nil, or_false] at hx
  rcases hx with rfl | rfl
  · exact h1
  · exact h2
end Go.Proofs.YtfoplbolbjcggaaDoor
