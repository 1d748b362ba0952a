/- The walk of bollardnum.SameInts, of two slices that read the same. -/
import Derived.Test.YtlgcclhepegggaaDoorProg
import Derived.Test.YtlgcclhepegggaaDoorOwn
set_option linter.unusedVariables false
set_option maxRecDepth 100000
namespace Go.Proofs.YtlgcclhepegggaaDoor
open Go.RowKit

def intsV (xs : List Int) : List Value := xs.map fun x => .int .i64 x
theorem intsV_get {xs : List Int} {j : Nat} (h : j < xs.length) : (intsV xs)[j]? = some (.int .i64 xs[j]) := by simp [intsV, h]
set_option maxHeartbeats 4000000 in
theorem sameInts_any (w0 : World) (p q : Option Addr) (n c d : Nat) (xs : List Int) (hl : xs.length = n) (hn : n ≤ 4611686018427387904) (hp : Rd w0 p (intsV xs)) (hq : Rd w0 q (intsV xs)) :
    Calls Tryd.prog 18 #[.slice p n c, .slice q n d] w0 fun e w' => e = .returned (.bool true) ∧ Only [] w0 w' := by
  have Hp := Lib.hid hp
  have Hq := Lib.hid hq
  have Hl := Lib.hid hl
  clear hp hq hl
  go_enter Tryd.func18, Tryd.ntmps18
  go_wp2_with fail
  go_loopw [13] (fun a wr => ∃ (j : Nat), a = .int .i64 (j : Int) ∧ j ≤ n ∧ Hid (Only [] w0 wr)) (fun a _ => n - (intOf a).toNat)
  case atStart => exact ⟨0, rfl, Nat.zero_le _, Lib.hid (Only.refl _ _)⟩
  case round =>
    obtain ⟨j, rfl, hj, HO⟩ := hrel
    by_cases hlt : j < n
    · have hji : (j : Int) < (n : Int) := by omega
      have hget := intsV_get (xs := xs) (j := j) (by rw [Hl.out]; exact hlt)
      generalize xs[j]'(by rw [Hl.out]; exact hlt) = x at hget
      have hne : intsV xs ≠ [] := fun e => by rw [e] at hget; cases hget
      obtain ⟨bp, op, rfl, cp⟩ : ∃ b o, p = some ⟨b, o, none⟩ ∧ wr.cell? ⟨b, o + j, none⟩ = some (.int .i64 x) := by
        rcases Hp.out.only0 HO.out with h | ⟨b, o, e, h⟩
        · exact absurd h hne
        · exact ⟨b, o, e, h j _ hget⟩
      obtain ⟨bq, oq, rfl, cq⟩ : ∃ b o, q = some ⟨b, o, none⟩ ∧ wr.cell? ⟨b, o + j, none⟩ = some (.int .i64 x) := by
        rcases Hq.out.only0 HO.out with h | ⟨b, o, e, h⟩
        · exact absurd h hne
        · exact ⟨b, o, e, h j _ hget⟩
      clear hget hne
      go_wp2_with fail
      go_quiet (fail)
      go_wp2_with fail
      refine ⟨⟨j + 1, by go_num, by omega, Lib.hid (HO.out.trans0 (Only.drewN _ _))⟩, ?_⟩
      show n - ((j : Int) + 1).toNat < n - ((j : Int)).toNat
      omega
    · obtain rfl : j = n := by omega
      have hji : ¬ (j : Int) < (j : Int) := by omega
      go_wp2_with fail
      go_ret
      exact ⟨rfl, HO.out⟩
end Go.Proofs.YtlgcclhepegggaaDoor
