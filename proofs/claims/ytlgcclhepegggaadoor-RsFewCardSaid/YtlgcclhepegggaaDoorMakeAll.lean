/- make([]T, l, n): one equation for every world. -/
import Derived.Test.YtlgcclhepegggaaDoorMem
set_option linter.unusedVariables false
namespace Go.Proofs.YtlgcclhepegggaaDoor
open Go.RowKit
theorem make_all {P : Program} {t e : TypeId} {z : Value} {bytes : Nat} (ht : P.underlying t = some (.slice e)) (hi : (P.info? e).map (fun i => (i.zero, i.size, i.bytes)) = some (some z, 1, bytes)) (hz : z.cells = #[z])
    (kl kc : IntKind) (l n : Nat) (hl : l ≤ n) (hb : bytes * n ≤ 281474976710656) (h63 : n ≤ 9223372036854775807) :
    ∃ Z : Array Value, Z.toList = List.replicate n z ∧ ∀ w, (Instr.makeSlice t (.int kl (l : Int)) (.int kc (n : Int))).run P w = .ok (.slice (some ⟨w.heap.size, 0, none⟩) l n) (w.alloc (.cells Z e)) := by
  obtain ⟨i, hi, hz0, hz1, hz2⟩ := info_parts hi
  have hb' : (bytes : Int) * (n : Int) ≤ 281474976710656 := by
    have h : ((bytes * n : Nat) : Int) ≤ 281474976710656 := by omega
    rwa [Int.natCast_mul] at h
  refine ⟨_, ?_, fun w => run_make (P := P) w t e i z ht hi hz0 kl kc l n (by omega) (by omega) (by rw [hz2]; exact hb') (by omega)⟩
  rw [hz, hz1]
  simp only [Int.toNat_natCast, Nat.mul_one]
  exact toList_madeCells_one _ _
end Go.Proofs.YtlgcclhepegggaaDoor
