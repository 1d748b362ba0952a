/- EndsPk, part 18: Box32. -/
import Derived.Test.YtfeglnpmpgipiaaEndsPk01
import Derived.Test.YtfeglnpmpgipiaaEndsPk13
import Derived.Stop.BytesEq
import Derived.Laws.IdiomStrings
set_option linter.unusedVariables false
set_option maxRecDepth 100000
section
set_option linter.unusedVariables false
set_option maxRecDepth 100000
namespace Go.Proofs.Ytfeglnpmpgipiaa
open Go.RowKit
theorem box32 (w : World) (A : List UInt8) (hlA : A.length = 32) : ∃ w5, Hid ((Instr.storeAt 98 (.pointer (some ⟨w.heap.size, 0, none⟩)) (.agg (u8s A).toArray)).run Try.prog (w.alloc (.cells #[.int .u8 0, .int .u8 0, .int .u8 0, .int .u8 0, .int .u8 0, .int .u8 0, .int .u8 0, .int .u8 0, .int .u8 0, .int .u8 0, .int .u8 0, .int .u8 0, .int .u8 0, .int .u8 0, .int .u8 0, .int .u8 0, .int .u8 0, .int .u8 0, .int .u8 0, .int .u8 0, .int .u8 0, .int .u8 0, .int .u8 0, .int .u8 0, .int .u8 0, .int .u8 0, .int .u8 0, .int .u8 0, .int .u8 0, .int .u8 0, .int .u8 0, .int .u8 0] 98)) = .ok () w5) ∧ Row w5 w.heap.size 98 (u8s A) ∧ Only [] w w5 ∧ w5.heap.size = w.heap.size + 1 := by
 obtain ⟨W1, hW1⟩ : ∃ W1, W1 = w.alloc (.cells #[.int .u8 0, .int .u8 0, .int .u8 0, .int .u8 0, .int .u8 0, .int .u8 0, .int .u8 0, .int .u8 0, .int .u8 0, .int .u8 0, .int .u8 0, .int .u8 0, .int .u8 0, .int .u8 0, .int .u8 0, .int .u8 0, .int .u8 0, .int .u8 0, .int .u8 0, .int .u8 0, .int .u8 0, .int .u8 0, .int .u8 0, .int .u8 0, .int .u8 0, .int .u8 0, .int .u8 0, .int .u8 0, .int .u8 0, .int .u8 0, .int .u8 0, .int .u8 0] 98) := ⟨_, rfl⟩; have oW1 : Only [] w W1 := (by rw [hW1]; exact Only.alloc _ _); have r6 : Row W1 w.heap.size 98 (u8s (List.replicate 32 0)) := by rw [hW1]; exact Row.newOf _ _ _ _ (by rfl)
 have hsz : (Try.prog.info? 98).map (·.size) = some (u8s A).length := (by rw [u8s_length, hlA]; kernel_rfl); have hst := r6.storeAt (P := Try.prog) hsz (by rw [u8s_length, u8s_length, hlA]; rfl) (fun u hu => u8s_one hu); have hrow := r6.setRow (u8s A); have hos : Only [w.heap.size] W1 (W1.setRow w.heap.size (u8s A).toArray) := Only.setRow _ _ _; rw [← hW1]; exact ⟨_, Lib.hid hst, hrow, oW1.transN hos (by simp), by rw [hW1]; simp [World.setRow]⟩
theorem conv_str (w : World) (S : ByteArray) (xs : List UInt8) (hS : S = ⟨xs.toArray⟩) (n : Nat) (hn : xs.length = n) : ∃ g c w', (Go.convert 9 100 (.string S)).run Try.prog w = .ok (.slice (some ⟨g, 0, none⟩) n c) w' ∧ w.heap.size ≤ g ∧ Rd w' (some ⟨g, 0, none⟩) (u8s xs) ∧ Only [] w w' ∧ n ≤ c := by
 subst hn; have h := run_bytes_of_string (P := Try.prog) w 9 100 5 S Try.underlying9 Try.underlying100 Try.underlying5; have hsz : S.size = xs.length := (by rw [hS]; simp [ByteArray.size]); have hge := grownCap_ge w S.size 0 5; rw [hsz] at h hge; refine ⟨_, _, _, h, Nat.le_refl _, .inr ⟨_, 0, rfl, fun j v hj => ?_⟩, (Only.drew w).trans0 (Only.alloc _ _), hge⟩; rw [Nat.zero_add]; have hc := World.cell?_alloc_mark w.drew (bytesRow S (grownCap w xs.length 0 5)) 5 ((bytesRow S (grownCap w xs.length 0 5)).size, (bytesRow S (grownCap w xs.length 0 5)).size + 1) j; have hj' : j < xs.length := by have := (List.getElem?_eq_some_iff.1 hj).1; rwa [u8s_length] at this
 refine hc.trans ?_; rw [bytesRow_at S _ j (by rw [hS]; simpa using hj'), ← hj, u8s_get hj']; subst hS; simp
end Go.Proofs.Ytfeglnpmpgipiaa
end
