/- GrwPk, part 42: CmLoad. -/
import Derived.Test.YtfeglnpmpgipiaaGreatDoorGrwPk15
import Derived.Deep.MidRow
set_option linter.unusedVariables false
set_option maxRecDepth 100000
set_option linter.unusedSimpArgs false
namespace Go.Proofs.YtfeglnpmpgipiaaGreatDoor
section
open Go.RowKit
theorem vR (m:zS):∀ u∈zK m,u.oneCell'=true:=by
 intro u hu;simp only [zK,List.mem_cons,List.not_mem_nil,or_false] at hu
 rcases hu with rfl | rfl | rfl | rfl | rfl | rfl | rfl | rfl | rfl | rfl | rfl | rfl | rfl | rfl | rfl | rfl | rfl | rfl <;> rfl
theorem yL {w:World} {bq off i:Nat} {ms:List zS} {m:zS} (hrd:Rd w (some ⟨bq,off,none⟩) (ms.flatMap zK)) (hi:ms[i]?=some m):(Instr.loadAt 36 (.pointer (some ⟨bq,off+i * 18,none⟩))).run Tryz.prog w=.ok (lmV m) w :=
 run_loadAt_mid (P:=Tryz.prog) w bq (off+i * 18) 36 (zK m) _ (fun j v hv=>by
  have:=zP jB hrd hi (r:=j) hv;rw [Addr.add_lit,← Nat.add_assoc] at this
  exact this) Tryz.underlying36 rfl vK
end
end Go.Proofs.YtfeglnpmpgipiaaGreatDoor
