/- LdgPk, part 41: CmLoad. -/
import Derived.Test.YtfeglnpmpgipiaaGreatDoorLdgPk10
import Derived.Deep.MidRow
set_option linter.unusedVariables false
set_option maxRecDepth 100000
set_option linter.unusedSimpArgs false
namespace Go.Proofs.YtfeglnpmpgipiaaGreatDoor
section
open Go.RowKit
theorem vC (m:zT):∀ u∈zJ m,u.oneCell'=true:=by
 intro u hu;simp only [zJ,List.mem_cons,List.not_mem_nil,or_false] at hu
 rcases hu with rfl | rfl | rfl | rfl | rfl | rfl | rfl | rfl | rfl | rfl | rfl | rfl | rfl | rfl | rfl | rfl | rfl | rfl <;> rfl
theorem vN {w:World} {bq off i:Nat} {ms:List zT} {m:zT} (hrd:Rd w (some ⟨bq,off,none⟩) (ms.flatMap zJ)) (hi:ms[i]?=some m):(Instr.loadAt 36 (.pointer (some ⟨bq,off+i * 18,none⟩))).run Tryz.prog w=.ok (lmV m) w :=
 run_loadAt_mid (P:=Tryz.prog) w bq (off+i * 18) 36 (zJ m) _ (fun j v hv=>by
  have:=zK jG hrd hi (r:=j) hv;rw [Addr.add_lit,← Nat.add_assoc] at this
  exact this) Tryz.underlying36 rfl vO
end
end Go.Proofs.YtfeglnpmpgipiaaGreatDoor
