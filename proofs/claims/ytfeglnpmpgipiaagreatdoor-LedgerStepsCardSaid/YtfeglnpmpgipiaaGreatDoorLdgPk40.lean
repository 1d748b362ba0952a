/- LdgPk, part 40: Alive11W. -/
import Derived.Test.YtfeglnpmpgipiaaGreatDoorLdgPk35
import Derived.Test.YtfeglnpmpgipiaaGreatDoorLdgPk38
import Derived.Test.YtfeglnpmpgipiaaGreatDoorLdgPk39
set_option linter.unusedVariables false
set_option maxRecDepth 100000
set_option linter.unusedSimpArgs false
namespace Go.Proofs.YtfeglnpmpgipiaaGreatDoor
section
open Go.RowKit
theorem zIh:xB ⟨[],[]⟩:=⟨List.Pairwise.nil,by simp,(fun b h=>by cases h),List.Pairwise.nil,(fun f h=>by cases h)⟩
end
end Go.Proofs.YtfeglnpmpgipiaaGreatDoor
