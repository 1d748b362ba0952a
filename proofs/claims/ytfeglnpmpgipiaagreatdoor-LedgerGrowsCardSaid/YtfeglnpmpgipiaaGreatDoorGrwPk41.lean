/- GrwPk, part 41: Alive11W. -/
import Derived.Test.YtfeglnpmpgipiaaGreatDoorGrwPk35
import Derived.Test.YtfeglnpmpgipiaaGreatDoorGrwPk38
import Derived.Test.YtfeglnpmpgipiaaGreatDoorGrwPk40
set_option linter.unusedVariables false
set_option maxRecDepth 100000
set_option linter.unusedSimpArgs false
namespace Go.Proofs.YtfeglnpmpgipiaaGreatDoor
section
open Go.RowKit
theorem zIg:xS ⟨[],[]⟩:=⟨List.Pairwise.nil,by simp,(fun b h=>by cases h),List.Pairwise.nil,(fun f h=>by cases h)⟩
end
end Go.Proofs.YtfeglnpmpgipiaaGreatDoor
