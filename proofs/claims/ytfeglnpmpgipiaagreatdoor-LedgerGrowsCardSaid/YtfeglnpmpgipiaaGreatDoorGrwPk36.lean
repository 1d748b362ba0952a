/- GrwPk, part 36: GoodIdW. -/
import Derived.Test.YtfeglnpmpgipiaaGreatDoorGrwPk06
import Derived.Test.YtfeglnpmpgipiaaGreatDoorProg
import Derived.Deep.DeepCutAuto
set_option linter.unusedVariables false
set_option maxRecDepth 100000
set_option linter.unusedSimpArgs false
namespace Go.Proofs.YtfeglnpmpgipiaaGreatDoor
section
open Go.RowKit
def zAq (a b q:Int):Prop:=0≤a∧a≤15∧0≤b∧b≤1099511627776∧0≤q∧q≤1099511627776
instance (a b q:Int):Decidable (zAq a b q):=by unfold zAq;exact inferInstance
set_option maxHeartbeats 4000000 in
theorem zBg (a b q:Int) (w:World):Calls Tryz.prog 61 #[.agg #[.int .i64 a,.int .i64 b,.int .i64 q]] w fun e w'=>e=.returned (.bool (decide (zAq a b q)))∧Only [] w w':=by
 have F1:Hid (zAq a b q→Ending.returned (Value.bool true)=.returned (.bool (decide (zAq a b q)))):=Lib.hid (fun h=>by rw [decide_eq_true h]);have F0:Hid (¬ zAq a b q→Ending.returned (Value.bool false)=.returned (.bool (decide (zAq a b q)))):=Lib.hid (fun h=>by rw [decide_eq_false h])
 go_enter Tryz.func61,Tryz.ntmps61
 by_cases h1:0≤a
 ·by_cases h2:a≤15
  ·by_cases h3:0≤b
   ·by_cases h4:b≤1099511627776
    ·by_cases h5:0≤q
     ·by_cases h6:q≤1099511627776
      ·skip
       go_wp2_with fail
       go_ret
       exact ⟨F1.out (⟨h1,h2,h3,h4,h5,h6⟩),Only.alloc _ _⟩
      ·skip
       go_wp2_with fail
       go_ret
       exact ⟨F0.out (fun k=>by unfold zAq at k;omega),Only.alloc _ _⟩
     ·skip
      go_wp2_with fail
      go_ret
      exact ⟨F0.out (fun k=>by unfold zAq at k;omega),Only.alloc _ _⟩
    ·skip
     go_wp2_with fail
     go_ret
     exact ⟨F0.out (fun k=>by unfold zAq at k;omega),Only.alloc _ _⟩
   ·skip
    go_wp2_with fail
    go_ret
    exact ⟨F0.out (fun k=>by unfold zAq at k;omega),Only.alloc _ _⟩
  ·skip
   go_wp2_with fail
   go_ret
   exact ⟨F0.out (fun k=>by unfold zAq at k;omega),Only.alloc _ _⟩
 ·skip
  go_wp2_with fail
  go_ret
  exact ⟨F0.out (fun k=>by unfold zAq at k;omega),Only.alloc _ _⟩
end
end Go.Proofs.YtfeglnpmpgipiaaGreatDoor
