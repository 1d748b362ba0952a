/- CmpPk, part 9: StrBase. -/
import Derived.Test.YtfeglnpmpgipiaaGreatDoorCmpPk04
import Derived.Test.YtfeglnpmpgipiaaGreatDoorCmpPk08
import Derived.Lib.ConvBytes
set_option linter.unusedVariables false
set_option maxRecDepth 100000
set_option linter.unusedSimpArgs false
namespace Go.Proofs.YtfeglnpmpgipiaaGreatDoor
section
open Go.RowKit
def str (b:Bs):ByteArray:=⟨b.toArray⟩
theorem str_toList (b:Bs):(str b).toList=b:=by rw [ByteArray.toList_eq];rfl
theorem str_size (b:Bs):(str b).size=b.length:=by simp [str,ByteArray.size]
theorem str_eqb (a b:Bs):((str a).toList == (str b).toList)=decide (a=b):=by
 rw [str_toList,str_toList]
 by_cases h:a=b
 ·rw [decide_eq_true h,h];exact beq_self_eq_true _
 ·rw [decide_eq_false h];exact beq_false_of_ne h
theorem str_ltb (a b:Bs):Op.bytesLess (str a).toList (str b).toList=decide (lt a b):=by
 rw [str_toList,str_toList]
 by_cases h:lt a b
 ·rw [decide_eq_true h];exact h
 ·rw [decide_eq_false h];unfold lt at h;simpa using h
end
end Go.Proofs.YtfeglnpmpgipiaaGreatDoor
