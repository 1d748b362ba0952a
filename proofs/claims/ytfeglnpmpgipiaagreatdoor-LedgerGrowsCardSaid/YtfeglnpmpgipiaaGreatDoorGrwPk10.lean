/- GrwPk, part 10: StrBase. -/
import Derived.Test.YtfeglnpmpgipiaaGreatDoorGrwPk05
import Derived.Test.YtfeglnpmpgipiaaGreatDoorGrwPk09
import Derived.Lib.ConvBytes
set_option linter.unusedVariables false
set_option maxRecDepth 100000
set_option linter.unusedSimpArgs false
namespace Go.Proofs.YtfeglnpmpgipiaaGreatDoor
section
open Go.RowKit
def str (b:Bs):ByteArray:=⟨b.toArray⟩
theorem zAV (b:Bs):(str b).toList=b:=by rw [ByteArray.toList_eq];rfl
theorem zAm (b:Bs):(str b).size=b.length:=by simp [str,ByteArray.size]
theorem jV (a b:Bs):((str a).toList == (str b).toList)=decide (a=b):=by
 rw [zAV,zAV]
 by_cases h:a=b
 ·rw [decide_eq_true h,h];exact beq_self_eq_true _
 ·rw [decide_eq_false h];exact beq_false_of_ne h
theorem zGR (a b:Bs):Op.bytesLess (str a).toList (str b).toList=decide (lt a b):=by
 rw [zAV,zAV]
 by_cases h:lt a b
 ·rw [decide_eq_true h];exact h
 ·rw [decide_eq_false h];unfold lt at h;simpa using h
theorem zGF {k:Bs} {j:Nat} {x:UInt8} (h:k[j]?=some x):∀ hh:j < (str k).size,(str k)[j]'hh=x:=by
 intro hh;have h0:=(List.getElem?_eq_some_iff.1 h).2;exact h0
end
end Go.Proofs.YtfeglnpmpgipiaaGreatDoor
