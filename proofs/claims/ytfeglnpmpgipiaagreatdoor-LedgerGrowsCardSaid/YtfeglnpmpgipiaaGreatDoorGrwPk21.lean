/- GrwPk, part 21: HexMath, HexIdx. -/
import Derived.Test.YtfeglnpmpgipiaaGreatDoorGrwPk06
import Derived.Test.YtfeglnpmpgipiaaGreatDoorGrwPk07
import Derived.Test.YtfeglnpmpgipiaaGreatDoorGrwPk19
import Derived.Lib.Bytealg
import Derived.Test.YtfeglnpmpgipiaaGreatDoorProg
import Derived.Laws.RangeString
set_option linter.unusedVariables false
set_option maxRecDepth 100000
set_option linter.unusedSimpArgs false
namespace Go.Proofs.YtfeglnpmpgipiaaGreatDoor
section
open Go.RowKit
def zJZ:List UInt8:=[48,49,50,51,52,53,54,55,56,57,97,98,99,100,101,102]
def dg (n:Nat):UInt8:=zJZ.getD n 0
def zIh (c:UInt8):List UInt8:=[dg (c.toNat / 16),dg (c.toNat % 16)]
def yT (xs:List UInt8):List UInt8:=xs.flatMap zIh
def dv (c:UInt8):Int:=Lib.indexByte zJZ c
theorem zIA (xs ys:List UInt8):yT (xs ++ ys)=yT xs ++ yT ys:=List.flatMap_append
theorem zIW (x:UInt8):yT [x]=zIh x:=by simp [yT]
theorem zBx:∀ xs:List UInt8,(yT xs).length=2 * xs.length
 | []=>rfl
 | x :: xs=>by
  have:=zBx xs;have e:yT (x :: xs)=zIh x ++ yT xs:=rfl;rw [e,List.length_append,this];simp [zIh];omega
theorem zDG (a:Nat) (ha:a < 256):(BitVec.ofInt 8 (a:Int)).toNat=a:=by
 rw [BitVec.toNat_ofInt];simp;omega
theorem u8_and15 (x:UInt8):bits .and .u8 (x.toNat:Int) 15=((x.toNat % 16:Nat):Int):=by
 have hx:=x.toNat_lt
 have h:bits .and .u8 (x.toNat:Int) ((15:Nat):Int)=((x.toNat &&& 15:Nat):Int):=by
  simp only [bits];show IntKind.u8.wrap (((BitVec.ofInt 8 (x.toNat:Int)) &&& (BitVec.ofInt 8 ((15:Nat):Int))).toNat:Int)=_;rw [BitVec.toNat_and,zDG x.toNat hx,zDG 15 (by omega)];have:x.toNat &&& 15 < 256:=Nat.and_lt_two_pow (n:=8) _ (by omega)
  simp [IntKind.wrap,IntKind.bits,IntKind.signed];omega
 rw [show (15:Nat)=2 ^ 4 - 1 from rfl,Nat.and_two_pow_sub_one_eq_mod] at h;exact h
end
section
open Go.RowKit
theorem zBc (w:World) (n:Nat) (h:n < 16) (k:IntKind):(Instr.index 9 (.string ⟨#[48,49,50,51,52,53,54,55,56,57,97,98,99,100,101,102]⟩) (.int k (n:Int))).run Tryz.prog w=.ok (.int .u8 ((dg n).toNat:Int)) w:=by
 rw [run_index_string _ _ _ _ _ Tryz.underlying9];rw [dif_pos ⟨by omega,by show (n:Int) < 16;omega⟩];have:∀ m (hm:m < 16),((⟨#[48,49,50,51,52,53,54,55,56,57,97,98,99,100,101,102]⟩:ByteArray)[m]'hm)=dg m:=(by decide +kernel);have e:=this n h;simp only [Int.toNat_natCast];rw [e]
end
end Go.Proofs.YtfeglnpmpgipiaaGreatDoor
