/- GrwPk, part 32: ItoaW. -/
import Derived.Test.YtfeglnpmpgipiaaGreatDoorGrwPk10
import Derived.Test.YtfeglnpmpgipiaaGreatDoorGrwPk18
import Derived.Test.YtfeglnpmpgipiaaGreatDoorProg
set_option linter.unusedVariables false
set_option maxRecDepth 100000
set_option linter.unusedSimpArgs false
namespace Go.Proofs.YtfeglnpmpgipiaaGreatDoor
section
open Go.RowKit
theorem dig_lo:∀ i:Nat,i < 10→(⟨#[48,49,50,51,52,53,54,55,56,57,97,98,99,100,101,102,103,104,105,106,107,108,109,110,111,112,113,114,115,116,117,118,119,120,121,122]⟩:ByteArray).extract i (i+1)=str [UInt8.ofNat (48+i)]:=by decide +kernel
theorem dig_hi:∀ i:Nat,i < 100→¬ i < 10→(⟨#[48,48,48,49,48,50,48,51,48,52,48,53,48,54,48,55,48,56,48,57,49,48,49,49,49,50,49,51,49,52,49,53,49,54,49,55,49,56,49,57,50,48,50,49,50,50,50,51,50,52,50,53,50,54,50,55,50,56,50,57,51,48,51,49,51,50,51,51,51,52,51,53,51,54,51,55,51,56,51,57,52,48,52,49,52,50,52,51,52,52,52,53,52,54,52,55,52,56,52,57,53,48,53,49,53,50,53,51,53,52,53,53,53,54,53,55,53,56,53,57,54,48,54,49,54,50,54,51,54,52,54,53,54,54,54,55,54,56,54,57,55,48,55,49,55,50,55,51,55,52,55,53,55,54,55,55,55,56,55,57,56,48,56,49,56,50,56,51,56,52,56,53,56,54,56,55,56,56,56,57,57,48,57,49,57,50,57,51,57,52,57,53,57,54,57,55,57,56,57,57]⟩:ByteArray).extract (i * 2) (i * 2+2)=str ([UInt8.ofNat (48+i / 10)] ++ [UInt8.ofNat (48+i % 10)]):=by decide +kernel
theorem zGu (i:Nat) (h:i < 100) (w:World):Calls Tryz.prog 155 #[.int .i64 (i:Int)] w fun e w'=>e=.returned (.string (str (zBD i)))∧w=w':=by
 by_cases h10:i < 10
 ·have hi:(i:Int) < 10:=(by omega);have htn:((i:Int)+1).toNat=i+1:=by omega
  go_enter Tryz.func155,Tryz.ntmps155
  go_wp2_with fail
  go_ret
  refine ⟨congrArg Ending.returned (congrArg Value.string ?_),rfl⟩;rw [zCi h10];exact dig_lo i h10
 ·have hi:¬ (i:Int) < 10:=(by omega);have htn:((i:Int) * 2+2).toNat=i * 2+2:=(by omega);have htn0:((i:Int) * 2).toNat=i * 2:=(by omega);have htn1:IntKind.i64.wrap ((i:Int) * 2)=(i:Int) * 2:=(by rw [IntKind.wrap_i64];omega);have htn2:IntKind.i64.wrap ((i:Int) * 2+2)=(i:Int) * 2+2:=by rw [IntKind.wrap_i64];omega
  go_enter Tryz.func155,Tryz.ntmps155
  go_wp2_with fail
  go_ret
  refine ⟨congrArg Ending.returned (congrArg Value.string ?_),rfl⟩;rw [zGV h10,zCi (by omega)];exact dig_hi i h h10
theorem zFg (i:Nat) (h:i < 100) (w:World):Calls Tryz.prog 83 #[.int .i64 (i:Int)] w fun e w'=>e=.returned (.string (str (zBD i)))∧w=w':=by
 have hs:=zGu i h w;have hi:(i:Int) < 100:=(by omega);have hi0:(0:Int)≤(i:Int):=by omega
 have h2:Calls Tryz.prog 144 #[.int .i64 (i:Int),.int .i64 10] w fun e w'=>e=.returned (.string (str (zBD i)))∧w=w':=by
  go_enter Tryz.func144,Tryz.ntmps144
  go_wp2_with fail;(with_reducible refine (hs).mono ?_);rintro e w' ⟨rfl,rfl⟩;go_wp2_with fail
  go_ret
  exact ⟨rfl,rfl⟩
 have h3:Calls Tryz.prog 122 #[.int .i64 (i:Int)] w fun e w'=>e=.returned (.string (str (zBD i)))∧w=w':=by
  clear hs
  go_enter Tryz.func122,Tryz.ntmps122
  go_wp2_with fail;(with_reducible refine (h2).mono ?_);rintro e w' ⟨rfl,rfl⟩;go_wp2_with fail
  go_ret
  exact ⟨rfl,rfl⟩
 clear hs h2
 go_enter Tryz.func83,Tryz.ntmps83
 go_wp2_with fail;(with_reducible refine (h3).mono ?_);rintro e w' ⟨rfl,rfl⟩;go_wp2_with fail
 go_ret
 exact ⟨rfl,rfl⟩
end
end Go.Proofs.YtfeglnpmpgipiaaGreatDoor
