/- GrwPk, part 31: HexW. -/
import Derived.Test.YtfeglnpmpgipiaaGreatDoorGrwPk20
import Derived.Test.YtfeglnpmpgipiaaGreatDoorGrwPk21
import Derived.Test.YtfeglnpmpgipiaaGreatDoorGrwPk30
import Derived.Shelf.Small.Strs
import Derived.Test.YtfeglnpmpgipiaaGreatDoorProg
import Derived.WalkKit
import Derived.Lib.Hide
set_option linter.unusedVariables false
set_option maxRecDepth 100000
set_option linter.unusedSimpArgs false
namespace Go.Proofs.YtfeglnpmpgipiaaGreatDoor
section
open Go.RowKit
theorem zIq (p:Option Addr) (xs:List UInt8) (n c:Nat) (ww:World) (hn:xs.length=n) (hb:2 * n≤140737488355328) (hx:Rd ww p (u8s xs)) :
  Calls Tryz.prog 82 #[.slice p n c] ww fun e w'=>e=.returned (.string ⟨(yT xs).toArray⟩)∧Only [] ww w':=by
 have hfin:yT (xs.take n)=yT xs:=by rw [List.take_of_length_le (by omega)]
 go_enter Tryz.func82,Tryz.ntmps82
 go_wp2_with fail
 go_loopw [8] (fun i wr=>∃ j:Nat,i=.int .i64 (j:Int)∧j≤n∧Hid (Lib.IsBuilder 169 5 ww.heap.size ww.heap.size (u8s (yT (xs.take j))) wr)∧Hid (Below ww.heap.size ww wr)) (fun i _=>n - (intOf i).toNat)
 case atStart =>
  exact ⟨0,rfl,by omega,Lib.hid (Lib.fresh_isBuilder _ _ ww),Lib.hid (Only.alloc ww _).below⟩
 case round =>
  obtain ⟨j,rfl,hj,Hb,Hbe⟩:=hrel
  by_cases hlt:j < n
  ·obtain ⟨b,off,rfl,hyc⟩:=hx.bytes (by omega);have hc:=(Only.yX Hbe.out).cell (hyc j (by omega)) (by simp);have htk:xs.take (j+1)=xs.take j ++ [xs[j]]:=(by rw [List.take_add_one,List.getElem?_eq_getElem (by omega)];rfl);generalize xs[j]=x at hc htk;have hxl:=x.toNat_lt;have hl:(yT (xs.take j)).length=2 * j:=(by rw [zBx,List.length_take];omega);have hi1:∀ w,(Instr.index 9 (.string ⟨#[48,49,50,51,52,53,54,55,56,57,97,98,99,100,101,102]⟩) (.int .u8 ((x.toNat:Int) / 16))).run Tryz.prog w=.ok (.int .u8 ((dg (x.toNat / 16)).toNat:Int)) w:=fun w=>by have:=zBc w (x.toNat / 16) (by omega) .u8;rwa [Int.natCast_ediv] at this
   have hi2:∀ w,(Instr.index 9 (.string ⟨#[48,49,50,51,52,53,54,55,56,57,97,98,99,100,101,102]⟩) (.int .u8 ((x.toNat:Int) % 16))).run Tryz.prog w=.ok (.int .u8 ((dg (x.toNat % 16)).toNat:Int)) w:=fun w=>(by have:=zBc w (x.toNat % 16) (by omega) .u8;rwa [Int.natCast_emod] at this);have hand:bits .and .u8 (x.toNat:Int) 15=(x.toNat:Int) % 16:=(by rw [u8_and15];simp);have hsz:=Hbe.out.size;have hw1:=zBW ww.heap.size ww.heap.size (yT (xs.take j)) (dg (x.toNat / 16)) wr Hb.out (by omega) hsz;have Hi1:=Lib.hid hi1;have Hi2:=Lib.hid hi2
   have Htk:=Lib.hid htk;have Hn:=Lib.hid hn;clear hyc hx hi1 hi2 htk hn
   go_wp2_with (first | ((with_reducible show wpList _ _ _ _ _ _);refine zCK (ty:=9) (y:=.tmp 13) rfl rfl rfl rfl (Hi1.out _) ?_))
   refine hw1.mono ?_;rintro e w1 ⟨rfl,hb1,hbe1⟩;have hsz1:=hbe1.size;have hw2:=zBW ww.heap.size ww.heap.size (yT (xs.take j) ++ [dg (x.toNat / 16)]) (dg (x.toNat % 16)) w1 hb1 (by rw [List.length_append,hl];simp;omega) (by omega);clear hw1
   go_wp2_with (first | ((with_reducible show wpList _ _ _ _ _ _);refine zCK (ty:=9) (y:=.tmp 17) rfl rfl rfl rfl (Hi2.out _) ?_))
   refine hw2.mono ?_;rintro e w2 ⟨rfl,hb2,hbe2⟩;clear hw2;have Hb2:=Lib.hid hb2;have Hbe2:=Lib.hid (Hbe.out.trans (hbe1.trans hbe2));clear hb1 hbe1 hb2 hbe2 Hbe Hb;go_wp2_with fail
   go_roundw
   case rel=>exact ⟨j+1,by go_num,by omega,Lib.hid (by rw [Htk.out,zIA,zIW];have:=Hb2.out;rw [List.append_assoc] at this;exact this),Hbe2⟩
   case measure=>simp [intOf];omega
  ·obtain rfl:j=n:=(by omega);have hs:=zGC ww.heap.size ww.heap.size _ wr Hb.out Hbe.out.size;rw [hfin] at hs;have Hfin:=Lib.hid hfin;clear hfin hx;go_wp2_with fail;refine hs.mono ?_;rintro e w1 ⟨rfl,hbe1⟩;clear hs;go_wp2_with fail
   go_ret
   exact ⟨rfl,Only.yX (Hbe.out.trans hbe1)⟩
end
end Go.Proofs.YtfeglnpmpgipiaaGreatDoor
