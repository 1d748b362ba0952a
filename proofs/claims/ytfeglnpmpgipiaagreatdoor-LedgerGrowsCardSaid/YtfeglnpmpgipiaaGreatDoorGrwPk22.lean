/- GrwPk, part 22: Box32, HashAtW. -/
import Derived.Test.YtfeglnpmpgipiaaGreatDoorGrwPk01
import Derived.Test.YtfeglnpmpgipiaaGreatDoorGrwPk20
import Derived.Stop.BytesEq
import Derived.Laws.IdiomStrings
set_option linter.unusedVariables false
set_option maxRecDepth 100000
set_option linter.unusedSimpArgs false
namespace Go.Proofs.YtfeglnpmpgipiaaGreatDoor
section
open Go.RowKit
theorem zJX (w:World) (A:List UInt8) (hlA:A.length=32):∃ w5,Hid ((Instr.storeAt 131 (.pointer (some ⟨w.heap.size,0,none⟩)) (.agg (u8s A).toArray)).run Tryz.prog (w.alloc (.cells #[.int .u8 0,.int .u8 0,.int .u8 0,.int .u8 0,.int .u8 0,.int .u8 0,.int .u8 0,.int .u8 0,.int .u8 0,.int .u8 0,.int .u8 0,.int .u8 0,.int .u8 0,.int .u8 0,.int .u8 0,.int .u8 0,.int .u8 0,.int .u8 0,.int .u8 0,.int .u8 0,.int .u8 0,.int .u8 0,.int .u8 0,.int .u8 0,.int .u8 0,.int .u8 0,.int .u8 0,.int .u8 0,.int .u8 0,.int .u8 0,.int .u8 0,.int .u8 0] 131))=.ok () w5)∧Row w5 w.heap.size 131 (u8s A)∧Only [] w w5∧w5.heap.size=w.heap.size+1:=by
 obtain ⟨W1,hW1⟩:∃ W1,W1=w.alloc (.cells #[.int .u8 0,.int .u8 0,.int .u8 0,.int .u8 0,.int .u8 0,.int .u8 0,.int .u8 0,.int .u8 0,.int .u8 0,.int .u8 0,.int .u8 0,.int .u8 0,.int .u8 0,.int .u8 0,.int .u8 0,.int .u8 0,.int .u8 0,.int .u8 0,.int .u8 0,.int .u8 0,.int .u8 0,.int .u8 0,.int .u8 0,.int .u8 0,.int .u8 0,.int .u8 0,.int .u8 0,.int .u8 0,.int .u8 0,.int .u8 0,.int .u8 0,.int .u8 0] 131):=⟨_,rfl⟩;have oW1:Only [] w W1:=(by rw [hW1];exact Only.alloc _ _);have r6:Row W1 w.heap.size 131 (u8s (List.replicate 32 0)):=by rw [hW1];exact Row.zV _ _ _ _ (by rfl)
 have hsz:(Tryz.prog.info? 131).map (·.size)=some (u8s A).length:=(by rw [jY,hlA];kernel_rfl);have hst:=r6.storeAt (P:=Tryz.prog) hsz (by rw [jY,jY,hlA];rfl) (fun u hu=>zBT hu);have hrow:=r6.setRow (u8s A);have hos:Only [w.heap.size] W1 (W1.setRow w.heap.size (u8s A).toArray):=Only.setRow _ _ _;rw [← hW1];exact ⟨_,Lib.hid hst,hrow,oW1.zY hos (by simp),by rw [hW1];simp [World.setRow]⟩
theorem zIa (w:World) (S:ByteArray) (xs:List UInt8) (hS:S=⟨xs.toArray⟩) (n:Nat) (hn:xs.length=n):∃ g c w',(Go.convert 9 130 (.string S)).run Tryz.prog w=.ok (.slice (some ⟨g,0,none⟩) n c) w'∧w.heap.size≤g∧Rd w' (some ⟨g,0,none⟩) (u8s xs)∧Only [] w w'∧n≤c:=by
 subst hn;have h:=run_bytes_of_string (P:=Tryz.prog) w 9 130 5 S Tryz.underlying9 Tryz.underlying130 Tryz.underlying5;have hsz:S.size=xs.length:=(by rw [hS];simp [ByteArray.size]);have hge:=grownCap_ge w S.size 0 5;rw [hsz] at h hge;refine ⟨_,_,_,h,Nat.le_refl _,.inr ⟨_,0,rfl,fun j v hj=>?_⟩,(Only.drew w).zC (Only.alloc _ _),hge⟩;rw [Nat.zero_add];have hc:=World.cell?_alloc_mark w.drew (bytesRow S (grownCap w xs.length 0 5)) 5 ((bytesRow S (grownCap w xs.length 0 5)).size,(bytesRow S (grownCap w xs.length 0 5)).size+1) j;have hj':j < xs.length:=by have:=(List.getElem?_eq_some_iff.1 hj).1;rwa [jY] at this
 refine hc.trans ?_;rw [bytesRow_at S _ j (by rw [hS];simpa using hj'),← hj,zGd hj'];subst hS;simp
end
section
open Go.RowKit
def zAg (W0 w:World) (F:List Nat) (B:Nat) (xs:List UInt8):Prop:=Hs w F B xs∧Only [] W0 w∧∀ k∈F,W0.heap.size≤k∧k < w.heap.size
theorem zAg.low {W0 w:World} {F:List Nat} {B:Nat} {xs:List UInt8} (h:zAg W0 w F B xs):Only [] W0 w:=h.2.1
theorem zAg.zB {W0 w w':World} {F:List Nat} {B:Nat} {xs:List UInt8} (h:zAg W0 w F B xs) (ho:Only [] w w'):zAg W0 w' F B xs :=
 ⟨h.1.only ho (by simp),h.2.1.zC ho,fun k hk=>⟨(h.2.2 k hk).1,Nat.lt_of_lt_of_le (h.2.2 k hk).2 ho.size⟩⟩
theorem zJC (W0 w:World) (h0:Only [] W0 w):Calls Tryz.prog 79 #[] w fun e w'=>∃ B F,e=.returned (.pointer (some ⟨B,0,none⟩))∧zAg W0 w' F B []∧Only [] w w'∧(∀ k∈F,w.heap.size≤k):=by
 refine (zIt w).mono ?_;rintro e w' ⟨B,F,rfl,h1,h2,h3⟩;exact ⟨B,F,rfl,⟨h1,h0.zC h2,fun k hk=>⟨Nat.le_trans h0.size (h3 k hk),h1.lt k hk⟩⟩,h2,h3⟩
theorem zJD (W0 w:World) (F:List Nat) (B:Nat) (xs:List UInt8) (h:zAg W0 w F B xs) (hb:xs.length≤1152921504606846976) :
  Calls Tryz.prog 81 #[.pointer (some ⟨B,0,none⟩)] w fun e w'=>e=.returned (.agg (u8s (zFN xs)).toArray)∧Only [] w w':=zFV w F B xs h.1 hb
end
end Go.Proofs.YtfeglnpmpgipiaaGreatDoor
