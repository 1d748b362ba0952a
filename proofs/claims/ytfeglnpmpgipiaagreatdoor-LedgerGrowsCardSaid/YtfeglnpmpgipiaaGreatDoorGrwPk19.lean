/- GrwPk, part 19: Wires, ShaRound, ShaDigW. -/
import Derived.Test.YtfeglnpmpgipiaaGreatDoorGrwPk01
import Derived.Test.YtfeglnpmpgipiaaGreatDoorGrwPk03
import Derived.Test.YtfeglnpmpgipiaaGreatDoorGrwPk06
import Derived.Test.YtfeglnpmpgipiaaGreatDoorGrwPk07
import Derived.Test.YtfeglnpmpgipiaaGreatDoorGrwPk18
import Derived.WalkKit
import Derived.Lib.Hide
import Derived.Test.YtfeglnpmpgipiaaGreatDoorProg
import Derived.Lib.SliceRun
import Derived.Lib.AppendZeros
set_option linter.unusedVariables false
set_option maxRecDepth 100000
set_option linter.unusedSimpArgs false
namespace Go.Proofs.YtfeglnpmpgipiaaGreatDoor
end Go.Proofs.YtfeglnpmpgipiaaGreatDoor
section
set_option linter.unusedVariables false
set_option maxRecDepth 100000
section
set_option linter.unusedVariables false
namespace Go.Proofs.YtfeglnpmpgipiaaGreatDoor
open Go.RowKit
def nb (n:Nat):List UInt8:=if h:n < 128 then [UInt8.ofNat n] else UInt8.ofNat (n % 128+128) :: nb (n / 128)
termination_by n
decreasing_by omega
end Go.Proofs.YtfeglnpmpgipiaaGreatDoor
end
section
namespace Go.Proofs.YtfeglnpmpgipiaaGreatDoor
open Go.RowKit
theorem yJ (a:Nat) (ha:a < 4294967296):(BitVec.ofInt 32 (a:Int)).toNat=a:=by
 rw [BitVec.toNat_ofInt];simp;omega
theorem vS (n:Nat) (h:n < 4294967296):IntKind.u32.wrap (n:Int)=n:=by
 simp [IntKind.wrap,IntKind.bits,IntKind.signed];omega
theorem u32_xor_nat (a b:Nat) (ha:a < 4294967296) (hb:b < 4294967296):bits .xor .u32 (a:Int) (b:Int)=((a ^^^ b:Nat):Int):=by
 simp only [bits];show IntKind.u32.wrap (((BitVec.ofInt 32 (a:Int)) ^^^ (BitVec.ofInt 32 (b:Int))).toNat:Int)=_;rw [BitVec.toNat_xor,yJ a ha,yJ b hb];exact vS _ (Nat.xor_lt_two_pow (n:=32) ha hb)
theorem u32_and_nat (a b:Nat) (ha:a < 4294967296) (hb:b < 4294967296):bits .and .u32 (a:Int) (b:Int)=((a &&& b:Nat):Int):=by
 simp only [bits];show IntKind.u32.wrap (((BitVec.ofInt 32 (a:Int)) &&& (BitVec.ofInt 32 (b:Int))).toNat:Int)=_;rw [BitVec.toNat_and,yJ a ha,yJ b hb];exact vS _ (Nat.and_lt_two_pow (n:=32) _ hb)
theorem u32_or_nat (a b:Nat) (ha:a < 4294967296) (hb:b < 4294967296):bits .or .u32 (a:Int) (b:Int)=((a ||| b:Nat):Int):=by
 simp only [bits];show IntKind.u32.wrap (((BitVec.ofInt 32 (a:Int)) ||| (BitVec.ofInt 32 (b:Int))).toNat:Int)=_;rw [BitVec.toNat_or,yJ a ha,yJ b hb];exact vS _ (Nat.or_lt_two_pow (n:=32) ha hb)
theorem jX (a b:UInt32):bits .xor .u32 (a.toNat:Int) (b.toNat:Int)=((a ^^^ b).toNat:Int):=by
 rw [u32_xor_nat _ _ a.toNat_lt b.toNat_lt,UInt32.toNat_xor]
theorem zAE (a b:UInt32):bits .and .u32 (a.toNat:Int) (b.toNat:Int)=((a &&& b).toNat:Int):=by
 rw [u32_and_nat _ _ a.toNat_lt b.toNat_lt,UInt32.toNat_and]
theorem zAt (a b:UInt32):bits .or .u32 (a.toNat:Int) (b.toNat:Int)=((a ||| b).toNat:Int):=by
 rw [u32_or_nat _ _ a.toNat_lt b.toNat_lt,UInt32.toNat_or]
theorem xW (a b:UInt32):((a.toNat:Int)+(b.toNat:Int)) % 4294967296=((a+b).toNat:Int):=by
 rw [UInt32.toNat_add];simp
end Go.Proofs.YtfeglnpmpgipiaaGreatDoor
end
section
set_option linter.unusedVariables false
namespace Go.Proofs.YtfeglnpmpgipiaaGreatDoor
open Go.RowKit
end Go.Proofs.YtfeglnpmpgipiaaGreatDoor
end
section
set_option linter.unusedVariables false
namespace Go.Proofs.YtfeglnpmpgipiaaGreatDoor
open Go.RowKit
def sb (s:UInt32):List UInt8:=[UInt8.ofNat (s.toNat / 16777216),UInt8.ofNat (s.toNat / 65536),UInt8.ofNat (s.toNat / 256),UInt8.ofNat s.toNat]
end Go.Proofs.YtfeglnpmpgipiaaGreatDoor
end
section
set_option linter.unusedVariables false
namespace Go.Proofs.YtfeglnpmpgipiaaGreatDoor
open Go.RowKit
end Go.Proofs.YtfeglnpmpgipiaaGreatDoor
end
section
set_option linter.unusedVariables false
namespace Go.Proofs.YtfeglnpmpgipiaaGreatDoor
open Go.RowKit
end Go.Proofs.YtfeglnpmpgipiaaGreatDoor
end
end
namespace Go.Proofs.YtfeglnpmpgipiaaGreatDoor
end Go.Proofs.YtfeglnpmpgipiaaGreatDoor
section
set_option linter.unusedVariables false
set_option maxRecDepth 100000
section
set_option linter.unusedVariables false
namespace Go.Proofs.YtfeglnpmpgipiaaGreatDoor
open Go.RowKit
theorem zIm (x:UInt32) (s:Nat) (h:s < 32):((x.toNat:Int) * 2 ^ s % 4294967296)=((x <<< UInt32.ofNat s).toNat:Int):=by
 have e:(UInt32.ofNat s).toNat=s:=(by rw [UInt32.toNat_ofNat'];omega);rw [UInt32.toNat_shiftLeft,e,Nat.mod_eq_of_lt h,Nat.shiftLeft_eq];rw [show ((2:Int) ^ s)=((2 ^ s:Nat):Int) by simp,← Int.natCast_mul];omega
theorem zEg (x:UInt32) (n:Nat) (h:n < 32):((x.toNat:Int) / 2 ^ n)=((x >>> UInt32.ofNat n).toNat:Int):=by
 have e:(UInt32.ofNat n).toNat=n:=(by rw [UInt32.toNat_ofNat'];omega);rw [UInt32.toNat_shiftRight,e,Nat.mod_eq_of_lt h,Nat.shiftRight_eq_div_pow];rw [show ((2:Int) ^ n)=((2 ^ n:Nat):Int) by simp,← Int.natCast_ediv]
theorem zHn (x:UInt32) (k:Int) (n s:Nat) (hns:n+s=32) (hn:0 < n) (hs0:0 < s) (hs:bits .and .u64 (IntKind.u64.wrap k) 31=(s:Int)) (w:World):Calls Tryz.prog 153 #[.int .u32 (x.toNat:Int),.int .i64 k] w fun e w'=>e=.returned (.int .u32 ((yZ x (UInt32.ofNat n)).toNat:Int))∧w=w':=by
 have h1:(32:Int) - (s:Int)=(n:Int):=by omega
 go_enter Tryz.func153,Tryz.ntmps153
 go_wp2_with fail
 go_ret
 refine ⟨congrArg (fun z=>Ending.returned (.int .u32 z)) ?_,rfl⟩;show bits .or .u32 _ _=_;rw [zIm x s (by omega),zEg x n (by omega),zAt]
 have e:(32:UInt32) - UInt32.ofNat n=UInt32.ofNat s:=by
  apply UInt32.toNat_inj.1;rw [UInt32.toNat_sub,UInt32.toNat_ofNat',UInt32.toNat_ofNat',show (32:UInt32).toNat=32 from rfl];omega
 unfold yZ;rw [e,UInt32.or_comm]
theorem yY (x:UInt32) (n:Nat) (hn:n=2∨n=6∨n=7∨n=11∨n=13∨n=17∨n=18∨n=19∨n=22∨n=25) (v:Int) (hv:v=(n:Int)) (r:UInt32) (hr:yZ x (UInt32.ofNat n)=r) (w:World):Calls Tryz.prog 142 #[.int .u32 (x.toNat:Int),.int .i64 v] w fun e w'=>e=.returned (.int .u32 (r.toNat:Int))∧w=w':=by
 have hs:bits .and .u64 (IntKind.u64.wrap (-v)) 31=((32 - n:Nat):Int):=by
  subst hv
  rcases hn with rfl | rfl | rfl | rfl | rfl | rfl | rfl | rfl | rfl | rfl <;> decide +kernel
 have hrl:=zHn x (-v) n (32 - n) (by omega) (by omega) (by omega) hs w;rw [hr] at hrl;have hb:-9223372036854775808 ≤ -v ∧ -v≤9223372036854775807:=(by omega);clear hs hr hv hn
 go_enter Tryz.func142,Tryz.ntmps142
 go_wp2_with fail;refine hrl.mono ?_;rintro e w' ⟨rfl,rfl⟩;go_wp2_with fail
 go_ret
 exact ⟨rfl,rfl⟩
end Go.Proofs.YtfeglnpmpgipiaaGreatDoor
end
section
set_option linter.unusedVariables false
namespace Go.Proofs.YtfeglnpmpgipiaaGreatDoor
open Go.RowKit
theorem zFP:∀ (n:Nat) (w:List UInt32),(grow n w).length=w.length+n
 | 0,w=>rfl
 | n+1,w=>by simp only [grow,zFP n,List.length_append];simp;omega
theorem zBO:∀ (n:Nat) (w:List UInt32),(grow n w).take w.length=w
 | 0,w=>by simp [grow]
 | n+1,w=>by
  have h:=zBO n (w ++ [zBV w]);have h2:=congrArg (List.take w.length) h;rw [List.take_take,List.length_append,Nat.min_eq_left (by omega),List.take_left] at h2;exact h2
theorem zFD:∀ (n:Nat) (w:List UInt32) (t:Nat),w.length≤t→t < w.length+n→(grow n w)[t]?=some (zBV ((grow n w).take t))
 | 0,w,t,h1,h2=>by omega
 | n+1,w,t,h1,h2=>by
  have hl:(w ++ [zBV w]).length=w.length+1:=by simp
  by_cases e:t=w.length
  ·subst e;have h:=zBO n (w ++ [zBV w]);have h3:=zBO (n+1) w;rw [h3];have h4:(grow n (w ++ [zBV w])).take (w.length+1)=w ++ [zBV w]:=(by rw [← hl];exact h);have h5:=congrArg (fun l:List UInt32=>l[w.length]?) h4;simp only [List.getElem?_take] at h5;rw [if_pos (by omega)] at h5
   simpa [grow] using h5
  ·exact zFD n (w ++ [zBV w]) t (by omega) (by omega)
theorem zED:∀ (bs:List UInt8) (j:Nat) (a b c d:UInt8),bs[4 * j]?=some a→bs[4 * j+1]?=some b→bs[4 * j+2]?=some c→bs[4 * j+3]?=some d→(words bs)[j]?=some (word a b c d)
 | w :: x :: y :: z :: r,0,a,b,c,d,h1,h2,h3,h4=>by
  simp at h1 h2 h3 h4
  subst h1 h2 h3 h4
  rfl
 | w :: x :: y :: z :: r,j+1,a,b,c,d,h1,h2,h3,h4=>by
  simp only [words,List.getElem?_cons_succ];refine zED r j a b c d ?_ ?_ ?_ ?_
  ·rw [show 4 * (j+1)=4 * j+4 by omega] at h1;simpa using h1
  ·rw [show 4 * (j+1)+1=4 * j+1+4 by omega] at h2;simpa using h2
  ·rw [show 4 * (j+1)+2=4 * j+2+4 by omega] at h3;simpa using h3
  ·rw [show 4 * (j+1)+3=4 * j+3+4 by omega] at h4;simpa using h4
 | [],j,a,b,c,d,h1,_,_,_=>by simp at h1
 | [_],j,a,b,c,d,_,h2,_,_=>by simp at h2
 | [_,_],j,a,b,c,d,_,_,h3,_=>by simp at h3
 | [_,_,_],j,a,b,c,d,_,_,_,h4=>by simp at h4
theorem zBS:∀ (n:Nat) (bs:List UInt8),bs.length=4 * n→(words bs).length=n
 | 0,bs,h=>by
  have:bs=[]:=List.eq_nil_of_length_eq_zero (by omega);subst this;rfl
 | n+1,bs,h=>by
  match bs,h with
  | w :: x :: y :: z :: r,h=>simp only [words,List.length_cons];rw [zBS n r (by simp at h;omega)]
  | [],h=>simp at h
  | [_],h=>simp at h;omega
  | [_,_],h=>simp at h;omega
  | [_,_,_],h=>simp at h;omega
theorem zCF (bs:List UInt8) (h:bs.length=64):(sched bs).length=64:=by
 unfold sched;rw [zFP,zBS 16 bs (by omega)]
theorem zIL (bs:List UInt8) (h:bs.length=64) {j:Nat} (hj:j < 16) {a b c d:UInt8} (h1:bs[4 * j]?=some a) (h2:bs[4 * j+1]?=some b) (h3:bs[4 * j+2]?=some c) (h4:bs[4 * j+3]?=some d):(sched bs)[j]?=some (word a b c d):=by
 have hw:=zBS 16 bs (by omega);have ht:=zBO 48 (words bs);have:=zED bs j a b c d h1 h2 h3 h4;rw [← ht,List.getElem?_take,if_pos (by omega)] at this;exact this
theorem zHt (bs:List UInt8) (h:bs.length=64) {t:Nat} (ht:16≤t) (ht2:t < 64) {a b c d:UInt32} (h1:(sched bs)[t - 16]?=some a) (h2:(sched bs)[t - 15]?=some b) (h3:(sched bs)[t - 7]?=some c) (h4:(sched bs)[t - 2]?=some d):(sched bs)[t]?=some (a+zIR b+c+zIU d):=by
 have hw:=zBS 16 bs (by omega);have hl:=zCF bs h;have hg:=zFD 48 (words bs) t (by omega) (by omega)
 have hgd:∀ (k:Nat) (x:UInt32),k < t→(sched bs)[k]?=some x→((sched bs).take t).getD k 0=x:=fun k x hk hx=>by
  rw [List.getD_eq_getElem?_getD,List.getElem?_take,if_pos hk,hx];rfl
 have hlt:((sched bs).take t).length=t:=(by rw [List.length_take];omega);rw [show (sched bs)[t]?=some (zBV ((sched bs).take t)) from hg];unfold zBV;rw [hlt,hgd _ _ (by omega) h1,hgd _ _ (by omega) h2,hgd _ _ (by omega) h3,hgd _ _ (by omega) h4]
def vV (l:List UInt32) (j:Nat):List UInt32:=l.take j ++ List.replicate (64 - j) 0
theorem zEJ (l:List UInt32) (h:l.length=64) (j:Nat) (hj:j≤64):(vV l j).length=64:=by
 unfold vV;rw [List.length_append,List.length_take,List.length_replicate];omega
theorem zDy (l:List UInt32) (h:l.length=64) {j:Nat} {x:UInt32} (hj:l[j]?=some x):(vV l j).set j x=vV l (j+1):=by
 have hjl:=(List.getElem?_eq_some_iff.1 hj).1;unfold vV;have hlt:(l.take j).length=j:=(by rw [List.length_take];omega);rw [List.set_append_right _ _ (by omega),hlt,Nat.sub_self,List.take_add_one,hj];obtain ⟨m,hm⟩:∃ m,64 - j=m+1:=⟨63 - j,by omega⟩;rw [hm,show 64 - (j+1)=m by omega,List.replicate_succ]
 simp
theorem zCE (l:List UInt32) (h:l.length=64) {j k:Nat} (hk:k < j):(vV l j)[k]?=l[k]?:=by
 unfold vV
 by_cases hkl:k < l.length
 ·rw [List.getElem?_append_left (by rw [List.length_take];omega),List.getElem?_take,if_pos hk]
 ·rw [List.getElem?_eq_none (by omega:l.length≤k)];rw [List.getElem?_append_right (by rw [List.length_take];omega),List.getElem?_eq_none];rw [List.length_replicate,List.length_take];omega
end Go.Proofs.YtfeglnpmpgipiaaGreatDoor
end
section
set_option linter.unusedVariables false
namespace Go.Proofs.YtfeglnpmpgipiaaGreatDoor
open Go.RowKit
def zEZ (x:UInt32):Value:=.int .u32 (x.toNat:Int)
def qQ (xs:List UInt32):List Value:=xs.map zEZ
theorem qM (xs:List UInt32):(qQ xs).length=xs.length:=by simp [qQ]
theorem jW {xs:List UInt32} {i:Nat} {x:UInt32} (h:xs[i]?=some x):(qQ xs)[i]?=some (.int .u32 (x.toNat:Int)):=by simp [qQ,h,zEZ]
theorem zDM (xs:List UInt32) (n:Nat) (x:UInt32):(qQ xs).set n (zEZ x)=qQ (xs.set n x):=by simp [qQ,List.map_set]
theorem zCu (x:UInt8) (k:Nat) (hk:k≤24):IntKind.u32.wrap (IntKind.u32.wrap (x.toNat:Int) * ((2 ^ k:Nat):Int))=((x.toUInt32 <<< UInt32.ofNat k).toNat:Int):=by
 have hx:=x.toNat_lt;have e:(UInt32.ofNat k).toNat=k:=(by rw [UInt32.toNat_ofNat'];omega);have hp:2 ^ k≤2 ^ 24:=Nat.pow_le_pow_right (by omega) hk
 have hm:x.toNat * 2 ^ k < 4294967296:=by
  have:x.toNat * 2 ^ k≤255 * 2 ^ 24:=Nat.mul_le_mul (by omega) hp;omega
 rw [vS _ (by omega),← Int.natCast_mul,vS _ hm,UInt32.toNat_shiftLeft,e,Nat.mod_eq_of_lt (by omega:k < 32),UInt8.toNat_toUInt32,Nat.shiftLeft_eq,Nat.mod_eq_of_lt (by omega)]
theorem zFx (a b c d:UInt8):bits .or .u32 (bits .or .u32 (bits .or .u32 (IntKind.u32.wrap (IntKind.u32.wrap (a.toNat:Int) * 16777216)) (IntKind.u32.wrap (IntKind.u32.wrap (b.toNat:Int) * 65536))) (IntKind.u32.wrap (IntKind.u32.wrap (c.toNat:Int) * 256))) (IntKind.u32.wrap (d.toNat:Int))=((word a b c d).toNat:Int):=by
 have h1:=zCu a 24 (by omega);have h2:=zCu b 16 (by omega);have h3:=zCu c 8 (by omega);have h4:IntKind.u32.wrap (d.toNat:Int)=((d.toUInt32).toNat:Int):=(by have:=d.toNat_lt;rw [vS _ (by omega),UInt8.toNat_toUInt32]);rw [show ((2 ^ 24:Nat):Int)=16777216 by decide] at h1;rw [show ((2 ^ 16:Nat):Int)=65536 by decide] at h2;rw [show ((2 ^ 8:Nat):Int)=256 by decide] at h3;rw [h1,h2,h3,h4,zAt,zAt,zAt]
 rfl
theorem zAJ (a b:UInt32):IntKind.u32.wrap ((a.toNat:Int)+(b.toNat:Int))=((a+b).toNat:Int):=by
 have h:=xW a b;rw [← h];simp [IntKind.wrap,IntKind.bits,IntKind.signed]
theorem zGG (a b c d:UInt32):IntKind.u32.wrap (IntKind.u32.wrap (IntKind.u32.wrap ((a.toNat:Int)+bits .xor .u32 (bits .xor .u32 ((yZ b 7).toNat:Int) ((yZ b 18).toNat:Int)) ((b.toNat:Int) / 8))+(c.toNat:Int))+bits .xor .u32 (bits .xor .u32 ((yZ d 17).toNat:Int) ((yZ d 19).toNat:Int)) ((d.toNat:Int) / 1024))=((a+zIR b+c+zIU d).toNat:Int):=by
 have h1:=zEg b 3 (by omega);have h2:=zEg d 10 (by omega);rw [show ((2:Int) ^ 3)=8 by decide] at h1;rw [show ((2:Int) ^ 10)=1024 by decide] at h2;rw [h1,h2,jX,jX,jX,jX,zAJ,zAJ,zAJ]
 rfl
theorem vO {xs:List UInt32} {v:Value} (h:v∈qQ xs):v.oneCell'=true:=by
 obtain ⟨x,_,rfl⟩:=List.mem_map.1 h;rfl
set_option maxRecDepth 100000 in
set_option maxHeartbeats 2000000 in
theorem zHH (p:Option Addr) (bs:List UInt8) (c:Nat) (ww:World) (hn:bs.length=64) (hx:Rd ww p (u8s bs)) :
  Calls Tryz.prog 140 #[.slice p 64 c] ww fun e w'=>e=.returned (.agg (qQ (sched bs)).toArray)∧Only [] ww w':=by
 obtain ⟨b0,off,rfl,hyc⟩:=hx.bytes (by omega);have hlS:=zCF bs hn;have hbl:=hx.lt (by intro e;have h0:=congrArg List.length e;rw [jY,hn] at h0;simp at h0);obtain ⟨b',off',e',hbl⟩:=hbl;obtain ⟨rfl,rfl,-⟩:b0=b'∧off=off'∧True:=(by simpa using e');have hlo:∀ (j:Nat) (a b c d:UInt8),j < 16→bs[4 * j]?=some a→bs[4 * j+1]?=some b→bs[4 * j+2]?=some c→bs[4 * j+3]?=some d→(sched bs)[j]?=some (word a b c d):=fun j a b c d hj h1 h2 h3 h4=>zIL bs hn hj h1 h2 h3 h4;have hhi:∀ (t:Nat) (a b c d:UInt32),16≤t→t < 64→(sched bs)[t - 16]?=some a→(sched bs)[t - 15]?=some b→(sched bs)[t - 7]?=some c→(sched bs)[t - 2]?=some d→(sched bs)[t]?=some (a+zIR b+c+zIU d):=fun t a b c d ht ht2 h1 h2 h3 h4=>zHt bs hn ht ht2 h1 h2 h3 h4
 generalize sched bs=S at hlS hlo hhi ⊢;have Hlo:=Lib.hid hlo;have Hhi:=Lib.hid hhi;have HlS:=Lib.hid hlS;clear hlo hhi hlS;obtain ⟨Z,hZ⟩:∃ Z,Z=List.replicate 64 (0:UInt32):=⟨_,rfl⟩;have hZ0:vV S 0=Z:=(by rw [hZ];rfl);have HZ:=Lib.hid hZ;have HZ0:=Lib.hid hZ0;clear hZ hZ0
 go_enter Tryz.func140,Tryz.ntmps140
 go_wp2_with fail
 go_loopw [8] (fun i wr=>∃ j:Nat,i=.int .i64 (j:Int)∧j≤16∧Hid (Row wr ww.heap.size 188 (qQ Z))∧Hid (Row wr (ww.heap.size+1) 188 (qQ (vV S j)))∧Only [] ww wr) (fun i _=>16 - (intOf i).toNat)
 case atStart =>
  have hz:=HZ.out;subst hz;refine ⟨0,rfl,by omega,Lib.hid (Row.zB (Row.new ww 188 (qQ (List.replicate 64 0))) (Only.alloc _ _)),Lib.hid ?_,(Only.alloc _ _).zC (Only.alloc _ _)⟩;rw [HZ0.out];exact Row.newAt _ 188 (qQ (List.replicate 64 0)) (by simp)
 case round =>
  obtain ⟨j,rfl,hj,R2,R3,ho⟩:=hrel
  by_cases hlt:j < 16
  ·have hb:=fun i (hi:i < 64)=>ho.cell (hyc i (by omega)) (by simp);have hc0:=hb (4 * j) (by omega);have hc1:=hb (4 * j+1) (by omega);have hc2:=hb (4 * j+2) (by omega);have hc3:=hb (4 * j+3) (by omega);have hS:=Hlo.out j _ _ _ _ hlt (List.getElem?_eq_getElem (by omega)) (List.getElem?_eq_getElem (by omega)) (List.getElem?_eq_getElem (by omega)) (List.getElem?_eq_getElem (by omega));generalize bs[4 * j]=x0 at hc0 hS;generalize bs[4 * j+1]=x1 at hc1 hS;generalize bs[4 * j+2]=x2 at hc2 hS;generalize bs[4 * j+3]=x3 at hc3 hS;clear hb hyc;have hbg:b0≠ww.heap.size+1:=by omega
   have Hn:=Lib.hid hn;have HS:=Lib.hid hS;clear hn hS hx;go_wp2_with fail;have hRr:∀ a,Only [ww.heap.size+1] a a:=fun a=>Only.refl _ _;have hRt:∀ a b e,Only [ww.heap.size+1] a b→Only [ww.heap.size+1] b e→Only [ww.heap.size+1] a e:=fun a b e h h2=>h.trans h2 (fun i hi _=>hi);have hRd:Only [ww.heap.size+1] wr wr.drew:=(Only.drew _).mono (by simp);have hC0:∀ i∈[35],(fun (_:Nat) (a:World)=>Row a (ww.heap.size+1) 188 (qQ (vV S j))) i wr.drew:=fun _ _=>R3.out.zB (Only.drew _);refine xG (Only [ww.heap.size+1]) (zDm [(35,[ww.heap.size+1])]) (fun (_:Nat) (a:World)=>Row a (ww.heap.size+1) 188 (qQ (vV S j))) [35] [[(4,none)],[(0,none)],[(4,none)],[(13,some 0)],[(12,some 2),(14,some 0)],[(15,some 0)],[(16,some 0)],[(17,some 0)],[(0,none)],[(4,none)],[(20,some 0)],[(21,some 0)],[(19,some 3),(22,some 0)],[(23,some 0)],[(24,some 0)],[(25,some 0)],[(18,some 8),(26,some 0)],[(0,none)],[(4,none)],[(29,some 0)],[(30,some 0)],[(28,some 3),(31,some 0)],[(32,some 0)],[(33,some 0)],[(34,some 0)],[(27,some 8),(35,some 0)],[(0,none)],[(4,none)],[(38,some 0)],[(39,some 0)],[(37,some 3),(40,some 0)],[(41,some 0)],[(42,some 0)],[(36,some 7),(43,some 0)],[(3,none),(11,some 33)],[(45,some 0),(44,some 1)]] [] [none,none,none,none,none,none,none,none,none,none,none,some 11,some 12,some 13,some 14,some 15,some 16,some 17,some 18,some 19,some 20,some 21,some 22,some 23,some 24,some 25,some 26,some 27,some 28,some 29,some 30,some 31,some 32,some 33,some 34,some 35,some 36,some 37,some 38,some 39,some 40,some 41,some 42,some 43,some 44,some 45,none,none,none,none,none,none,none,none,none,none,none,none,none,none,none,none,none,none,none,none,none,none,none,none,none,none,none,none,none,none,none,none,none,none,none,none,none,none,none,none,none,none,none] (by kernel_rfl) rfl (by kernel_rfl) hRr hRt (fun _ _=>Only.refl _ _) hRd hC0 (by kernel_rfl) (by kernel_rfl) ?_
   apply zR
   ·rintro a w hR hC ⟨(e4:_=_),-⟩;refine zA rfl fun K hK=>?_;go_simp;exact hK _ _ rfl ⟨hRr _,Only.refl _ _,fun _ _ _ _ h=>h⟩
   apply zR
   ·rintro a w hR hC ⟨(e0:_=_),-⟩;refine zA rfl fun K hK=>?_;go_simp;exact hK _ _ rfl ⟨hRr _,Only.refl _ _,fun _ _ _ _ h=>h⟩
   apply zR
   ·rintro a w hR hC ⟨(e4:_=_),-⟩;refine zA rfl fun K hK=>?_;go_simp;exact hK _ _ rfl ⟨hRr _,Only.refl _ _,fun _ _ _ _ h=>h⟩
   apply zR
   ·rintro a w hR hC ⟨(e13:_=_),-⟩;refine zA rfl fun K hK=>?_;have hw:=IntWalk.i64_in (4 * (j:Int)) (by omega);go_simp;exact hK _ _ rfl ⟨hRr _,Only.refl _ _,fun _ _ _ _ h=>h⟩
   apply zR
   ·rintro a w hR hC ⟨(e12:_=_),(e14:_=_),-⟩;refine zA rfl fun K hK=>?_;have hi1:(0:Int)≤4 * (j:Int):=(by omega);have hi2:4 * (j:Int) < 64:=(by omega);have hi3:(4 * (j:Int)).toNat=4 * j:=(by omega);go_simp;exact hK _ _ rfl ⟨hRr _,Only.refl _ _,fun _ _ _ _ h=>h⟩
   apply zR
   ·rintro a w hR hC ⟨(e15:_=_),-⟩;refine zA rfl fun K hK=>?_;have hl:=hR.cell hc0 (by simp;omega);go_simp;exact hK _ _ rfl ⟨hRr _,Only.refl _ _,fun _ _ _ _ h=>h⟩
   apply zR
   ·rintro a w hR hC ⟨(e16:_=_),-⟩;refine zA rfl fun K hK=>?_;go_simp;exact hK _ _ rfl ⟨hRr _,Only.refl _ _,fun _ _ _ _ h=>h⟩
   apply zR
   ·rintro a w hR hC ⟨(e17:_=_),-⟩;refine zA rfl fun K hK=>?_;go_simp;exact hK _ _ rfl ⟨hRr _,Only.refl _ _,fun _ _ _ _ h=>h⟩
   apply zR
   ·rintro a w hR hC ⟨(e0:_=_),-⟩;refine zA rfl fun K hK=>?_;go_simp;exact hK _ _ rfl ⟨hRr _,Only.refl _ _,fun _ _ _ _ h=>h⟩
   apply zR
   ·rintro a w hR hC ⟨(e4:_=_),-⟩;refine zA rfl fun K hK=>?_;go_simp;exact hK _ _ rfl ⟨hRr _,Only.refl _ _,fun _ _ _ _ h=>h⟩
   apply zR
   ·rintro a w hR hC ⟨(e20:_=_),-⟩;refine zA rfl fun K hK=>?_;have hw:=IntWalk.i64_in (4 * (j:Int)) (by omega);go_simp;exact hK _ _ rfl ⟨hRr _,Only.refl _ _,fun _ _ _ _ h=>h⟩
   apply zR
   ·rintro a w hR hC ⟨(e21:_=_),-⟩;refine zA rfl fun K hK=>?_;have hw:=IntWalk.i64_in (4 * (j:Int)+1) (by omega);go_simp;exact hK _ _ rfl ⟨hRr _,Only.refl _ _,fun _ _ _ _ h=>h⟩
   apply zR
   ·rintro a w hR hC ⟨(e19:_=_),(e22:_=_),-⟩;refine zA rfl fun K hK=>?_;have hi1:(0:Int)≤4 * (j:Int)+1:=(by omega);have hi2:4 * (j:Int)+1 < 64:=(by omega);have hi3:(4 * (j:Int)+1).toNat=4 * j+1:=(by omega);go_simp;exact hK _ _ rfl ⟨hRr _,Only.refl _ _,fun _ _ _ _ h=>h⟩
   apply zR
   ·rintro a w hR hC ⟨(e23:_=_),-⟩;refine zA rfl fun K hK=>?_;have hl:=hR.cell hc1 (by simp;omega);go_simp;exact hK _ _ rfl ⟨hRr _,Only.refl _ _,fun _ _ _ _ h=>h⟩
   apply zR
   ·rintro a w hR hC ⟨(e24:_=_),-⟩;refine zA rfl fun K hK=>?_;go_simp;exact hK _ _ rfl ⟨hRr _,Only.refl _ _,fun _ _ _ _ h=>h⟩
   apply zR
   ·rintro a w hR hC ⟨(e25:_=_),-⟩;refine zA rfl fun K hK=>?_;go_simp;exact hK _ _ rfl ⟨hRr _,Only.refl _ _,fun _ _ _ _ h=>h⟩
   apply zR
   ·rintro a w hR hC ⟨(e18:_=_),(e26:_=_),-⟩;refine zA rfl fun K hK=>?_;go_simp;exact hK _ _ rfl ⟨hRr _,Only.refl _ _,fun _ _ _ _ h=>h⟩
   apply zR
   ·rintro a w hR hC ⟨(e0:_=_),-⟩;refine zA rfl fun K hK=>?_;go_simp;exact hK _ _ rfl ⟨hRr _,Only.refl _ _,fun _ _ _ _ h=>h⟩
   apply zR
   ·rintro a w hR hC ⟨(e4:_=_),-⟩;refine zA rfl fun K hK=>?_;go_simp;exact hK _ _ rfl ⟨hRr _,Only.refl _ _,fun _ _ _ _ h=>h⟩
   apply zR
   ·rintro a w hR hC ⟨(e29:_=_),-⟩;refine zA rfl fun K hK=>?_;have hw:=IntWalk.i64_in (4 * (j:Int)) (by omega);go_simp;exact hK _ _ rfl ⟨hRr _,Only.refl _ _,fun _ _ _ _ h=>h⟩
   apply zR
   ·rintro a w hR hC ⟨(e30:_=_),-⟩;refine zA rfl fun K hK=>?_;have hw:=IntWalk.i64_in (4 * (j:Int)+2) (by omega);go_simp;exact hK _ _ rfl ⟨hRr _,Only.refl _ _,fun _ _ _ _ h=>h⟩
   apply zR
   ·rintro a w hR hC ⟨(e28:_=_),(e31:_=_),-⟩;refine zA rfl fun K hK=>?_;have hi1:(0:Int)≤4 * (j:Int)+2:=(by omega);have hi2:4 * (j:Int)+2 < 64:=(by omega);have hi3:(4 * (j:Int)+2).toNat=4 * j+2:=(by omega);go_simp;exact hK _ _ rfl ⟨hRr _,Only.refl _ _,fun _ _ _ _ h=>h⟩
   apply zR
   ·rintro a w hR hC ⟨(e32:_=_),-⟩;refine zA rfl fun K hK=>?_;have hl:=hR.cell hc2 (by simp;omega);go_simp;exact hK _ _ rfl ⟨hRr _,Only.refl _ _,fun _ _ _ _ h=>h⟩
   apply zR
   ·rintro a w hR hC ⟨(e33:_=_),-⟩;refine zA rfl fun K hK=>?_;go_simp;exact hK _ _ rfl ⟨hRr _,Only.refl _ _,fun _ _ _ _ h=>h⟩
   apply zR
   ·rintro a w hR hC ⟨(e34:_=_),-⟩;refine zA rfl fun K hK=>?_;go_simp;exact hK _ _ rfl ⟨hRr _,Only.refl _ _,fun _ _ _ _ h=>h⟩
   apply zR
   ·rintro a w hR hC ⟨(e27:_=_),(e35:_=_),-⟩;refine zA rfl fun K hK=>?_;go_simp;exact hK _ _ rfl ⟨hRr _,Only.refl _ _,fun _ _ _ _ h=>h⟩
   apply zR
   ·rintro a w hR hC ⟨(e0:_=_),-⟩;refine zA rfl fun K hK=>?_;go_simp;exact hK _ _ rfl ⟨hRr _,Only.refl _ _,fun _ _ _ _ h=>h⟩
   apply zR
   ·rintro a w hR hC ⟨(e4:_=_),-⟩;refine zA rfl fun K hK=>?_;go_simp;exact hK _ _ rfl ⟨hRr _,Only.refl _ _,fun _ _ _ _ h=>h⟩
   apply zR
   ·rintro a w hR hC ⟨(e38:_=_),-⟩;refine zA rfl fun K hK=>?_;have hw:=IntWalk.i64_in (4 * (j:Int)) (by omega);go_simp;exact hK _ _ rfl ⟨hRr _,Only.refl _ _,fun _ _ _ _ h=>h⟩
   apply zR
   ·rintro a w hR hC ⟨(e39:_=_),-⟩;refine zA rfl fun K hK=>?_;have hw:=IntWalk.i64_in (4 * (j:Int)+3) (by omega);go_simp;exact hK _ _ rfl ⟨hRr _,Only.refl _ _,fun _ _ _ _ h=>h⟩
   apply zR
   ·rintro a w hR hC ⟨(e37:_=_),(e40:_=_),-⟩;refine zA rfl fun K hK=>?_;have hi1:(0:Int)≤4 * (j:Int)+3:=(by omega);have hi2:4 * (j:Int)+3 < 64:=(by omega);have hi3:(4 * (j:Int)+3).toNat=4 * j+3:=(by omega);go_simp;exact hK _ _ rfl ⟨hRr _,Only.refl _ _,fun _ _ _ _ h=>h⟩
   apply zR
   ·rintro a w hR hC ⟨(e41:_=_),-⟩;refine zA rfl fun K hK=>?_;have hl:=hR.cell hc3 (by simp;omega);go_simp;exact hK _ _ rfl ⟨hRr _,Only.refl _ _,fun _ _ _ _ h=>h⟩
   apply zR
   ·rintro a w hR hC ⟨(e42:_=_),-⟩;refine zA rfl fun K hK=>?_;go_simp;exact hK _ _ rfl ⟨hRr _,Only.refl _ _,fun _ _ _ _ h=>h⟩
   apply zR
   ·rintro a w hR hC ⟨(e36:_=_),(e43:_=_),-⟩;refine zA rfl fun K hK=>?_;go_simp;exact hK _ _ rfl ⟨hRr _,Only.refl _ _,fun _ _ _ _ h=>h⟩
   apply zR
   ·rintro a w hR hC ⟨(e3:_=_),(e11:_=_),-⟩;refine zA rfl fun K hK=>?_;have hji:(j:Int) < 64:=(by omega);go_simp;exact hK _ _ rfl ⟨hRr _,Only.refl _ _,fun _ _ _ _ h=>h⟩
   refine ⟨fun _ a=>Row a (ww.heap.size+1) 188 (qQ (vV S (j+1))),jP (fun _ _ _ h ho=>h.zB ho) (by intro x hx hk;obtain rfl:=List.mem_singleton.1 hx;simp at hk),fun a w hR hC hf=>?_,?_⟩
   ·obtain ⟨e45,e44,-⟩:=hf;replace e45:a.tmps.getD 45 undef=_:=e45;replace e44:a.tmps.getD 44 undef=_:=e44;refine zA rfl fun K hK=>?_;have hC35:=hC 35 (by simp) (by kernel_rfl);obtain ⟨y,hy⟩:∃ y,(vV S j)[j]?=some y:=⟨_,List.getElem?_eq_getElem (by rw [zEJ S HlS.out j (by omega)];omega)⟩;have hcc:=hC35.cell (jW hy);have hff:=hC35.free j;have hwd:=zFx x0 x1 x2 x3;go_simp;have hst:Only [ww.heap.size+1] w (w.setCell ⟨ww.heap.size+1,j,none⟩ (zEZ (word x0 x1 x2 x3))):=Only.setCell w ⟨ww.heap.size+1,j,none⟩ _;refine hK undef _ ?_ ⟨hst,hst,fun i hi hne ha _=>absurd (List.mem_singleton.1 hi) hne⟩
    rw [← zDy S HlS.out HS.out,← zDM];exact hC35.setCell j (zEZ (word x0 x1 x2 x3))
   intro f5 w5 hR5 hf hz5;dsimp only [qE];obtain ⟨v35,r35⟩:=hz5 _ (List.mem_cons_self ..);go_wp2_with fail
   go_roundw
   case rel=>exact ⟨j+1,by go_num,by omega,Lib.hid (R2.out.only hR5 (by simp)),Lib.hid r35,ho.zY hR5 (by simp)⟩
   case measure=>simp [intOf];omega
  ·obtain rfl:j=16:=(by omega);clear hyc hx;go_wp2_with fail
   go_loopw [5] (fun i wq=>∃ t:Nat,i=.int .i64 (t:Int)∧16≤t∧t≤64∧Hid (Row wq ww.heap.size 188 (qQ Z))∧Hid (Row wq (ww.heap.size+1) 188 (qQ (vV S t)))∧Only [] ww wq) (fun i _=>64 - (intOf i).toNat)
   case atStart=>exact ⟨16,rfl,by omega,by omega,R2,R3,ho⟩
   case round =>
    clear R2 R3 ho;obtain ⟨t,rfl,h16,h64,R2,R3,ho⟩:=hrel
    by_cases hlt:t < 64
    ·have hg:∀ k,k < t→∃ x,S[k]?=some x∧wr.cell? ⟨ww.heap.size+1,k,none⟩=some (.int .u32 (x.toNat:Int)):=fun k hk=>by
      have hkl:k < S.length:=(by rw [HlS.out];omega);refine ⟨S[k],List.getElem?_eq_getElem hkl,R3.out.cell (jW ?_)⟩;rw [zCE S HlS.out hk,List.getElem?_eq_getElem hkl]
     obtain ⟨x16,s16,c16⟩:=hg (t - 16) (by omega);obtain ⟨x15,s15,c15⟩:=hg (t - 15) (by omega);obtain ⟨x7,s7,c7⟩:=hg (t - 7) (by omega);obtain ⟨x2,s2,c2⟩:=hg (t - 2) (by omega);have hnx:=Hhi.out t _ _ _ _ h16 hlt s16 s15 s7 s2;obtain ⟨xn,hxn⟩:∃ x,x=x16+zIR x15+x7+zIU x2:=⟨_,rfl⟩;rw [← hxn] at hnx;have Hxn:=Lib.hid hxn;have HS:=Lib.hid hnx;have S16:=Lib.hid s16;have S7:=Lib.hid s7;clear hnx hxn hg s16 s15 s7 s2;go_wp2_with fail;refine qY (Only []) [[(5,none)],[(51,some 0)],[(3,none),(52,some 0)],[(53,some 0)],[(5,none)],[(55,some 0)],[(3,none),(56,some 0)],[(57,some 0)],[(54,some 4)],[(58,some 1)]] [(6,1),(7,0)] [none,none,none,none,none,none,some 6,some 7,none,none,none,none,none,none,none,none,none,none,none,none,none,none,none,none,none,none,none,none,none,none,none,none,none,none,none,none,none,none,none,none,none,none,none,none,none,none,none,none,none,none,none,some 51,some 52,some 53,some 54,some 55,some 56,some 57,some 58,none,none,none,none,none,none,none,none,none,none,none,none,none,none,none,none,none,none,none,none,none,none,none,none,none,none,none,none,none,none] (by kernel_rfl) rfl (by kernel_rfl) (fun _=>Only.refl _ _) (fun _ _ _ h k=>h.zC k) (Only.drew _) (by kernel_rfl) ?_
     apply zJ
     ·rintro a w hR ⟨(e5:_=_),-⟩;refine zA rfl fun K hK=>?_;go_simp;exact hK _ _ rfl (Only.refl _ _)
     apply zJ
     ·rintro a w hR ⟨(e51:_=_),-⟩;refine zA rfl fun K hK=>?_;have hw:=IntWalk.i64_in ((t:Int) - 15) (by omega);go_simp;exact hK _ _ rfl (Only.refl _ _)
     apply zJ
     ·rintro a w hR ⟨(e3:_=_),(e52:_=_),-⟩;refine zA rfl fun K hK=>?_;have hi1:(0:Int)≤(t:Int) - 15:=(by omega);have hi2:(t:Int) - 15 < 64:=(by omega);have hi3:((t:Int) - 15).toNat=t - 15:=(by omega);have hi4:(15:Int)≤(t:Int):=(by omega);go_simp;exact hK _ _ rfl (Only.refl _ _)
     apply zJ
     ·rintro a w hR ⟨(e53:_=_),-⟩;refine zA rfl fun K hK=>?_;have hl:=hR.cell c15 (by simp);go_simp;exact hK _ _ rfl (Only.refl _ _)
     apply zJ
     ·rintro a w hR ⟨(e5:_=_),-⟩;refine zA rfl fun K hK=>?_;go_simp;exact hK _ _ rfl (Only.refl _ _)
     apply zJ
     ·rintro a w hR ⟨(e55:_=_),-⟩;refine zA rfl fun K hK=>?_;have hw:=IntWalk.i64_in ((t:Int) - 2) (by omega);go_simp;exact hK _ _ rfl (Only.refl _ _)
     apply zJ
     ·rintro a w hR ⟨(e3:_=_),(e56:_=_),-⟩;refine zA rfl fun K hK=>?_;have hi1:(0:Int)≤(t:Int) - 2:=(by omega);have hi2:(t:Int) - 2 < 64:=(by omega);have hi3:((t:Int) - 2).toNat=t - 2:=(by omega);have hi4:(2:Int)≤(t:Int):=(by omega);go_simp;exact hK _ _ rfl (Only.refl _ _)
     apply zJ
     ·rintro a w hR ⟨(e57:_=_),-⟩;refine zA rfl fun K hK=>?_;have hl:=hR.cell c2 (by simp);go_simp;exact hK _ _ rfl (Only.refl _ _)
     apply zJ
     ·rintro a w hR ⟨(e54:_=_),-⟩;refine zA rfl fun K hK=>?_;go_simp;exact hK _ _ rfl (Only.refl _ _)
     apply zJ
     ·rintro a w hR ⟨(e58:_=_),-⟩;refine zA rfl fun K hK=>?_;go_simp;exact hK _ _ rfl (Only.refl _ _)
     intro f10 w10 hR10 hf;dsimp only [qE];obtain ⟨e6,e7,-⟩:=hf;replace e6:f10 6=_:=e6;rw [e6];replace e7:f10 7=_:=e7;rw [e7];go_wp2_with fail;have k16f:∀ a,Row a (ww.heap.size+1) 188 (qQ (vV S t))→a.cell? ⟨ww.heap.size+1,t - 16,none⟩=some (.int .u32 (x16.toNat:Int)):=fun a h=>h.cell (jW (by rw [zCE S HlS.out (by omega)];exact S16.out));have k7f:∀ a,Row a (ww.heap.size+1) 188 (qQ (vV S t))→a.cell? ⟨ww.heap.size+1,t - 7,none⟩=some (.int .u32 (x7.toNat:Int)):=fun a h=>h.cell (jW (by rw [zCE S HlS.out (by omega)];exact S7.out))
     have hRr:∀ a,Only [ww.heap.size+1] a a:=fun a=>Only.refl _ _;have hRt:∀ a b e,Only [ww.heap.size+1] a b→Only [ww.heap.size+1] b e→Only [ww.heap.size+1] a e:=fun a b e h h2=>h.trans h2 (fun i hi _=>hi);have hRd:Only [ww.heap.size+1] w10 w10.drew:=(Only.drew _).mono (by simp);have hC0:∀ i∈[29],(fun (_:Nat) (a:World)=>Row a (ww.heap.size+1) 188 (qQ (vV S t))) i w10.drew:=fun _ _=>(R3.out.zB hR10).zB (Only.drew _);refine xG (Only [ww.heap.size+1]) (zDm [(29,[ww.heap.size+1])]) (fun (_:Nat) (a:World)=>Row a (ww.heap.size+1) 188 (qQ (vV S t))) [29] [[(5,none)],[(5,none)],[(60,some 0)],[(3,none),(61,some 0)],[(62,some 0)],[(6,none)],[(64,some 0)],[(6,none)],[(66,some 0)],[(65,some 2),(67,some 0)],[(6,none)],[(69,some 0)],[(68,some 2),(70,some 0)],[(63,some 8),(71,some 0)],[(5,none)],[(73,some 0)],[(3,none),(74,some 0)],[(75,some 0)],[(72,some 4),(76,some 0)],[(7,none)],[(78,some 0)],[(7,none)],[(80,some 0)],[(79,some 2),(81,some 0)],[(7,none)],[(83,some 0)],[(82,some 2),(84,some 0)],[(77,some 8),(85,some 0)],[(3,none),(59,some 27)],[(87,some 0),(86,some 1)]] [] [none,none,none,none,none,none,none,none,none,none,none,none,none,none,none,none,none,none,none,none,none,none,none,none,none,none,none,none,none,none,none,none,none,none,none,none,none,none,none,none,none,none,none,none,none,none,none,none,none,none,none,none,none,none,none,none,none,none,none,some 59,some 60,some 61,some 62,some 63,some 64,some 65,some 66,some 67,some 68,some 69,some 70,some 71,some 72,some 73,some 74,some 75,some 76,some 77,some 78,some 79,some 80,some 81,some 82,some 83,some 84,some 85,some 86,some 87,none] (by kernel_rfl) rfl (by kernel_rfl) hRr hRt (fun _ _=>Only.refl _ _) hRd hC0 (by kernel_rfl) (by kernel_rfl) ?_
     apply zR
     ·rintro a w hR hC ⟨(e5:_=_),-⟩;refine zA rfl fun K hK=>?_;go_simp;exact hK _ _ rfl ⟨hRr _,Only.refl _ _,fun _ _ _ _ h=>h⟩
     apply zR
     ·rintro a w hR hC ⟨(e5:_=_),-⟩;refine zA rfl fun K hK=>?_;go_simp;exact hK _ _ rfl ⟨hRr _,Only.refl _ _,fun _ _ _ _ h=>h⟩
     apply zR
     ·rintro a w hR hC ⟨(e60:_=_),-⟩;refine zA rfl fun K hK=>?_;have hw:=IntWalk.i64_in ((t:Int) - 16) (by omega);go_simp;exact hK _ _ rfl ⟨hRr _,Only.refl _ _,fun _ _ _ _ h=>h⟩
     apply zR
     ·rintro a w hR hC ⟨(e3:_=_),(e61:_=_),-⟩;refine zA rfl fun K hK=>?_;have hi1:(0:Int)≤(t:Int) - 16:=(by omega);have hi2:(t:Int) - 16 < 64:=(by omega);have hi3:((t:Int) - 16).toNat=t - 16:=(by omega);have hi4:(16:Int)≤(t:Int):=(by omega);go_simp;exact hK _ _ rfl ⟨hRr _,Only.refl _ _,fun _ _ _ _ h=>h⟩
     apply zR
     ·rintro a w hR hC ⟨(e62:_=_),-⟩;refine zA rfl fun K hK=>?_;have hl:=k16f w ((hC 29 (by simp) (by kernel_rfl)));go_simp;exact hK _ _ rfl ⟨hRr _,Only.refl _ _,fun _ _ _ _ h=>h⟩
     apply zR
     ·rintro a w hR hC ⟨(e6:_=_),-⟩;refine zA rfl fun K hK=>?_;go_simp;exact hK _ _ rfl ⟨hRr _,Only.refl _ _,fun _ _ _ _ h=>h⟩
     apply zR
     ·rintro a w hR hC ⟨(e64:_=_),-⟩;refine zA rfl fun K hK=>?_;go_simp;(with_reducible refine (yY x15 7 (by simp) 7 rfl _ rfl w).mono ?_);rintro e w' ⟨rfl,rfl⟩;exact hK _ _ rfl ⟨hRr _,Only.refl _ _,fun _ _ _ _ h=>h⟩
     apply zR
     ·rintro a w hR hC ⟨(e6:_=_),-⟩;refine zA rfl fun K hK=>?_;go_simp;exact hK _ _ rfl ⟨hRr _,Only.refl _ _,fun _ _ _ _ h=>h⟩
     apply zR
     ·rintro a w hR hC ⟨(e66:_=_),-⟩;refine zA rfl fun K hK=>?_;go_simp;(with_reducible refine (yY x15 18 (by simp) 18 rfl _ rfl w).mono ?_);rintro e w' ⟨rfl,rfl⟩;exact hK _ _ rfl ⟨hRr _,Only.refl _ _,fun _ _ _ _ h=>h⟩
     apply zR
     ·rintro a w hR hC ⟨(e65:_=_),(e67:_=_),-⟩;refine zA rfl fun K hK=>?_;go_simp;exact hK _ _ rfl ⟨hRr _,Only.refl _ _,fun _ _ _ _ h=>h⟩
     apply zR
     ·rintro a w hR hC ⟨(e6:_=_),-⟩;refine zA rfl fun K hK=>?_;go_simp;exact hK _ _ rfl ⟨hRr _,Only.refl _ _,fun _ _ _ _ h=>h⟩
     apply zR
     ·rintro a w hR hC ⟨(e69:_=_),-⟩;refine zA rfl fun K hK=>?_;go_simp;exact hK _ _ rfl ⟨hRr _,Only.refl _ _,fun _ _ _ _ h=>h⟩
     apply zR
     ·rintro a w hR hC ⟨(e68:_=_),(e70:_=_),-⟩;refine zA rfl fun K hK=>?_;go_simp;exact hK _ _ rfl ⟨hRr _,Only.refl _ _,fun _ _ _ _ h=>h⟩
     apply zR
     ·rintro a w hR hC ⟨(e63:_=_),(e71:_=_),-⟩;refine zA rfl fun K hK=>?_;go_simp;exact hK _ _ rfl ⟨hRr _,Only.refl _ _,fun _ _ _ _ h=>h⟩
     apply zR
     ·rintro a w hR hC ⟨(e5:_=_),-⟩;refine zA rfl fun K hK=>?_;go_simp;exact hK _ _ rfl ⟨hRr _,Only.refl _ _,fun _ _ _ _ h=>h⟩
     apply zR
     ·rintro a w hR hC ⟨(e73:_=_),-⟩;refine zA rfl fun K hK=>?_;have hw:=IntWalk.i64_in ((t:Int) - 7) (by omega);go_simp;exact hK _ _ rfl ⟨hRr _,Only.refl _ _,fun _ _ _ _ h=>h⟩
     apply zR
     ·rintro a w hR hC ⟨(e3:_=_),(e74:_=_),-⟩;refine zA rfl fun K hK=>?_;have hi1:(0:Int)≤(t:Int) - 7:=(by omega);have hi2:(t:Int) - 7 < 64:=(by omega);have hi3:((t:Int) - 7).toNat=t - 7:=(by omega);have hi4:(7:Int)≤(t:Int):=(by omega);go_simp;exact hK _ _ rfl ⟨hRr _,Only.refl _ _,fun _ _ _ _ h=>h⟩
     apply zR
     ·rintro a w hR hC ⟨(e75:_=_),-⟩;refine zA rfl fun K hK=>?_;have hl:=k7f w ((hC 29 (by simp) (by kernel_rfl)));go_simp;exact hK _ _ rfl ⟨hRr _,Only.refl _ _,fun _ _ _ _ h=>h⟩
     apply zR
     ·rintro a w hR hC ⟨(e72:_=_),(e76:_=_),-⟩;refine zA rfl fun K hK=>?_;go_simp;exact hK _ _ rfl ⟨hRr _,Only.refl _ _,fun _ _ _ _ h=>h⟩
     apply zR
     ·rintro a w hR hC ⟨(e7:_=_),-⟩;refine zA rfl fun K hK=>?_;go_simp;exact hK _ _ rfl ⟨hRr _,Only.refl _ _,fun _ _ _ _ h=>h⟩
     apply zR
     ·rintro a w hR hC ⟨(e78:_=_),-⟩;refine zA rfl fun K hK=>?_;go_simp;(with_reducible refine (yY x2 17 (by simp) 17 rfl _ rfl w).mono ?_);rintro e w' ⟨rfl,rfl⟩;exact hK _ _ rfl ⟨hRr _,Only.refl _ _,fun _ _ _ _ h=>h⟩
     apply zR
     ·rintro a w hR hC ⟨(e7:_=_),-⟩;refine zA rfl fun K hK=>?_;go_simp;exact hK _ _ rfl ⟨hRr _,Only.refl _ _,fun _ _ _ _ h=>h⟩
     apply zR
     ·rintro a w hR hC ⟨(e80:_=_),-⟩;refine zA rfl fun K hK=>?_;go_simp;(with_reducible refine (yY x2 19 (by simp) 19 rfl _ rfl w).mono ?_);rintro e w' ⟨rfl,rfl⟩;exact hK _ _ rfl ⟨hRr _,Only.refl _ _,fun _ _ _ _ h=>h⟩
     apply zR
     ·rintro a w hR hC ⟨(e79:_=_),(e81:_=_),-⟩;refine zA rfl fun K hK=>?_;go_simp;exact hK _ _ rfl ⟨hRr _,Only.refl _ _,fun _ _ _ _ h=>h⟩
     apply zR
     ·rintro a w hR hC ⟨(e7:_=_),-⟩;refine zA rfl fun K hK=>?_;go_simp;exact hK _ _ rfl ⟨hRr _,Only.refl _ _,fun _ _ _ _ h=>h⟩
     apply zR
     ·rintro a w hR hC ⟨(e83:_=_),-⟩;refine zA rfl fun K hK=>?_;go_simp;exact hK _ _ rfl ⟨hRr _,Only.refl _ _,fun _ _ _ _ h=>h⟩
     apply zR
     ·rintro a w hR hC ⟨(e82:_=_),(e84:_=_),-⟩;refine zA rfl fun K hK=>?_;go_simp;exact hK _ _ rfl ⟨hRr _,Only.refl _ _,fun _ _ _ _ h=>h⟩
     apply zR
     ·rintro a w hR hC ⟨(e77:_=_),(e85:_=_),-⟩;refine zA rfl fun K hK=>?_;go_simp;exact hK _ _ rfl ⟨hRr _,Only.refl _ _,fun _ _ _ _ h=>h⟩
     apply zR
     ·rintro a w hR hC ⟨(e3:_=_),(e59:_=_),-⟩;refine zA rfl fun K hK=>?_;have hji:(t:Int) < 64:=(by omega);go_simp;exact hK _ _ rfl ⟨hRr _,Only.refl _ _,fun _ _ _ _ h=>h⟩
     refine ⟨fun _ a=>Row a (ww.heap.size+1) 188 (qQ (vV S (t+1))),jP (fun _ _ _ h ho=>h.zB ho) (by intro x hx hk;obtain rfl:=List.mem_singleton.1 hx;simp at hk),fun a w hR hC hf=>?_,?_⟩
     ·obtain ⟨e87,e86,-⟩:=hf;replace e87:a.tmps.getD 87 undef=_:=e87;replace e86:a.tmps.getD 86 undef=_:=e86;refine zA rfl fun K hK=>?_;have hC29:=hC 29 (by simp) (by kernel_rfl);obtain ⟨y,hy⟩:∃ y,(vV S t)[t]?=some y:=⟨_,List.getElem?_eq_getElem (by rw [zEJ S HlS.out t (by omega)];omega)⟩;have hcc:=hC29.cell (jW hy);have hff:=hC29.free t;have hwd:=(zGG x16 x15 x7 x2).trans (congrArg (fun z:UInt32=>(z.toNat:Int)) Hxn.out.symm);go_simp;have hst:Only [ww.heap.size+1] w (w.setCell ⟨ww.heap.size+1,t,none⟩ (zEZ xn)):=Only.setCell w ⟨ww.heap.size+1,t,none⟩ _
      refine hK undef _ ?_ ⟨hst,hst,fun i hi hne ha _=>absurd (List.mem_singleton.1 hi) hne⟩;rw [← zDy S HlS.out HS.out,← zDM];exact hC29.setCell t (zEZ xn)
     intro f11 w11 hR11 hf hz11;dsimp only [qE];obtain ⟨v29,r29⟩:=hz11 _ (List.mem_cons_self ..);go_wp2_with fail
     go_roundw
     case rel=>exact ⟨t+1,by go_num,by omega,by omega,Lib.hid ((R2.out.zB hR10).only hR11 (by simp)),Lib.hid r29,(ho.zC hR10).zY hR11 (by simp)⟩
     case measure=>simp [intOf];omega
    ·obtain rfl:t=64:=(by omega);have r3:=R3.out;have hfull:vV S 64=S:=(by unfold vV;rw [List.take_of_length_le (by rw [HlS.out];exact Nat.le_refl _)];simp);rw [hfull] at r3;have hsz:(Tryz.prog.info? 188).map (·.size)=some (qQ S).length:=(by rw [qM,HlS.out];kernel_rfl);have hld:=r3.loadAt (P:=Tryz.prog) Tryz.underlying188 hsz;have hst:=R2.out.storeAt (P:=Tryz.prog) hsz (by rw [qM,qM,HlS.out,HZ.out];simp) (fun u hu=>vO hu);have hrow:=R2.out.setRow (qQ S);have hos:Only [ww.heap.size] wr (wr.setRow ww.heap.size (qQ S).toArray):=Only.setRow _ _ _
     have Hrow:=Lib.hid hrow;have Hld:=Lib.hid hld;have Hst:=Lib.hid hst;clear hld hst;have Hsz:=Lib.hid hsz;clear hfull hsz hrow r3 R2 R3
     go_wp2_with (first | ((with_reducible show wpList _ _ _ _ _ _);refine jG (ty:=188) (x:=.tmp 3) rfl rfl rfl Hld.out ?_) | ((with_reducible show wpList _ _ _ _ _ _);refine jO (ty:=188) (x:=.tmp 2) (y:=.tmp 88) rfl rfl rfl rfl Hst.out ?_))
     refine bodyPost_ret (results_cell_row (p:=2) rfl _ _ ww.heap.size 188 (qQ S).toArray (0,0) _ (by rfl) Hrow.out Tryz.underlying188 rfl (by simpa using Hsz.out)) (by rfl) ?_;exact ⟨rfl,ho.zY hos (by simp)⟩
end Go.Proofs.YtfeglnpmpgipiaaGreatDoor
end
section
set_option linter.unusedVariables false
namespace Go.Proofs.YtfeglnpmpgipiaaGreatDoor
open Go.RowKit
theorem zDt {P:Program} {ops:Array Oper} {rest:List Oper} {o:Oper} {a:Act} {Q:Exit→Act→World→Prop} {w:World} {t:TypeId} {parts:Array (Nat × Operand)} {cells:Array Value} (hg:o.guard=none) (ho:o.op=.build t parts)
  (hb:P.built t (parts.map fun (i,x)=>(i,a.eval x)).toList=some cells) (h:wpList P ops Q rest (a.put o.dst (.agg cells)) w):wpList P ops Q (o :: rest) a w :=
 wpList_plain hg fun K hK=>by
  refine wp_build t parts ho (by rw [hb];rfl) ?_;rw [hb];exact hK _ _ h
set_option maxRecDepth 100000 in
theorem zHW (ww:World):Calls Tryz.prog 118 #[] ww fun e w'=>e=.returned (.agg (qQ st0.l).toArray)∧Only [] ww w':=by
 have hsz:(Tryz.prog.info? 160).map (·.size)=some (qQ st0.l).length:=(by kernel_rfl);have hrow:=Row.new ww 160 (List.replicate 8 (.int .u32 0));have hst:=hrow.storeAt (P:=Tryz.prog) hsz rfl (fun u hu=>vO hu);have hrow2:=hrow.setRow (qQ st0.l);have hos:Only [ww.heap.size] (ww.alloc (.cells (List.replicate 8 (Value.int .u32 0)).toArray 160)) _:=Only.setRow _ ww.heap.size (qQ st0.l).toArray;have Hst:=Lib.hid hst;have Hrow2:=Lib.hid hrow2;have Hos:=Lib.hid hos;clear hst hrow hrow2 hos
 go_enter Tryz.func118,Tryz.ntmps118
 go_wp2_with (first | ((with_reducible show wpList _ _ _ _ _ _);refine zDt (t:=160) (cells:=(qQ st0.l).toArray) rfl rfl (by kernel_rfl) ?_) | ((with_reducible show wpList _ _ _ _ _ _);refine jO (ty:=160) (x:=.tmp 0) (y:=.tmp 1) rfl rfl rfl rfl Hst.out ?_))
 refine bodyPost_ret (results_cell_row (p:=0) rfl _ _ ww.heap.size 160 (qQ st0.l).toArray (0,0) _ (by rfl) Hrow2.out Tryz.underlying160 rfl (by simpa using hsz)) (by rfl) ?_;exact ⟨rfl,(Only.alloc ww _).zY Hos.out (by simp)⟩
set_option maxRecDepth 100000 in
theorem zFl (ww:World):Calls Tryz.prog 141 #[] ww fun e w'=>e=.returned (.agg (qQ zDh).toArray)∧Only [] ww w':=by
 have hsz:(Tryz.prog.info? 188).map (·.size)=some (qQ zDh).length:=(by kernel_rfl);have hrow:=Row.new ww 188 (List.replicate 64 (.int .u32 0));have hst:=hrow.storeAt (P:=Tryz.prog) hsz rfl (fun u hu=>vO hu);have hrow2:=hrow.setRow (qQ zDh);have hos:Only [ww.heap.size] (ww.alloc (.cells (List.replicate 64 (Value.int .u32 0)).toArray 188)) _:=Only.setRow _ ww.heap.size (qQ zDh).toArray;have Hst:=Lib.hid hst;have Hrow2:=Lib.hid hrow2;have Hos:=Lib.hid hos;clear hst hrow hrow2 hos
 go_enter Tryz.func141,Tryz.ntmps141
 go_wp2_with (first | ((with_reducible show wpList _ _ _ _ _ _);refine zDt (t:=188) (cells:=(qQ zDh).toArray) rfl rfl (by kernel_rfl) ?_) | ((with_reducible show wpList _ _ _ _ _ _);refine jO (ty:=188) (x:=.tmp 0) (y:=.tmp 1) rfl rfl rfl rfl Hst.out ?_))
 refine bodyPost_ret (results_cell_row (p:=0) rfl _ _ ww.heap.size 188 (qQ zDh).toArray (0,0) _ (by rfl) Hrow2.out Tryz.underlying188 rfl (by simpa using hsz)) (by rfl) ?_;exact ⟨rfl,(Only.alloc ww _).zY Hos.out (by simp)⟩
end Go.Proofs.YtfeglnpmpgipiaaGreatDoor
end
section
set_option linter.unusedVariables false
namespace Go.Proofs.YtfeglnpmpgipiaaGreatDoor
open Go.RowKit
def zDW (A B:List UInt32) (i:Nat):List UInt32:=(List.zipWith (·+·) A B).take i ++ A.drop i
theorem zGg {A B:List UInt32} (hA:A.length=8) (hB:B.length=8) {i:Nat} {x y:UInt32} (hx:A[i]?=some x) (hy:B[i]?=some y):(zDW A B i)[i]?=some x∧(zDW A B i).set i (x+y)=zDW A B (i+1):=by
 have hi:=(List.getElem?_eq_some_iff.1 hx).1;have hl:((List.zipWith (·+·) A B).take i).length=i:=(by rw [List.length_take,List.length_zipWith];omega);have hz:(List.zipWith (·+·) A B)[i]?=some (x+y):=by rw [List.getElem?_zipWith,hx,hy]
 have hd:A.drop i=x :: A.drop (i+1):=by
  rw [List.drop_eq_getElem_cons hi];have:=List.getElem?_eq_getElem hi;rw [hx] at this;rw [Option.some.inj this]
 unfold zDW
 constructor
 ·rw [List.getElem?_append_right (by omega),hl,Nat.sub_self,hd];rfl
 ·rw [List.set_append_right _ _ (by omega),hl,Nat.sub_self,hd,List.set_cons_zero,List.take_add_one,hz];simp
theorem zEC:∀ (s:St) (K S:List UInt32) (j:Nat) (k w:UInt32),K[j]?=some k→S[j]?=some w→zEb s (K.take (j+1)) (S.take (j+1))=rnd (zEb s (K.take j) (S.take j)) k w
 | s,k' :: K,w' :: S,0,k,w,h1,h2=>by
  simp at h1 h2;subst h1 h2;rfl
 | s,k' :: K,w' :: S,j+1,k,w,h1,h2=>by
  simp only [List.getElem?_cons_succ] at h1 h2;have:=zEC (rnd s k' w') K S j k w h1 h2;simp only [List.take_succ_cons,zEb];exact this
 | s,[],S,j,k,w,h1,h2=>by simp at h1
 | s,k' :: K,[],j,k,w,h1,h2=>by simp at h2
theorem zIo (x:UInt32):bits .xor .u32 (if IntKind.u32.signed=true then -1 else IntKind.u32.max) (x.toNat:Int)=((~~~x).toNat:Int):=by
 have h:(if IntKind.u32.signed=true then -1 else IntKind.u32.max)=(((4294967295:UInt32).toNat:Nat):Int):=(by decide);rw [h,jX]
 congr 2
theorem zHf (h e f g k w:UInt32):(((h.toNat:Int)+bits .xor .u32 (bits .xor .u32 ((yZ e 6).toNat:Int) ((yZ e 11).toNat:Int)) ((yZ e 25).toNat:Int)+bits .xor .u32 (bits .and .u32 (e.toNat:Int) (f.toNat:Int)) (bits .and .u32 (bits .xor .u32 (if IntKind.u32.signed=true then -1 else IntKind.u32.max) (e.toNat:Int)) (g.toNat:Int))+(k.toNat:Int)) % 4294967296+(w.toNat:Int)) % 4294967296=((h+zEd e+choose e f g+k+w).toNat:Int):=by
 rw [zIo,jX,jX,zAE,zAE,jX];have h1:=xW h (zEd e);have h2:=xW (h+zEd e) (choose e f g);have h3:=xW (h+zEd e+choose e f g) k;have h4:=xW (h+zEd e+choose e f g+k) w;rw [← h4,← h3,← h2,← h1];show (((h.toNat:Int)+((zEd e).toNat:Int)+((choose e f g).toNat:Int)+k.toNat) % 4294967296+w.toNat) % 4294967296=_;omega
theorem zFb:(if IntKind.u32.signed=true then -1 else IntKind.u32.max)=(4294967295:Int):=by decide
theorem zHQ (h e f g k w:UInt32):(((h.toNat:Int)+bits .xor .u32 (bits .xor .u32 ((yZ e 6).toNat:Int) ((yZ e 11).toNat:Int)) ((yZ e 25).toNat:Int)+bits .xor .u32 (bits .and .u32 (e.toNat:Int) (f.toNat:Int)) (bits .and .u32 (bits .xor .u32 4294967295 (e.toNat:Int)) (g.toNat:Int))+(k.toNat:Int)) % 4294967296+(w.toNat:Int)) % 4294967296=((h+zEd e+choose e f g+k+w).toNat:Int):=by
 have:=zHf h e f g k w
 rwa [zFb] at this
theorem zHg (a b c:UInt32):(bits .xor .u32 (bits .xor .u32 ((yZ a 2).toNat:Int) ((yZ a 13).toNat:Int)) ((yZ a 22).toNat:Int)+bits .xor .u32 (bits .xor .u32 (bits .and .u32 (a.toNat:Int) (b.toNat:Int)) (bits .and .u32 (a.toNat:Int) (c.toNat:Int))) (bits .and .u32 (b.toNat:Int) (c.toNat:Int))) % 4294967296=((zJP a+most a b c).toNat:Int):=by
 rw [jX,jX,zAE,zAE,zAE,jX,jX,xW]
 rfl
end Go.Proofs.YtfeglnpmpgipiaaGreatDoor
end
end
namespace Go.Proofs.YtfeglnpmpgipiaaGreatDoor
section
open Go.RowKit
set_option maxRecDepth 100000 in
set_option maxHeartbeats 20000000 in
theorem zGP (s:St) (p:Option Addr) (bs:List UInt8) (c:Nat) (ww:World) (hn:bs.length=64) (hx:Rd ww p (u8s bs)) :
  Calls Tryz.prog 119 #[.agg (qQ s.l).toArray,.slice p 64 c] ww fun e w'=>e=.returned (.agg (qQ (dig s bs).l).toArray)∧Only [] ww w':=by
 have hlS:=zCF bs hn;have hdef:dig s bs=(zEb s zDh (sched bs)).add s:=rfl;have hsc:=fun w h=>zHH p bs c w hn h;have hcn:=zFl;have hlK:zDh.length=64:=rfl;generalize zDh=K at hcn hdef hlK;generalize dig s bs=D at hdef ⊢;generalize sched bs=S at hlS hdef hsc;have hl8:s.l.length=8:=rfl
 go_enter Tryz.func119,Tryz.ntmps119
 go_wp2_with fail;obtain ⟨w0,hw0⟩:∃ w0,w0=(ww.alloc (Obj.cells (qQ s.l).toArray 160)).alloc (Obj.cells (List.replicate 8 (Value.int .u32 0)).toArray 160):=⟨_,rfl⟩;have ho0:Only [] ww w0:=(by rw [hw0];exact (Only.alloc _ _).zC (Only.alloc _ _));have r2:Row w0 ww.heap.size 160 (qQ s.l):=(by rw [hw0];exact (Row.new ww _ (qQ s.l)).zB (Only.alloc _ _));have r4:Row w0 (ww.heap.size+1) 160 (qQ (List.replicate 8 0)):=(by rw [hw0];exact Row.newAt _ _ _ (by simp));have hw0':=hw0.symm;refine Eq.mpr (congrArg (fun x=>Calls Tryz.prog 140 _ x _) hw0') ?_;clear hw0 hw0'
 (with_reducible refine (hsc w0 (hx.zB ho0)).mono ?_);rintro e w1 ⟨rfl,h1⟩;go_wp2_with fail;(with_reducible refine (hcn w1).mono ?_);rintro e w2 ⟨rfl,h2⟩;have ho2:Only [] ww w2:=(ho0.zC h1).zC h2;replace r2:=(r2.zB h1).zB h2;replace r4:=(r4.zB h1).zB h2;have hn2:=ho2.size;have hn4:=r4.lt;clear h1 h2 ho0 hsc hx w0 w1;obtain ⟨n,hnn⟩:∃ n,n=w2.heap.size:=⟨_,rfl⟩;obtain ⟨W1,hW1⟩:∃ W1,W1=(w2.alloc (Obj.cells (List.replicate 64 (Value.int .u32 0)).toArray 188)).alloc (Obj.cells (List.replicate 64 (Value.int .u32 0)).toArray 188):=⟨_,rfl⟩
 have hoWW:Only [] w2 W1:=(by rw [hW1];exact (Only.alloc _ _).zC (Only.alloc _ _));have hoW1:Only [] ww W1:=ho2.zC hoWW;have r5:Row W1 n 188 (List.replicate 64 (Value.int .u32 0)):=(by rw [hW1,hnn];exact (Row.new w2 _ (List.replicate 64 (Value.int .u32 0))).zB (Only.alloc _ _));have r6:Row W1 (n+1) 188 (List.replicate 64 (Value.int .u32 0)):=(by rw [hW1,hnn];exact Row.newAt _ _ _ (by simp));replace r2:=r2.zB hoWW;replace r4:=r4.zB hoWW;have hsz64:(Tryz.prog.info? 188).map (·.size)=some 64:=(by kernel_rfl);have hsz8:(Tryz.prog.info? 160).map (·.size)=some 8:=by kernel_rfl
 have st5:=r5.storeAt (P:=Tryz.prog) (ty:=188) (us:=qQ S) (by rw [qM,hlS];exact hsz64) (by rw [qM,hlS];simp) (fun u hu=>vO hu);replace r5:=r5.setRow (qQ S);have o5:Only [n] W1 (W1.setRow n (qQ S).toArray):=Only.setRow _ _ _;replace r6:=r6.only o5 (by simp);have st6:=r6.storeAt (P:=Tryz.prog) (ty:=188) (us:=qQ K) (by rw [qM,hlK];exact hsz64) (by rw [qM,hlK];simp) (fun u hu=>vO hu);have o6:Only [n+1] (W1.setRow n (qQ S).toArray) ((W1.setRow n (qQ S).toArray).setRow (n+1) (qQ K).toArray):=Only.setRow _ _ _
 replace r6:=r6.setRow (qQ K);replace r5:=r5.only o6 (by simp);replace r2:=(r2.only o5 (by simp;omega)).only o6 (by simp;omega);replace r4:=(r4.only o5 (by simp;omega)).only o6 (by simp;omega);have ho6:=(hoW1.zY o5 (by simp;omega)).zY o6 (by simp;omega);have ld2:=r2.loadAt (P:=Tryz.prog) Tryz.underlying160 (by rw [qM,hl8];exact hsz8);obtain ⟨W3,hW3⟩:∃ W3,W3=(W1.setRow n (qQ S).toArray).setRow (n+1) (qQ K).toArray:=⟨_,rfl⟩;obtain ⟨W4,hW4⟩:∃ W4,W4=W3.alloc (Obj.cells (List.replicate 8 (Value.int .u32 0)).toArray 160):=⟨_,rfl⟩
 rw [← hW3] at r2 r4 r5 r6 ld2 ho6 st6;have oW4:Only [] W3 W4:=(by rw [hW4];exact Only.alloc _ _);replace r2:=r2.zB oW4;replace r4:=r4.zB oW4;replace r5:=r5.zB oW4;replace r6:=r6.zB oW4;have hs3:W3.heap.size=n+1+1:=(by rw [hW3,hW1,hnn];simp);have r7:Row W4 (n+1+1) 160 (List.replicate 8 (Value.int .u32 0)):=(by rw [hW4];exact Row.newAt _ _ _ hs3);have st7:=r7.storeAt (P:=Tryz.prog) (ty:=160) (us:=qQ s.l) (by rw [qM,hl8];exact hsz8) (by rw [qM,hl8];simp) (fun u hu=>vO hu);have o7:Only [n+1+1] W4 (W4.setRow (n+1+1) (qQ s.l).toArray):=Only.setRow _ _ _
 replace r7:=r7.setRow (qQ s.l);replace r2:=r2.only o7 (by simp;omega);replace r4:=r4.only o7 (by simp;omega);replace r5:=r5.only o7 (by simp;omega);replace r6:=r6.only o7 (by simp);have ho7:=(ho6.zC oW4).zY o7 (by simp;omega);have Hst5:=Lib.hid st5;have Hst6:=Lib.hid st6;have Hld2:=Lib.hid ld2;have Hst7:=Lib.hid st7;have Hr2:=Lib.hid r2;have Hr4:=Lib.hid r4;have Hr5:=Lib.hid r5;have Hr6:=Lib.hid r6;have Hr7:=Lib.hid r7;have Ho7:=Lib.hid ho7;clear st5 st6 ld2 st7 r2 r4 r5 r6 r7 ho7 ho6 oW4 o7 o5 o6 hoWW hoW1 ho2 hs3;subst hW4;subst hW3
 subst hW1;subst hnn;have Hdef:=Lib.hid hdef;clear hdef
 go_wp2_with (first | ((with_reducible show wpList _ _ _ _ _ _);refine jO (ty:=188) (x:=.tmp 5) (y:=.tmp 14) rfl rfl rfl rfl Hst5.out ?_) | ((with_reducible show wpList _ _ _ _ _ _);refine jO (ty:=188) (x:=.tmp 6) (y:=.tmp 15) rfl rfl rfl rfl Hst6.out ?_) | ((with_reducible show wpList _ _ _ _ _ _);refine jG (ty:=160) (x:=.tmp 2) rfl rfl rfl Hld2.out ?_) | ((with_reducible show wpList _ _ _ _ _ _);refine jO (ty:=160) (x:=.tmp 7) (y:=.tmp 16) rfl rfl rfl rfl Hst7.out ?_))
 clear Hst5 Hst6 Hld2 Hst7;have hn0:ww.heap.size+1 < w2.heap.size:=hn4;generalize w2.heap.size=n at Hr2 Hr4 Hr5 Hr6 Hr7 Ho7 hn0 ⊢;obtain ⟨Z8,hZ8⟩:∃ Z8,Z8=List.replicate 8 (0:UInt32):=⟨_,rfl⟩;rw [← hZ8] at Hr4;have HZ8:=Lib.hid hZ8;clear hZ8;clear hn4 hn2
 go_loopw [17] (fun i wr=>∃ (j:Nat) (st:St),i=.int .i64 (j:Int)∧j≤64∧Hid (st=zEb s (K.take j) (S.take j))∧Hid (Row wr ww.heap.size 160 (qQ s.l))∧Hid (Row wr (ww.heap.size+1) 160 (qQ Z8))∧Hid (Row wr n 188 (qQ S))∧Hid (Row wr (n+1) 188 (qQ K))∧Hid (Row wr (n+1+1) 160 (qQ st.l))∧Hid (Only [] ww wr)) (fun i _=>64 - (intOf i).toNat)
 case atStart=>exact ⟨0,s,rfl,by omega,Lib.hid rfl,Hr2,Hr4,Hr5,Hr6,Hr7,Ho7⟩
 case round =>
  obtain ⟨j,st,rfl,hj,Hst,R2,R4,R5,R6,R7,Ho⟩:=hrel
  by_cases hlt:j < 64
  ·obtain ⟨a0,a1,a2,a3,a4,a5,a6,a7⟩:=st;have hc0:=R7.out.cell (jW (i:=0) rfl);have hc1:=R7.out.cell (jW (i:=1) rfl);have hc2:=R7.out.cell (jW (i:=2) rfl);have hc3:=R7.out.cell (jW (i:=3) rfl);have hc4:=R7.out.cell (jW (i:=4) rfl);have hc5:=R7.out.cell (jW (i:=5) rfl);have hc6:=R7.out.cell (jW (i:=6) rfl);have hc7:=R7.out.cell (jW (i:=7) rfl);dsimp only at hc0 hc1 hc2 hc3 hc4 hc5 hc6 hc7;obtain ⟨xk,hxk⟩:∃ x,K[j]?=some x:=⟨_,List.getElem?_eq_getElem (by omega)⟩;obtain ⟨xs,hxs⟩:∃ x,S[j]?=some x:=⟨_,List.getElem?_eq_getElem (by omega)⟩
   have hck:=R6.out.cell (jW hxk);have hcs:=R5.out.cell (jW hxs);have Hstep:=Lib.hid (zEC s K S j xk xs hxk hxs);clear hxk hxs;have hji:(j:Int) < 64:=(by omega);go_wp2_with fail
   go_quiet ((go_at_call 142;(first | exact zHP (yY a4 6 (by simp) 6 rfl _ rfl _) | exact zHP (yY a4 11 (by simp) 11 rfl _ rfl _) | exact zHP (yY a4 25 (by simp) 25 rfl _ rfl _))))
   obtain ⟨t1,ht1⟩:∃ x:UInt32,x=a7+zEd a4+choose a4 a5 a6+xk+xs:=⟨_,rfl⟩;rw [zFb];have hc:=zHQ a7 a4 a5 a6 xk xs;rw [← ht1] at hc;rw [hc];have Ht1:=Lib.hid ht1;clear ht1 hc hck hcs;have hoq:Only [] wr (wr.drewN nq):=Only.drewN _ _;generalize wr.drewN nq=wq at hoq ⊢;replace hc0:=hoq.cell hc0 (by simp);replace hc1:=hoq.cell hc1 (by simp);replace hc2:=hoq.cell hc2 (by simp);replace hc3:=hoq.cell hc3 (by simp);replace hc4:=hoq.cell hc4 (by simp);replace hc5:=hoq.cell hc5 (by simp);replace hc6:=hoq.cell hc6 (by simp);clear hc7;have Hoq:=Lib.hid hoq
   clear hoq;go_wp2_with fail
   go_quiet ((go_at_call 142;(first | exact zHP (yY a0 2 (by simp) 2 rfl _ rfl _) | exact zHP (yY a0 13 (by simp) 13 rfl _ rfl _) | exact zHP (yY a0 22 (by simp) 22 rfl _ rfl _))))
   obtain ⟨t2,ht2⟩:∃ x:UInt32,x=zJP a0+most a0 a1 a2:=⟨_,rfl⟩;have hc:=zHg a0 a1 a2;rw [← ht2] at hc;rw [hc];have Ht2:=Lib.hid ht2;clear ht2 hc;have hoq:Only [] wq (wq.drewN nq):=Only.drewN _ _;generalize wq.drewN nq=wp at hoq ⊢;replace hc0:=hoq.cell hc0 (by simp);replace hc1:=hoq.cell hc1 (by simp);replace hc2:=hoq.cell hc2 (by simp);replace hc3:=hoq.cell hc3 (by simp);replace hc4:=hoq.cell hc4 (by simp);replace hc5:=hoq.cell hc5 (by simp);replace hc6:=hoq.cell hc6 (by simp);have hos:=Hoq.out.zC hoq;replace R2:=Lib.hid (R2.out.zB hos)
   replace R4:=Lib.hid (R4.out.zB hos);replace R5:=Lib.hid (R5.out.zB hos);replace R6:=Lib.hid (R6.out.zB hos);have r7:=R7.out.zB hos;replace Ho:=Lib.hid (Ho.out.zC hos);clear R7 hos hoq Hoq;obtain ⟨u0,hu0⟩:∃ x:UInt32,x=t1+t2:=⟨_,rfl⟩;obtain ⟨u4,hu4⟩:∃ x:UInt32,x=a3+t1:=⟨_,rfl⟩;have hs0:((t1.toNat:Int)+(t2.toNat:Int)) % 4294967296=(u0.toNat:Int):=(by rw [hu0];exact xW _ _);have hs4:((a3.toNat:Int)+(t1.toNat:Int)) % 4294967296=(u4.toNat:Int):=by rw [hu4];exact xW _ _
   have hnew:(⟨u0,a0,a1,a2,u4,a4,a5,a6⟩:St)=zEb s (K.take (j+1)) (S.take (j+1)):=by
    rw [Hstep.out,← Hst.out,hu0,hu4,Ht1.out,Ht2.out];rfl
   have Hnew:=Lib.hid hnew;clear hnew hu0 hu4 Ht1 Ht2 Hstep Hst;have hst:=r7.storeAt (P:=Tryz.prog) (ty:=160) (us:=qQ [u0,a0,a1,a2,u4,a4,a5,a6]) hsz8 rfl (fun u hu=>vO hu);have o7:Only [n+1+1] wp (wp.setRow (n+1+1) (qQ [u0,a0,a1,a2,u4,a4,a5,a6]).toArray):=Only.setRow _ _ _;replace R2:=Lib.hid (R2.out.only o7 (by simp;omega));replace R4:=Lib.hid (R4.out.only o7 (by simp;omega));replace R5:=Lib.hid (R5.out.only o7 (by simp;omega));replace R6:=Lib.hid (R6.out.only o7 (by simp));have R7:=Lib.hid (r7.setRow (qQ [u0,a0,a1,a2,u4,a4,a5,a6]))
   replace Ho:=Lib.hid (Ho.out.zY o7 (by simp;omega));have Hstr:=Lib.hid hst;clear hst o7 r7
   go_wp2_with (first | ((with_reducible show wpList _ _ _ _ _ _);refine jO (ty:=160) (x:=.tmp 7) (y:=.tmp 100) rfl rfl rfl rfl Hstr.out ?_))
   refine ⟨⟨j+1,⟨u0,a0,a1,a2,u4,a4,a5,a6⟩,by go_num,by omega,Hnew,R2,R4,R5,R6,R7,Ho⟩,?_⟩
   simp [intOf];omega
  ·obtain rfl:j=64:=(by omega);have hT:st=zEb s K S:=(by rw [Hst.out,List.take_of_length_le (by omega),List.take_of_length_le (by omega)]);have hD:D.l=List.zipWith (·+·) st.l s.l:=(by rw [Hdef.out,← hT];rfl);have HD:=Lib.hid hD;clear hT hD Hst R5 R6;have hlT:st.l.length=8:=rfl;generalize hTT:st=T at *;clear hTT;go_wp2_with fail
   go_loopw [102] (fun i wr=>∃ (j:Nat),i=.int .i64 (j:Int)∧j≤8∧Hid (Row wr ww.heap.size 160 (qQ s.l))∧Hid (Row wr (ww.heap.size+1) 160 (qQ Z8))∧Hid (Row wr (n+1+1) 160 (qQ (zDW T.l s.l j)))∧Hid (Only [] ww wr)) (fun i _=>8 - (intOf i).toNat)
   case atStart=>exact ⟨0,rfl,by omega,R2,R4,R7,Ho⟩
   case round =>
    clear R2 R4 R7 Ho;obtain ⟨j,rfl,hj,R2,R4,R7,Ho⟩:=hrel
    by_cases hlt:j < 8
    ·obtain ⟨x,hx⟩:∃ x,T.l[j]?=some x:=⟨_,List.getElem?_eq_getElem (by omega)⟩;obtain ⟨y,hy⟩:∃ y,s.l[j]?=some y:=⟨_,List.getElem?_eq_getElem (by omega)⟩;obtain ⟨hax,hset⟩:=zGg hlT hl8 hx hy;have hcy:=R2.out.cell (jW hy);obtain ⟨xy,hxy⟩:∃ z:UInt32,z=x+y:=⟨_,rfl⟩;have hsum:IntKind.u32.wrap ((x.toNat:Int)+(y.toNat:Int))=(xy.toNat:Int):=(by rw [hxy];exact zAJ _ _);rw [← hxy] at hset;have Hset:=Lib.hid hset;clear hset hx hy hxy;have hji:(j:Int) < 8:=(by omega);go_wp2_with fail;have hRr:∀ a,Only [n+1+1] a a:=fun a=>Only.refl _ _
     have hRt:∀ a b e,Only [n+1+1] a b→Only [n+1+1] b e→Only [n+1+1] a e:=fun a b e h h2=>h.trans h2 (fun i hi _=>hi);have hRd:Only [n+1+1] wr wr.drew:=(Only.drew _).mono (by simp);have hC0:∀ i∈[8],(fun (_:Nat) (a:World)=>Row a (n+1+1) 160 (qQ (zDW T.l s.l j))) i wr.drew:=fun _ _=>R7.out.zB (Only.drew _);refine xG (Only [n+1+1]) (zDm [(8,[n+1+1])]) (fun (_:Nat) (a:World)=>Row a (n+1+1) 160 (qQ (zDW T.l s.l j))) [8] [[(12,none)],[(7,none),(105,some 0)],[(106,some 0)],[(12,none)],[(2,none),(108,some 0)],[(109,some 0)],[(107,some 3),(110,some 0)],[(7,none),(105,some 6)],[(112,some 0),(111,some 1)]] [] [none,none,none,none,none,none,none,none,none,none,none,none,none,none,none,none,none,none,none,none,none,none,none,none,none,none,none,none,none,none,none,none,none,none,none,none,none,none,none,none,none,none,none,none,none,none,none,none,none,none,none,none,none,none,none,none,none,none,none,none,none,none,none,none,none,none,none,none,none,none,none,none,none,none,none,none,none,none,none,none,none,none,none,none,none,none,none,none,none,none,none,none,none,none,none,none,none,none,none,none,none,none,none,none,none,some 105,some 106,some 107,some 108,some 109,some 110,some 111,some 112,none,none] (by kernel_rfl) rfl (by kernel_rfl) hRr hRt (fun _ _=>Only.refl _ _) hRd hC0 (by kernel_rfl) (by kernel_rfl) ?_
     apply zR
     ·rintro a w hR hC ⟨(e12:_=_),-⟩;refine zA rfl fun K hK=>?_;go_simp;exact hK _ _ rfl ⟨hRr _,Only.refl _ _,fun _ _ _ _ h=>h⟩
     apply zR
     ·rintro a w hR hC ⟨(e7:_=_),(e105:_=_),-⟩;refine zA rfl fun K hK=>?_;go_simp;exact hK _ _ rfl ⟨hRr _,Only.refl _ _,fun _ _ _ _ h=>h⟩
     apply zR
     ·rintro a w hR hC ⟨(e106:_=_),-⟩;refine zA rfl fun K hK=>?_;have hl:=(hC 8 (by simp) (by kernel_rfl)).cell (jW hax);go_simp;exact hK _ _ rfl ⟨hRr _,Only.refl _ _,fun _ _ _ _ h=>h⟩
     apply zR
     ·rintro a w hR hC ⟨(e12:_=_),-⟩;refine zA rfl fun K hK=>?_;go_simp;exact hK _ _ rfl ⟨hRr _,Only.refl _ _,fun _ _ _ _ h=>h⟩
     apply zR
     ·rintro a w hR hC ⟨(e2:_=_),(e108:_=_),-⟩;refine zA rfl fun K hK=>?_;go_simp;exact hK _ _ rfl ⟨hRr _,Only.refl _ _,fun _ _ _ _ h=>h⟩
     apply zR
     ·rintro a w hR hC ⟨(e109:_=_),-⟩;refine zA rfl fun K hK=>?_;have hl:=hR.cell hcy (by simp;omega);go_simp;exact hK _ _ rfl ⟨hRr _,Only.refl _ _,fun _ _ _ _ h=>h⟩
     apply zR
     ·rintro a w hR hC ⟨(e107:_=_),(e110:_=_),-⟩;refine zA rfl fun K hK=>?_;go_simp;exact hK _ _ rfl ⟨hRr _,Only.refl _ _,fun _ _ _ _ h=>h⟩
     apply zR
     ·rintro a w hR hC ⟨(e7:_=_),(e105:_=_),-⟩;refine zA rfl fun K hK=>?_;go_simp;exact hK _ _ rfl ⟨hRr _,Only.refl _ _,fun _ _ _ _ h=>h⟩
     refine ⟨fun _ a=>Row a (n+1+1) 160 (qQ (zDW T.l s.l (j+1))),jP (fun _ _ _ h ho=>h.zB ho) (by intro x hx hk;obtain rfl:=List.mem_singleton.1 hx;simp at hk),fun a w hR hC hf=>?_,?_⟩
     ·obtain ⟨e112,e111,-⟩:=hf;replace e112:a.tmps.getD 112 undef=_:=e112;replace e111:a.tmps.getD 111 undef=_:=e111;refine zA rfl fun K hK=>?_;have hC8:=hC 8 (by simp) (by kernel_rfl);have hcc:=hC8.cell (jW hax);have hff:=hC8.free j;go_simp;have hst:Only [n+1+1] w (w.setCell ⟨n+1+1,j,none⟩ (zEZ xy)):=Only.setCell w ⟨n+1+1,j,none⟩ _;refine hK undef _ ?_ ⟨hst,hst,fun i hi hne ha _=>absurd (List.mem_singleton.1 hi) hne⟩;rw [← Hset.out,← zDM];exact hC8.setCell j (zEZ xy)
     intro f14 w14 hR14 hf hz14;dsimp only [qE];obtain ⟨v8,r8⟩:=hz14 _ (List.mem_cons_self ..);go_wp2_with fail
     go_roundw
     case rel=>exact ⟨j+1,by go_num,by omega,Lib.hid (R2.out.only hR14 (by simp;omega)),Lib.hid (R4.out.only hR14 (by simp;omega)),Lib.hid r8,Lib.hid (Ho.out.zY hR14 (by simp;omega))⟩
     case measure=>simp [intOf];omega
    ·obtain rfl:j=8:=(by omega);have r7:=R7.out;have hfull:zDW T.l s.l 8=D.l:=(by rw [HD.out];unfold zDW;rw [List.take_of_length_le (by rw [List.length_zipWith];omega),List.drop_eq_nil_of_le (by omega),List.append_nil]);rw [hfull] at r7;have hld:=r7.loadAt (P:=Tryz.prog) Tryz.underlying160 hsz8;have hst:=R4.out.storeAt (P:=Tryz.prog) (ty:=160) (us:=qQ D.l) hsz8 (by rw [qM,qM,HZ8.out];rfl) (fun u hu=>vO hu);have hrow:=R4.out.setRow (qQ D.l);have hos:Only [ww.heap.size+1] wr (wr.setRow (ww.heap.size+1) (qQ D.l).toArray):=Only.setRow _ _ _
     have Hrow:=Lib.hid hrow;have Hld:=Lib.hid hld;have Hst:=Lib.hid hst;clear hld hst hrow r7 hfull
     go_wp2_with (first | ((with_reducible show wpList _ _ _ _ _ _);refine jG (ty:=160) (x:=.tmp 7) rfl rfl rfl Hld.out ?_) | ((with_reducible show wpList _ _ _ _ _ _);refine jO (ty:=160) (x:=.tmp 4) (y:=.tmp 114) rfl rfl rfl rfl Hst.out ?_))
     refine bodyPost_ret (results_cell_row (p:=4) rfl _ _ (ww.heap.size+1) 160 (qQ D.l).toArray (0,0) _ (by rfl) Hrow.out Tryz.underlying160 rfl (by rw [List.size_toArray,qM];exact hsz8)) (by rfl) ?_;exact ⟨rfl,Ho.out.zY hos (by simp)⟩
end
end Go.Proofs.YtfeglnpmpgipiaaGreatDoor
