/- StpPk, part 44: LedBegW, LawBegW. -/
import Derived.Test.YtfeglnpmpgipiaaGreatDoorLdgPk38
import Derived.Test.YtfeglnpmpgipiaaGreatDoorLdgPk42
import Derived.Test.YtfeglnpmpgipiaaGreatDoorStpPk43
set_option linter.unusedVariables false
set_option maxRecDepth 100000
set_option linter.unusedSimpArgs false
namespace Go.Proofs.YtfeglnpmpgipiaaGreatDoor
section
open Go.RowKit
set_option maxHeartbeats 16000000 in
theorem zGK (w0:World) (p q:Option Addr) (n k c d:Nat) (xs ys:List zT) (hl:xs.length=n) (hl2:ys.length=k) (hn:n≤4611686018427387904) (hp:Rd w0 p (xs.flatMap zJ)) (hq:Rd w0 q (ys.flatMap zJ)) (hmx:∀ m∈xs,jP w0 m∧m.x.parts.length≤4611686018427387904) (hmy:∀ m∈ys,jP w0 m) :
  Calls Tryz.prog 74 #[.slice p n c,.slice q k d,.func (.func 75) #[] #[]] w0 fun e w'=>e=.returned (.bool (decide (xs.map zT.x=ys.map zT.x)))∧Only [] w0 w':=by
 have Hp:=Lib.hid hp;have Hq:=Lib.hid hq;have HM:=Lib.hid (And.intro hmx hmy);obtain ⟨D,hD⟩:∃ D,decide (xs.map zT.x=ys.map zT.x)=D:=⟨_,rfl⟩;rw [hD];have HD:=Lib.hid hD
 by_cases hnk:n=k
 rotate_left
 ·have HF:Hid (D=false):=Lib.hid (by rw [← hD];exact decide_eq_false (fun e=>hnk (by have h9:=congrArg List.length e;rw [List.length_map,List.length_map] at h9;omega)));have h1:((n:Int) == (k:Int))=false:=beq_eq_false_iff_ne.2 (by omega);have h2:((n:Int) != (k:Int))=true:=bne_iff_ne.2 (by omega);have h3:¬ ((n:Int)=(k:Int)):=(by omega);clear hp hq hmx hmy hl hl2 hnk hD HD
  go_enter Tryz.func74,Tryz.ntmps74
  go_wp2_with fail
  go_ret
  exact ⟨by rw [HF.out];rfl,Only.refl _ _⟩
 subst hnk;have Hl:=Lib.hid (And.intro hl hl2);clear hp hq hmx hmy hl hl2 hD
 go_enter Tryz.func74,Tryz.ntmps74
 go_wp2_with fail
 go_loopw [17] (fun a wr=>∃ (j:Nat),a=.int .i64 (j:Int)∧j≤n∧Hid ((xs.map zT.x).take j=(ys.map zT.x).take j)∧Hid (Only [] w0 wr)) (fun a _=>n - (intOf a).toNat)
 case atStart=>exact ⟨0,rfl,Nat.zero_le _,Lib.hid rfl,Lib.hid (Only.refl _ _)⟩
 case round =>
  obtain ⟨j,rfl,hj,HT,HO⟩:=hrel
  by_cases hlt:j < n
  ·have hji:(j:Int) < (n:Int):=(by omega);obtain ⟨x,hx⟩:∃ x,xs[j]?=some x:=⟨_,List.getElem?_eq_getElem (by rw [Hl.out.1];exact hlt)⟩;obtain ⟨y,hy⟩:∃ y,ys[j]?=some y:=⟨_,List.getElem?_eq_getElem (by rw [Hl.out.2];exact hlt)⟩;have hxm:=List.mem_of_getElem? hx;have hym:=List.mem_of_getElem? hy;have hrx:=Hp.out.zB HO.out;have hry:=Hq.out.zB HO.out;have hnx:xs.flatMap zJ≠[]:=fun e'=>(by have:=flat_get zJ 18 jG xs _ x 0 hx (by omega);rw [e'] at this;cases this);have hny:ys.flatMap zJ≠[]:=fun e'=>by have:=flat_get zJ 18 jG ys _ y 0 hy (by omega);rw [e'] at this;cases this
   obtain ⟨bp,op,rfl,-⟩:=hrx.lt hnx;obtain ⟨bq,oq,rfl,-⟩:=hry.lt hny;have hldx:=vN hrx hx;have hldy:=vN hry hy;obtain ⟨nx,hnx'⟩:∃ k,x.x.parts.length=k:=⟨_,rfl⟩;obtain ⟨ny,hny'⟩:∃ k,y.x.parts.length=k:=⟨_,rfl⟩;have hcx:jP wr x∧jP wr y∧x.x.parts.length≤4611686018427387904:=⟨(HM.out.1 x hxm).1.zB HO.out,(HM.out.2 y hym).zB HO.out,(HM.out.1 x hxm).2⟩;have HXY:=Lib.hid (And.intro hx hy);have Hc:=Lib.hid hcx;have HN:=Lib.hid (And.intro hnx' hny');obtain ⟨E,hE⟩:∃ E,decide (x.x=y.x)=E:=⟨_,rfl⟩;have HE:=Lib.hid hE
   clear hxm hym hrx hry hnx hny hx hy hcx hnx' hny' hE
   have HT2:E=true→Hid ((xs.map zT.x).take (j+1)=(ys.map zT.x).take (j+1)):=fun hEt=>Lib.hid (by
    rw [hEt] at HE;have h9:=of_decide_eq_true HE.out;rw [List.take_add_one,List.take_add_one,HT.out,List.getElem?_map,List.getElem?_map,HXY.out.1,HXY.out.2]
    simp [h9])
   have HF:E=false→Hid (D=false):=fun hEf=>Lib.hid (by
    rw [hEf] at HE;have h9:=of_decide_eq_false HE.out;rw [← HD.out];refine decide_eq_false (fun e=>h9 ?_);have h1:(xs.map zT.x)[j]?=some x.x:=(by rw [List.getElem?_map,HXY.out.1];rfl);have h2:(ys.map zT.x)[j]?=some y.x:=(by rw [List.getElem?_map,HXY.out.2];rfl);rw [e,h2] at h1
    exact (Option.some.inj h1).symm)
   obtain ⟨VX,hVX⟩:∃ v,lmV x=v:=⟨_,rfl⟩;obtain ⟨VY,hVY⟩:∃ v,lmV y=v:=⟨_,rfl⟩;rw [hVX] at hldx;have HVX:=Lib.hid hVX;have HVY:=Lib.hid hVY;have Hldx:=Lib.hid hldx;clear hldx hldy hVX hVY;obtain ⟨wa,hwa⟩:∃ wa,wa=wr.alloc (.cells #[.int .i64 0,.int .i64 0,.int .i64 0,.int .i64 0,.string ⟨#[]⟩,.string ⟨#[]⟩,.int .i64 0,.int .i64 0,.int .i64 0,.int .i64 0,.int .i64 0,.int .i64 0,.int .i64 0,.string ⟨#[]⟩,.int .i64 0,.slice none 0 0,.int .i64 0,.int .i64 0] 36):=⟨_,rfl⟩;have owa:Only [] wr wa:=(by rw [hwa];exact Only.alloc _ _);have rwa:Row wa wr.heap.size 36 [.int .i64 0,.int .i64 0,.int .i64 0,.int .i64 0,.string ⟨#[]⟩,.string ⟨#[]⟩,.int .i64 0,.int .i64 0,.int .i64 0,.int .i64 0,.int .i64 0,.int .i64 0,.int .i64 0,.string ⟨#[]⟩,.int .i64 0,.slice none 0 0,.int .i64 0,.int .i64 0]:=by rw [hwa];exact Row.zV _ _ _ _ rfl
   have st1:(Instr.storeAt 36 (.pointer (some ⟨wr.heap.size,0,none⟩)) VX).run Tryz.prog wa=.ok () (wa.setRow wr.heap.size (zJ x).toArray):=by
    rw [← HVX.out];exact rwa.storeAt (P:=Tryz.prog) (us:=zJ x) vO rfl (vC x)
   have rw1':=rwa.setRow (zJ x);have ow1':=Only.setRow wa wr.heap.size (zJ x).toArray;obtain ⟨w1,hw1⟩:∃ w1,w1=wa.setRow wr.heap.size (zJ x).toArray:=⟨_,rfl⟩;rw [← hw1] at st1 rw1' ow1';rw [hwa] at st1;have ow1:Only [] wr w1:=owa.zX ow1' (by simp);have Rw1:=Lib.hid rw1';have Ow1:=Lib.hid ow1;have Hst1:=Lib.hid st1;clear hwa owa rwa st1 rw1' ow1' hw1 ow1
   go_upto_region 6 with (first | ((with_reducible show wpList _ _ _ _ _ _);refine jL (ty:=36) (x:=.tmp 20) rfl rfl rfl Hldx.out ?_) | ((with_reducible show wpList _ _ _ _ _ _);refine jR (ty:=36) (x:=.tmp 8) (y:=.tmp 21) rfl rfl rfl rfl Hst1.out ?_))
   have hld1:=vN (Hq.out.zB (HO.out.zC Ow1.out)) HXY.out.2;rw [HVY.out] at hld1;have Hld1:=Lib.hid hld1;obtain ⟨B1,hB1⟩:∃ B,wr.heap.size=B:=⟨_,rfl⟩;rw [hB1] at Rw1 ⊢;clear hld1 Hldx Hst1 hB1;obtain ⟨wb,hwb⟩:∃ wb,wb=w1.alloc (.cells #[.int .i64 0,.int .i64 0,.int .i64 0,.int .i64 0,.string ⟨#[]⟩,.string ⟨#[]⟩,.int .i64 0,.int .i64 0,.int .i64 0,.int .i64 0,.int .i64 0,.int .i64 0,.int .i64 0,.string ⟨#[]⟩,.int .i64 0,.slice none 0 0,.int .i64 0,.int .i64 0] 36):=⟨_,rfl⟩;have owb:Only [] w1 wb:=(by rw [hwb];exact Only.alloc _ _);have rwb:Row wb w1.heap.size 36 [.int .i64 0,.int .i64 0,.int .i64 0,.int .i64 0,.string ⟨#[]⟩,.string ⟨#[]⟩,.int .i64 0,.int .i64 0,.int .i64 0,.int .i64 0,.int .i64 0,.int .i64 0,.int .i64 0,.string ⟨#[]⟩,.int .i64 0,.slice none 0 0,.int .i64 0,.int .i64 0]:=by rw [hwb];exact Row.zV _ _ _ _ rfl
   have st2:(Instr.storeAt 36 (.pointer (some ⟨w1.heap.size,0,none⟩)) VY).run Tryz.prog wb=.ok () (wb.setRow w1.heap.size (zJ y).toArray):=by
    rw [← HVY.out];exact rwb.storeAt (P:=Tryz.prog) (us:=zJ y) vO rfl (vC y)
   have rw2':=rwb.setRow (zJ y);have ow2':=Only.setRow wb w1.heap.size (zJ y).toArray;obtain ⟨w2,hw2⟩:∃ w2,w2=wb.setRow w1.heap.size (zJ y).toArray:=⟨_,rfl⟩;rw [← hw2] at st2 rw2' ow2';rw [hwb] at st2;have ow2:Only [] w1 w2:=owb.zX ow2' (by simp);have Rw2:=Lib.hid rw2';have Ow2:=Lib.hid ow2;have Hst2:=Lib.hid st2;clear hwb owb rwb st2 rw2' ow2' hw2 ow2
   go_upto_region 7 with (first | ((with_reducible show wpList _ _ _ _ _ _);refine jL (ty:=36) (x:=.tmp 24) rfl rfl rfl Hld1.out ?_) | ((with_reducible show wpList _ _ _ _ _ _);refine jR (ty:=36) (x:=.tmp 9) (y:=.tmp 25) rfl rfl rfl rfl Hst2.out ?_))
   have h1:=(Rw1.out.zB Ow2.out).yV (P:=Tryz.prog) Tryz.underlying36 vO;have h2:=Rw2.out.yV (P:=Tryz.prog) Tryz.underlying36 vO;rw [show Value.agg (zJ x).toArray=VX from HVX.out] at h1;rw [show Value.agg (zJ y).toArray=VY from HVY.out] at h2;have H1:=Lib.hid h1;have H2:=Lib.hid h2;have hsm:=zEx x y w2 (Hc.out.1.zB (Ow1.out.zC Ow2.out)) (Hc.out.2.1.zB (Ow1.out.zC Ow2.out)) Hc.out.2.2;rw [HE.out,HVX.out,HVY.out] at hsm;have Hsm:=Lib.hid hsm;have HO2:=Lib.hid (HO.out.zC (Ow1.out.zC Ow2.out));obtain ⟨B2,hB2⟩:∃ B,w1.heap.size=B:=⟨_,rfl⟩
   rw [hB2] at H2 ⊢;clear h1 h2 hsm hB2 Hld1 Hst2
   go_wp2_with (first | ((with_reducible show wpList _ _ _ _ _ _);refine jL (ty:=36) (x:=.tmp 8) rfl rfl rfl H1.out ?_) | ((with_reducible show wpList _ _ _ _ _ _);refine jL (ty:=36) (x:=.tmp 9) rfl rfl rfl H2.out ?_))
   refine Hsm.out.mono ?_;rintro e w3 ⟨rfl,o3⟩;have HO3:=Lib.hid (HO2.out.zC o3);clear Hsm H1 H2 o3
   cases E with
   | false =>
    have HF2:=HF rfl;clear HT2 HF;go_wp2_with fail
    go_ret
    exact ⟨by rw [HF2.out];rfl,HO3.out⟩
   | true =>
    have HT3:=HT2 rfl;clear HT2 HF;go_wp2_with fail;refine ⟨⟨j+1,by go_num,by omega,HT3,HO3⟩,?_⟩;show n - ((j:Int)+1).toNat < n - ((j:Int)).toNat;omega
  ·obtain rfl:n=j:=by omega
   have HF:Hid (D=true):=Lib.hid (by
    rw [← HD.out];refine decide_eq_true ?_;have h9:=HT.out
    rwa [List.take_of_length_le (by rw [List.length_map,Hl.out.1];exact Nat.le_refl _),List.take_of_length_le (by rw [List.length_map,Hl.out.2];exact Nat.le_refl _)] at h9)
   have hji:¬ (n:Int) < (n:Int):=(by omega);go_wp2_with fail
   go_ret
   exact ⟨by rw [HF.out];rfl,HO.out⟩
def zAU (xs ys:List Cmd):Bool:=decide (xs.length≤ys.length) && decide (xs=ys.take xs.length)
set_option maxHeartbeats 8000000 in
theorem vK (w0:World) (p q:Option Addr) (n k c d:Nat) (xs ys:List zT) (hl:xs.length=n) (hl2:ys.length=k) (hn:n≤4611686018427387904) (hkd:k≤d) (hd:d≤9223372036854775807) (hp:Rd w0 p (xs.flatMap zJ)) (hq:Rd w0 q (ys.flatMap zJ)) (hmx:∀ m∈xs,jP w0 m∧m.x.parts.length≤4611686018427387904) (hmy:∀ m∈ys,jP w0 m) :
  Calls Tryz.prog 35 #[.slice p n c,.slice q k d] w0 fun e w'=>e=.returned (.bool (zAU (xs.map zT.x) (ys.map zT.x)))∧Only [] w0 w':=by
 by_cases hnk:n≤k
 rotate_left
 ·have HF:Hid (zAU (xs.map zT.x) (ys.map zT.x)=false):=Lib.hid (by unfold zAU;rw [List.length_map,List.length_map,hl,hl2,decide_eq_false hnk];rfl);have h1:¬ ((n:Int)≤(k:Int)):=(by omega);clear hp hq hmx hmy hl hl2 hnk
  go_enter Tryz.func35,Tryz.ntmps35
  go_wp2_with fail
  go_ret
  exact ⟨by rw [HF.out];rfl,Only.refl _ _⟩
 have HF:Hid (zAU (xs.map zT.x) (ys.map zT.x)=decide (xs.map zT.x=(ys.take n).map zT.x)):=Lib.hid (by unfold zAU;rw [List.length_map,List.length_map,hl,hl2,decide_eq_true hnk,List.map_take];rfl);have hsub:=zGK w0 p q n n c d xs (ys.take n) hl (by rw [List.length_take,hl2];omega) hn hp (zAk hq n) hmx (fun m hm=>hmy m (List.mem_of_mem_take hm));have Hsub:=Lib.hid hsub;have h1:(n:Int)≤(k:Int):=(by omega);have h2:n≤d:=(by omega);clear hp hq hmx hmy hl hl2 hsub
 go_enter Tryz.func35,Tryz.ntmps35
 go_wp2_with fail;refine Hsub.out.mono ?_;rintro e w' ⟨rfl,o'⟩;have HO:=Lib.hid o';clear o' Hsub;rw [← HF.out];go_wp2_with fail
 go_ret
 exact ⟨rfl,HO.out⟩
end
section
open Go.RowKit
theorem zHJ (xs:List Cmd):zAU xs xs=true:=by unfold zAU;simp
theorem zII (xs:List Cmd):zAU [] xs=true:=by unfold zAU;simp
theorem zGk (xs:List Cmd) (k:Nat):zAU (xs.take k) xs=true:=by
 unfold zAU;rw [List.length_take]
 simp [Nat.min_le_right]
theorem zGi (xs:List Cmd) {k:Nat} (hk:k≤xs.length):zAU xs (xs.take k)=decide (k=xs.length):=by
 unfold zAU;rw [List.length_take,Nat.min_eq_left hk]
 by_cases h:k=xs.length
 ·subst h
  simp
 ·rw [decide_eq_false (show ¬ xs.length≤k by omega),decide_eq_false h];rfl
end
end Go.Proofs.YtfeglnpmpgipiaaGreatDoor
