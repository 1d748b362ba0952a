/- LdgPk, part 44: LedBegW, LawBegW. -/
import Derived.Test.YtfeglnpmpgipiaaGreatDoorLdgPk38
import Derived.Test.YtfeglnpmpgipiaaGreatDoorLdgPk42
import Derived.Test.YtfeglnpmpgipiaaGreatDoorLdgPk43
set_option linter.unusedVariables false
set_option maxRecDepth 100000
set_option linter.unusedSimpArgs false
namespace Go.Proofs.YtfeglnpmpgipiaaGreatDoor
section
open Go.RowKit
set_option maxHeartbeats 16000000 in
theorem zGK (w0:World) (p q:Option Addr) (n k c d:Nat) (xs ys:List zT) (hl:xs.length=n) (hl2:ys.length=k) (hn:n≤4611686018427387904) (hp:Rd w0 p (xs.flatMap zJ)) (hq:Rd w0 q (ys.flatMap zJ)) (hmx:∀ m∈xs,jP w0 m∧m.x.parts.length≤4611686018427387904) (hmy:∀ m∈ys,jP w0 m) :
  Calls Tryz.prog 74 #[.slice p n c,.slice q k d,.func (.func 75) #[] #[]] w0 fun e w'=>e=.returned (.bool (decide (xs.map zT.x=ys.map zT.x)))∧Only [] w0 w':=by
 have Hp:=Lib.hid hp;have Hq:=Lib.hid hq;have HM:=Lib.hid (And.intro hmx hmy);obtain ⟨D,hD⟩:∃ D,decide (xs.map zT.x=ys.map zT.x)=D:=⟨_,rfl⟩;rw [hD];have HD:=Lib.hid hD
 by_cases hnk:n=k
 rotate_left
 ·have HF:Hid (D=false):=Lib.hid (by rw [← hD];exact decide_eq_false (fun e=>hnk (by have h9:=congrArg List.length e;rw [List.length_map,List.length_map] at h9;omega)));have h1:((n:Int) == (k:Int))=false:=beq_eq_false_iff_ne.2 (by omega);have h2:((n:Int) != (k:Int))=true:=bne_iff_ne.2 (by omega);have h3:¬ ((n:Int)=(k:Int)):=(by omega);clear hp hq hmx hmy hl hl2 hnk hD HD
  go_enter Tryz.func74,Tryz.ntmps74
  go_wp2_with fail
  go_ret
  exact ⟨by rw [HF.out];rfl,Only.refl _ _⟩
 subst hnk;have Hl:=Lib.hid (And.intro hl hl2);clear hp hq hmx hmy hl hl2 hD
 go_enter Tryz.func74,Tryz.ntmps74
 go_wp2_with fail
 go_loopw [17] (fun a wr=>∃ (j:Nat),a=.int .i64 (j:Int)∧j≤n∧Hid ((xs.map zT.x).take j=(ys.map zT.x).take j)∧Hid (Only [] w0 wr)) (fun a _=>n - (intOf a).toNat)
 case atStart=>exact ⟨0,rfl,Nat.zero_le _,Lib.hid rfl,Lib.hid (Only.refl _ _)⟩
 case round =>
  obtain ⟨j,rfl,hj,HT,HO⟩:=hrel
  by_cases hlt:j < n
  ·have hji:(j:Int) < (n:Int):=(by omega);obtain ⟨x,hx⟩:∃ x,xs[j]?=some x:=⟨_,List.getElem?_eq_getElem (by rw [Hl.out.1];exact hlt)⟩;obtain ⟨y,hy⟩:∃ y,ys[j]?=some y:=⟨_,List.getElem?_eq_getElem (by rw [Hl.out.2];exact hlt)⟩;have hxm:=List.mem_of_getElem? hx;have hym:=List.mem_of_getElem? hy;have hrx:=Hp.out.zB HO.out;have hry:=Hq.out.zB HO.out;have hnx:xs.flatMap zJ≠[]:=fun e'=>(by have:=flat_get zJ 18 jG xs _ x 0 hx (by omega);rw [e'] at this;cases this);have hny:ys.flatMap zJ≠[]:=fun e'=>by have:=flat_get zJ 18 jG ys _ y 0 hy (by omega);rw [e'] at this;cases this
   obtain ⟨bp,op,rfl,-⟩:=hrx.lt hnx;obtain ⟨bq,oq,rfl,-⟩:=hry.lt hny;have hldx:=vN hrx hx;have hldy:=vN hry hy;obtain ⟨nx,hnx'⟩:∃ k,x.x.parts.length=k:=⟨_,rfl⟩;obtain ⟨ny,hny'⟩:∃ k,y.x.parts.length=k:=⟨_,rfl⟩;have hcx:jP wr x∧jP wr y∧x.x.parts.length≤4611686018427387904:=⟨(HM.out.1 x hxm).1.zB HO.out,(HM.out.2 y hym).zB HO.out,(HM.out.1 x hxm).2⟩;have HXY:=Lib.hid (And.intro hx hy);have Hc:=Lib.hid hcx;have HN:=Lib.hid (And.intro hnx' hny');obtain ⟨E,hE⟩:∃ E,decide (x.x=y.x)=E:=⟨_,rfl⟩;have HE:=Lib.hid hE
   clear hxm hym hrx hry hnx hny hx hy hcx hnx' hny' hE
   have HT2:E=true→Hid ((xs.map zT.x).take (j+1)=(ys.map zT.x).take (j+1)):=fun hEt=>Lib.hid (by
    rw [hEt] at HE;have h9:=of_decide_eq_true HE.out;rw [List.take_add_one,List.take_add_one,HT.out,List.getElem?_map,List.getElem?_map,HXY.out.1,HXY.out.2]
    simp [h9])
   have HF:E=false→Hid (D=false):=fun hEf=>Lib.hid (by
    rw [hEf] at HE;have h9:=of_decide_eq_false HE.out;rw [← HD.out];refine decide_eq_false (fun e=>h9 ?_);have h1:(xs.map zT.x)[j]?=some x.x:=(by rw [List.getElem?_map,HXY.out.1];rfl);have h2:(ys.map zT.x)[j]?=some y.x:=(by rw [List.getElem?_map,HXY.out.2];rfl);rw [e,h2] at h1
    exact (Option.some.inj h1).symm)
   obtain ⟨VX,hVX⟩:∃ v,lmV x=v:=⟨_,rfl⟩;obtain ⟨VY,hVY⟩:∃ v,lmV y=v:=⟨_,rfl⟩;rw [hVX] at hldx;have HVX:=Lib.hid hVX;have HVY:=Lib.hid hVY;have Hldx:=Lib.hid hldx;clear hldx hldy hVX hVY;obtain ⟨wa,hwa⟩:∃ wa,wa=wr.alloc (.cells #[.int .i64 0,.int .i64 0,.int .i64 0,.int .i64 0,.string ⟨#[]⟩,.string ⟨#[]⟩,.int .i64 0,.int .i64 0,.int .i64 0,.int .i64 0,.int .i64 0,.int .i64 0,.int .i64 0,.string ⟨#[]⟩,.int .i64 0,.slice none 0 0,.int .i64 0,.int .i64 0] 36):=⟨_,rfl⟩;have owa:Only [] wr wa:=(by rw [hwa];exact Only.alloc _ _);have rwa:Row wa wr.heap.size 36 [.int .i64 0,.int .i64 0,.int .i64 0,.int .i64 0,.string ⟨#[]⟩,.string ⟨#[]⟩,.int .i64 0,.int .i64 0,.int .i64 0,.int .i64 0,.int .i64 0,.int .i64 0,.int .i64 0,.string ⟨#[]⟩,.int .i64 0,.slice none 0 0,.int .i64 0,.int .i64 0]:=by rw [hwa];exact Row.zV _ _ _ _ rfl
   have st1:(Instr.storeAt 36 (.pointer (some ⟨wr.heap.size,0,none⟩)) VX).run Tryz.prog wa=.ok () (wa.setRow wr.heap.size (zJ x).toArray):=by
    rw [← HVX.out];exact rwa.storeAt (P:=Tryz.prog) (us:=zJ x) vO rfl (vC x)
   have rw1':=rwa.setRow (zJ x);have ow1':=Only.setRow wa wr.heap.size (zJ x).toArray;obtain ⟨w1,hw1⟩:∃ w1,w1=wa.setRow wr.heap.size (zJ x).toArray:=⟨_,rfl⟩;rw [← hw1] at st1 rw1' ow1';rw [hwa] at st1;have ow1:Only [] wr w1:=owa.zX ow1' (by simp);have Rw1:=Lib.hid rw1';have Ow1:=Lib.hid ow1;have Hst1:=Lib.hid st1;clear hwa owa rwa st1 rw1' ow1' hw1 ow1
   go_upto_region 6 with (first | ((with_reducible show wpList _ _ _ _ _ _);refine jL (ty:=36) (x:=.tmp 20) rfl rfl rfl Hldx.out ?_) | ((with_reducible show wpList _ _ _ _ _ _);refine jR (ty:=36) (x:=.tmp 8) (y:=.tmp 21) rfl rfl rfl rfl Hst1.out ?_))
   have hld1:=vN (Hq.out.zB (HO.out.zC Ow1.out)) HXY.out.2;rw [HVY.out] at hld1;have Hld1:=Lib.hid hld1;obtain ⟨B1,hB1⟩:∃ B,wr.heap.size=B:=⟨_,rfl⟩;rw [hB1] at Rw1 ⊢;clear hld1 Hldx Hst1 hB1;obtain ⟨wb,hwb⟩:∃ wb,wb=w1.alloc (.cells #[.int .i64 0,.int .i64 0,.int .i64 0,.int .i64 0,.string ⟨#[]⟩,.string ⟨#[]⟩,.int .i64 0,.int .i64 0,.int .i64 0,.int .i64 0,.int .i64 0,.int .i64 0,.int .i64 0,.string ⟨#[]⟩,.int .i64 0,.slice none 0 0,.int .i64 0,.int .i64 0] 36):=⟨_,rfl⟩;have owb:Only [] w1 wb:=(by rw [hwb];exact Only.alloc _ _);have rwb:Row wb w1.heap.size 36 [.int .i64 0,.int .i64 0,.int .i64 0,.int .i64 0,.string ⟨#[]⟩,.string ⟨#[]⟩,.int .i64 0,.int .i64 0,.int .i64 0,.int .i64 0,.int .i64 0,.int .i64 0,.int .i64 0,.string ⟨#[]⟩,.int .i64 0,.slice none 0 0,.int .i64 0,.int .i64 0]:=by rw [hwb];exact Row.zV _ _ _ _ rfl
   have st2:(Instr.storeAt 36 (.pointer (some ⟨w1.heap.size,0,none⟩)) VY).run Tryz.prog wb=.ok () (wb.setRow w1.heap.size (zJ y).toArray):=by
    rw [← HVY.out];exact rwb.storeAt (P:=Tryz.prog) (us:=zJ y) vO rfl (vC y)
   have rw2':=rwb.setRow (zJ y);have ow2':=Only.setRow wb w1.heap.size (zJ y).toArray;obtain ⟨w2,hw2⟩:∃ w2,w2=wb.setRow w1.heap.size (zJ y).toArray:=⟨_,rfl⟩;rw [← hw2] at st2 rw2' ow2';rw [hwb] at st2;have ow2:Only [] w1 w2:=owb.zX ow2' (by simp);have Rw2:=Lib.hid rw2';have Ow2:=Lib.hid ow2;have Hst2:=Lib.hid st2;clear hwb owb rwb st2 rw2' ow2' hw2 ow2
   go_upto_region 7 with (first | ((with_reducible show wpList _ _ _ _ _ _);refine jL (ty:=36) (x:=.tmp 24) rfl rfl rfl Hld1.out ?_) | ((with_reducible show wpList _ _ _ _ _ _);refine jR (ty:=36) (x:=.tmp 9) (y:=.tmp 25) rfl rfl rfl rfl Hst2.out ?_))
   have h1:=(Rw1.out.zB Ow2.out).yV (P:=Tryz.prog) Tryz.underlying36 vO;have h2:=Rw2.out.yV (P:=Tryz.prog) Tryz.underlying36 vO;rw [show Value.agg (zJ x).toArray=VX from HVX.out] at h1;rw [show Value.agg (zJ y).toArray=VY from HVY.out] at h2;have H1:=Lib.hid h1;have H2:=Lib.hid h2;have hsm:=zEx x y w2 (Hc.out.1.zB (Ow1.out.zC Ow2.out)) (Hc.out.2.1.zB (Ow1.out.zC Ow2.out)) Hc.out.2.2;rw [HE.out,HVX.out,HVY.out] at hsm;have Hsm:=Lib.hid hsm;have HO2:=Lib.hid (HO.out.zC (Ow1.out.zC Ow2.out));obtain ⟨B2,hB2⟩:∃ B,w1.heap.size=B:=⟨_,rfl⟩
   rw [hB2] at H2 ⊢;clear h1 h2 hsm hB2 Hld1 Hst2
   go_wp2_with (first | ((with_reducible show wpList _ _ _ _ _ _);refine jL (ty:=36) (x:=.tmp 8) rfl rfl rfl H1.out ?_) | ((with_reducible show wpList _ _ _ _ _ _);refine jL (ty:=36) (x:=.tmp 9) rfl rfl rfl H2.out ?_))
   refine Hsm.out.mono ?_;rintro e w3 ⟨rfl,o3⟩;have HO3:=Lib.hid (HO2.out.zC o3);clear Hsm H1 H2 o3
   cases E with
   | false =>
    have HF2:=HF rfl;clear HT2 HF;go_wp2_with fail
    go_ret
    exact ⟨by rw [HF2.out];rfl,HO3.out⟩
   | true =>
    have HT3:=HT2 rfl;clear HT2 HF;go_wp2_with fail;refine ⟨⟨j+1,by go_num,by omega,HT3,HO3⟩,?_⟩;show n - ((j:Int)+1).toNat < n - ((j:Int)).toNat;omega
  ·obtain rfl:n=j:=by omega
   have HF:Hid (D=true):=Lib.hid (by
    rw [← HD.out];refine decide_eq_true ?_;have h9:=HT.out
    rwa [List.take_of_length_le (by rw [List.length_map,Hl.out.1];exact Nat.le_refl _),List.take_of_length_le (by rw [List.length_map,Hl.out.2];exact Nat.le_refl _)] at h9)
   have hji:¬ (n:Int) < (n:Int):=(by omega);go_wp2_with fail
   go_ret
   exact ⟨by rw [HF.out];rfl,HO.out⟩
set_option maxHeartbeats 16000000 in
theorem zDn (w0:World) (p q:Option Addr) (n k c d:Nat) (xs ys:List zT) (hl:xs.length=n) (hl2:ys.length=k) (hn:n≤4611686018427387904) (hp:Rd w0 p (xs.flatMap zJ)) (hq:Rd w0 q (ys.flatMap zJ)) (hmx:∀ m∈xs,jP w0 m∧m.x.parts.length≤4611686018427387904) (hmy:∀ m∈ys,jP w0 m) :
  Calls Tryz.prog 76 #[.slice p n c,.slice q k d] w0 fun e w'=>e=.returned (.bool (decide (xs.map zT.x=ys.map zT.x)))∧Only [] w0 w':=by
 have Hp:=Lib.hid hp;have Hq:=Lib.hid hq;have HM:=Lib.hid (And.intro hmx hmy);obtain ⟨D,hD⟩:∃ D,decide (xs.map zT.x=ys.map zT.x)=D:=⟨_,rfl⟩;rw [hD];have HD:=Lib.hid hD
 by_cases hnk:n=k
 rotate_left
 ·have HF:Hid (D=false):=Lib.hid (by rw [← hD];exact decide_eq_false (fun e=>hnk (by have h9:=congrArg List.length e;rw [List.length_map,List.length_map] at h9;omega)));have h1:((n:Int) == (k:Int))=false:=beq_eq_false_iff_ne.2 (by omega);have h2:((n:Int) != (k:Int))=true:=bne_iff_ne.2 (by omega);have h3:¬ ((n:Int)=(k:Int)):=(by omega);clear hp hq hmx hmy hl hl2 hnk hD HD
  go_enter Tryz.func76,Tryz.ntmps76
  go_wp2_with fail
  go_ret
  exact ⟨by rw [HF.out];rfl,Only.refl _ _⟩
 subst hnk;have Hl:=Lib.hid (And.intro hl hl2);clear hp hq hmx hmy hl hl2 hD
 go_enter Tryz.func76,Tryz.ntmps76
 go_wp2_with fail
 go_loopw [13] (fun a wr=>∃ (j:Nat),a=.int .i64 (j:Int)∧j≤n∧Hid ((xs.map zT.x).take j=(ys.map zT.x).take j)∧Hid (Only [] w0 wr)) (fun a _=>n - (intOf a).toNat)
 case atStart=>exact ⟨0,rfl,Nat.zero_le _,Lib.hid rfl,Lib.hid (Only.refl _ _)⟩
 case round =>
  obtain ⟨j,rfl,hj,HT,HO⟩:=hrel
  by_cases hlt:j < n
  ·have hji:(j:Int) < (n:Int):=(by omega);obtain ⟨x,hx⟩:∃ x,xs[j]?=some x:=⟨_,List.getElem?_eq_getElem (by rw [Hl.out.1];exact hlt)⟩;obtain ⟨y,hy⟩:∃ y,ys[j]?=some y:=⟨_,List.getElem?_eq_getElem (by rw [Hl.out.2];exact hlt)⟩;have hxm:=List.mem_of_getElem? hx;have hym:=List.mem_of_getElem? hy;have hrx:=Hp.out.zB HO.out;have hry:=Hq.out.zB HO.out;have hnx:xs.flatMap zJ≠[]:=fun e'=>(by have:=flat_get zJ 18 jG xs _ x 0 hx (by omega);rw [e'] at this;cases this);have hny:ys.flatMap zJ≠[]:=fun e'=>by have:=flat_get zJ 18 jG ys _ y 0 hy (by omega);rw [e'] at this;cases this
   obtain ⟨bp,op,rfl,-⟩:=hrx.lt hnx;obtain ⟨bq,oq,rfl,-⟩:=hry.lt hny;have hldx:=vN hrx hx;have hldy:=vN hry hy;obtain ⟨nx,hnx'⟩:∃ k,x.x.parts.length=k:=⟨_,rfl⟩;obtain ⟨ny,hny'⟩:∃ k,y.x.parts.length=k:=⟨_,rfl⟩;have hcx:jP wr x∧jP wr y∧x.x.parts.length≤4611686018427387904:=⟨(HM.out.1 x hxm).1.zB HO.out,(HM.out.2 y hym).zB HO.out,(HM.out.1 x hxm).2⟩;have HXY:=Lib.hid (And.intro hx hy);have Hc:=Lib.hid hcx;have HN:=Lib.hid (And.intro hnx' hny');obtain ⟨E,hE⟩:∃ E,decide (x.x=y.x)=E:=⟨_,rfl⟩;have HE:=Lib.hid hE
   clear hxm hym hrx hry hnx hny hx hy hcx hnx' hny' hE
   have HT2:E=true→Hid ((xs.map zT.x).take (j+1)=(ys.map zT.x).take (j+1)):=fun hEt=>Lib.hid (by
    rw [hEt] at HE;have h9:=of_decide_eq_true HE.out;rw [List.take_add_one,List.take_add_one,HT.out,List.getElem?_map,List.getElem?_map,HXY.out.1,HXY.out.2]
    simp [h9])
   have HF:E=false→Hid (D=false):=fun hEf=>Lib.hid (by
    rw [hEf] at HE;have h9:=of_decide_eq_false HE.out;rw [← HD.out];refine decide_eq_false (fun e=>h9 ?_);have h1:(xs.map zT.x)[j]?=some x.x:=(by rw [List.getElem?_map,HXY.out.1];rfl);have h2:(ys.map zT.x)[j]?=some y.x:=(by rw [List.getElem?_map,HXY.out.2];rfl);rw [e,h2] at h1
    exact (Option.some.inj h1).symm)
   have Hldx:Hid (∀ w,Only [] wr w→(Instr.loadAt 36 (.pointer (some ⟨bp,op+j * 18,none⟩))).run Tryz.prog w=.ok (lmV x) w):=Lib.hid (fun w hw=>vN (Hp.out.zB (HO.out.zC hw)) HXY.out.1);have Hldy:Hid (∀ w,Only [] wr w→(Instr.loadAt 36 (.pointer (some ⟨bq,oq+j * 18,none⟩))).run Tryz.prog w=.ok (lmV y) w):=Lib.hid (fun w hw=>vN (Hq.out.zB (HO.out.zC hw)) HXY.out.2)
   have Hsm:Hid (∀ w,Only [] wr w→Calls Tryz.prog 116 #[lmV x,lmV y] w fun e w'=>e=.returned (.bool E)∧Only [] w w'):=Lib.hid (fun w hw=>by
    have h9:=zDL x y w (Hc.out.1.zB hw) (Hc.out.2.1.zB hw) Hc.out.2.2
    rwa [HE.out] at h9)
   clear hldx hldy
   go_upto_region 6 with (fail)
   refine qG (Only []) [[(0,none)],[(5,none)],[(16,some 1),(17,some 0)],[(18,some 0)],[(1,none)],[(5,none)],[(20,some 1),(21,some 0)],[(22,some 0)],[(19,some 4),(23,some 0)],[(24,some 0)]] [(25,0)] [none,none,none,none,none,none,none,none,none,none,none,none,none,none,none,none,some 16,some 17,some 18,some 19,some 20,some 21,some 22,some 23,some 24,some 25,none] (by kernel_rfl) rfl (by kernel_rfl) (fun _=>Only.refl _ _) (fun _ _ _ h k=>h.zC k) (Only.drew _) (by kernel_rfl) ?_;apply zI
   ·rintro a w hR ⟨(e0:_=_),-⟩;refine zA rfl fun K hK=>?_;go_simp;exact hK _ _ rfl (Only.refl _ _)
   apply zI
   ·rintro a w hR ⟨(e5:_=_),-⟩;refine zA rfl fun K hK=>?_;go_simp;exact hK _ _ rfl (Only.refl _ _)
   apply zI
   ·rintro a w hR ⟨(e16:_=_),(e17:_=_),-⟩;refine zA rfl fun K hK=>?_;go_simp;exact hK _ _ rfl (Only.refl _ _)
   apply zI
   ·rintro a w hR ⟨(e18:_=_),-⟩;refine zA rfl fun K hK=>?_;exact zAb (x:=.tmp 18) rfl e18 (Hldx.out w hR) (hK _ _ rfl (Only.refl _ _))
   apply zI
   ·rintro a w hR ⟨(e1:_=_),-⟩;refine zA rfl fun K hK=>?_;go_simp;exact hK _ _ rfl (Only.refl _ _)
   apply zI
   ·rintro a w hR ⟨(e5:_=_),-⟩;refine zA rfl fun K hK=>?_;go_simp;exact hK _ _ rfl (Only.refl _ _)
   apply zI
   ·rintro a w hR ⟨(e20:_=_),(e21:_=_),-⟩;refine zA rfl fun K hK=>?_;go_simp;exact hK _ _ rfl (Only.refl _ _)
   apply zI
   ·rintro a w hR ⟨(e22:_=_),-⟩;refine zA rfl fun K hK=>?_;exact zAb (x:=.tmp 22) rfl e22 (Hldy.out w hR) (hK _ _ rfl (Only.refl _ _))
   apply zI
   ·rintro a w hR ⟨(e19:_=_),(e23:_=_),-⟩;refine zA rfl fun K hK=>?_;go_simp;(with_reducible refine (Hsm.out w hR).mono ?_);rintro e w' ⟨rfl,ho⟩;exact hK _ _ rfl ho
   apply zI
   ·rintro a w hR ⟨(e24:_=_),-⟩;refine zA rfl fun K hK=>?_;go_simp;exact hK _ _ rfl (Only.refl _ _)
   intro f6 w6 hR6 hf;dsimp only [qD];obtain ⟨e25,-⟩:=hf;replace e25:f6 25=_:=e25;rw [e25];have HO3:=Lib.hid (HO.out.zC hR6);clear hR6 Hsm Hldx Hldy
   cases E with
   | false =>
    have HF2:=HF rfl;clear HT2 HF;go_wp2_with fail
    go_ret
    exact ⟨by rw [HF2.out];rfl,HO3.out⟩
   | true =>
    have HT3:=HT2 rfl;clear HT2 HF;go_wp2_with fail;refine ⟨⟨j+1,by go_num,by omega,HT3,HO3⟩,?_⟩;show n - ((j:Int)+1).toNat < n - ((j:Int)).toNat;omega
  ·obtain rfl:n=j:=by omega
   have HF:Hid (D=true):=Lib.hid (by
    rw [← HD.out];refine decide_eq_true ?_;have h9:=HT.out
    rwa [List.take_of_length_le (by rw [List.length_map,Hl.out.1];exact Nat.le_refl _),List.take_of_length_le (by rw [List.length_map,Hl.out.2];exact Nat.le_refl _)] at h9)
   have hji:¬ (n:Int) < (n:Int):=(by omega);go_wp2_with fail
   go_ret
   exact ⟨by rw [HF.out];rfl,HO.out⟩
def zAU (xs ys:List Cmd):Bool:=decide (xs.length≤ys.length) && decide (xs=ys.take xs.length)
set_option maxHeartbeats 8000000 in
theorem vK (w0:World) (p q:Option Addr) (n k c d:Nat) (xs ys:List zT) (hl:xs.length=n) (hl2:ys.length=k) (hn:n≤4611686018427387904) (hkd:k≤d) (hd:d≤9223372036854775807) (hp:Rd w0 p (xs.flatMap zJ)) (hq:Rd w0 q (ys.flatMap zJ)) (hmx:∀ m∈xs,jP w0 m∧m.x.parts.length≤4611686018427387904) (hmy:∀ m∈ys,jP w0 m) :
  Calls Tryz.prog 35 #[.slice p n c,.slice q k d] w0 fun e w'=>e=.returned (.bool (zAU (xs.map zT.x) (ys.map zT.x)))∧Only [] w0 w':=by
 by_cases hnk:n≤k
 rotate_left
 ·have HF:Hid (zAU (xs.map zT.x) (ys.map zT.x)=false):=Lib.hid (by unfold zAU;rw [List.length_map,List.length_map,hl,hl2,decide_eq_false hnk];rfl);have h1:¬ ((n:Int)≤(k:Int)):=(by omega);clear hp hq hmx hmy hl hl2 hnk
  go_enter Tryz.func35,Tryz.ntmps35
  go_wp2_with fail
  go_ret
  exact ⟨by rw [HF.out];rfl,Only.refl _ _⟩
 have HF:Hid (zAU (xs.map zT.x) (ys.map zT.x)=decide (xs.map zT.x=(ys.take n).map zT.x)):=Lib.hid (by unfold zAU;rw [List.length_map,List.length_map,hl,hl2,decide_eq_true hnk,List.map_take];rfl);have hsub:=zGK w0 p q n n c d xs (ys.take n) hl (by rw [List.length_take,hl2];omega) hn hp (zAk hq n) hmx (fun m hm=>hmy m (List.mem_of_mem_take hm));have Hsub:=Lib.hid hsub;have h1:(n:Int)≤(k:Int):=(by omega);have h2:n≤d:=(by omega);clear hp hq hmx hmy hl hl2 hsub
 go_enter Tryz.func35,Tryz.ntmps35
 go_wp2_with fail;refine Hsub.out.mono ?_;rintro e w' ⟨rfl,o'⟩;have HO:=Lib.hid o';clear o' Hsub;rw [← HF.out];go_wp2_with fail
 go_ret
 exact ⟨rfl,HO.out⟩
set_option maxHeartbeats 8000000 in
theorem zDp (w0:World) (p q:Option Addr) (n k c d:Nat) (xs ys:List zT) (hl:xs.length=n) (hl2:ys.length=k) (hn:n≤4611686018427387904) (hkd:k≤d) (hd:d≤9223372036854775807) (hp:Rd w0 p (xs.flatMap zJ)) (hq:Rd w0 q (ys.flatMap zJ)) (hmx:∀ m∈xs,jP w0 m∧m.x.parts.length≤4611686018427387904) (hmy:∀ m∈ys,jP w0 m) :
  Calls Tryz.prog 36 #[.slice p n c,.slice q k d] w0 fun e w'=>e=.returned (.bool (zAU (xs.map zT.x) (ys.map zT.x)))∧Only [] w0 w':=by
 by_cases hnk:n≤k
 rotate_left
 ·have HF:Hid (zAU (xs.map zT.x) (ys.map zT.x)=false):=Lib.hid (by unfold zAU;rw [List.length_map,List.length_map,hl,hl2,decide_eq_false hnk];rfl);have h1:¬ ((n:Int)≤(k:Int)):=(by omega);clear hp hq hmx hmy hl hl2 hnk
  go_enter Tryz.func36,Tryz.ntmps36
  go_wp2_with fail
  go_ret
  exact ⟨by rw [HF.out];rfl,Only.refl _ _⟩
 have HF:Hid (zAU (xs.map zT.x) (ys.map zT.x)=decide (xs.map zT.x=(ys.take n).map zT.x)):=Lib.hid (by unfold zAU;rw [List.length_map,List.length_map,hl,hl2,decide_eq_true hnk,List.map_take];rfl);have hsub:=zDn w0 p q n n c d xs (ys.take n) hl (by rw [List.length_take,hl2];omega) hn hp (zAk hq n) hmx (fun m hm=>hmy m (List.mem_of_mem_take hm));have Hsub:=Lib.hid hsub;have h1:(n:Int)≤(k:Int):=(by omega);have h2:n≤d:=(by omega);clear hp hq hmx hmy hl hl2 hsub
 go_enter Tryz.func36,Tryz.ntmps36
 go_wp2_with fail;refine Hsub.out.mono ?_;rintro e w' ⟨rfl,o'⟩;have HO:=Lib.hid o';clear o' Hsub;rw [← HF.out];go_wp2_with fail
 go_ret
 exact ⟨rfl,HO.out⟩
end
section
open Go.RowKit
theorem zHJ (xs:List Cmd):zAU xs xs=true:=by unfold zAU;simp
theorem zII (xs:List Cmd):zAU [] xs=true:=by unfold zAU;simp
theorem zGk (xs:List Cmd) (k:Nat):zAU (xs.take k) xs=true:=by
 unfold zAU;rw [List.length_take]
 simp [Nat.min_le_right]
theorem zGi (xs:List Cmd) {k:Nat} (hk:k≤xs.length):zAU xs (xs.take k)=decide (k=xs.length):=by
 unfold zAU;rw [List.length_take,Nat.min_eq_left hk]
 by_cases h:k=xs.length
 ·subst h
  simp
 ·rw [decide_eq_false (show ¬ xs.length≤k by omega),decide_eq_false h];rfl
set_option maxHeartbeats 16000000 in
theorem zFp (p:Option Addr) (n c:Nat) (xs:List zT) (q:Option Addr) (k d:Nat) (ys:List zT) (v:Int) (w0:World) (hl:xs.length=n) (hnc:n≤c) (hc:c≤140737488355328) (hl2:ys.length=k) (hkd:k≤d) (hd:d≤140737488355328) (hp:Rd w0 p (xs.flatMap zJ)) (hq:Rd w0 q (ys.flatMap zJ)) (hmx:zCT w0 xs) (hmy:zCT w0 ys) :
  Calls Tryz.prog 10 #[.slice p n c,.slice q k d,.int .i64 v] w0 fun e w'=>e=.returned (.bool true)∧Only [] w0 w':=by
 have hM:∀ w,Only [] w0 w→∀ m∈xs,jP w m∧m.x.parts.length≤4611686018427387904:=fun w hw m hm=>⟨(hmx.ca m hm).zB hw,by have:=(hmx.sh m hm).ps;omega⟩;have H1:Hid (∀ w,Only [] w0 w→Calls Tryz.prog 35 #[.slice p n c,.slice q k d] w fun e w'=>e=.returned (.bool (zAU (xs.map zT.x) (ys.map zT.x)))∧Only [] w w'):=Lib.hid (fun w hw=>vK w p q n k c d xs ys hl hl2 (by omega) hkd (by omega) (hp.zB hw) (hq.zB hw) (hM w hw) (fun m hm=>(hmy.ca m hm).zB hw));have H2:Hid (∀ w,Only [] w0 w→Calls Tryz.prog 36 #[.slice p n c,.slice q k d] w fun e w'=>e=.returned (.bool (zAU (xs.map zT.x) (ys.map zT.x)))∧Only [] w w'):=Lib.hid (fun w hw=>zDp w p q n k c d xs ys hl hl2 (by omega) hkd (by omega) (hp.zB hw) (hq.zB hw) (hM w hw) (fun m hm=>(hmy.ca m hm).zB hw))
 have H3:Hid (∀ w,Only [] w0 w→Calls Tryz.prog 35 #[.slice p n c,.slice p n c] w fun e w'=>e=.returned (.bool true)∧Only [] w w'):=Lib.hid (fun w hw=>by
  have h9:=vK w p p n n c c xs xs hl hl (by omega) hnc (by omega) (hp.zB hw) (hp.zB hw) (hM w hw) (fun m hm=>(hM w hw m hm).1)
  rwa [zHJ] at h9)
 have H4:Hid (∀ w,Only [] w0 w→Calls Tryz.prog 35 #[.slice none 0 0,.slice p n c] w fun e w'=>e=.returned (.bool true)∧Only [] w w'):=Lib.hid (fun w hw=>by
  have h9:=vK w none p 0 n 0 c [] xs rfl hl (by omega) hnc (by omega) (.inl rfl) (hp.zB hw) (fun m hm=>by cases hm) (fun m hm=>(hM w hw m hm).1)
  rwa [show ([]:List zT).map zT.x=[] from rfl,zII] at h9)
 obtain ⟨r,hr⟩:∃ r,v.tmod ((n:Int)+1)=r:=⟨_,rfl⟩;have hr1:=Int.tmod_lt_of_pos v (show (0:Int) < (n:Int)+1 by omega);have hr2:=Int.tmod_lt_of_pos (-v) (show (0:Int) < (n:Int)+1 by omega);rw [Int.neg_tmod] at hr2;rw [hr] at hr1 hr2
 obtain ⟨K,hK,hKn⟩:∃ K:Nat,(r+(n:Int)+1).tmod ((n:Int)+1)=(K:Int)∧K≤n:=by
  have c1:=Int.tmod_nonneg ((n:Int)+1) (show 0≤r+(n:Int)+1 by omega);have c2:=Int.tmod_lt_of_pos (r+(n:Int)+1) (show (0:Int) < (n:Int)+1 by omega);exact ⟨((r+(n:Int)+1).tmod ((n:Int)+1)).toNat,by omega,by omega⟩
 have htl:(xs.take K).length=K:=by rw [List.length_take,hl];omega
 have H5:Hid (∀ w,Only [] w0 w→Calls Tryz.prog 35 #[.slice p K K,.slice p n c] w fun e w'=>e=.returned (.bool true)∧Only [] w w'):=Lib.hid (fun w hw=>by
  have h9:=vK w p p K n K c (xs.take K) xs htl hl (by omega) hnc (by omega) (zAk (hp.zB hw) K) (hp.zB hw) (fun m hm=>hM w hw m (List.mem_of_mem_take hm)) (fun m hm=>(hM w hw m hm).1)
  rwa [List.map_take,zGk] at h9)
 have H6:Hid (∀ w,Only [] w0 w→Calls Tryz.prog 35 #[.slice p n c,.slice p K K] w fun e w'=>e=.returned (.bool (decide (K=n)))∧Only [] w w'):=Lib.hid (fun w hw=>by
  have h9:=vK w p p n K c K xs (xs.take K) hl htl (by omega) (Nat.le_refl _) (by omega) (hp.zB hw) (zAk (hp.zB hw) K) (hM w hw) (fun m hm=>(hM w hw m (List.mem_of_mem_take hm)).1)
  rwa [List.map_take,zGi _ (by rw [List.length_map];omega),List.length_map,hl] at h9)
 obtain ⟨D,hD⟩:∃ D,zAU (xs.map zT.x) (ys.map zT.x)=D:=⟨_,rfl⟩;rw [hD] at H1 H2;have hKc:K≤c:=(by omega);have hz1:¬ ((n:Int)+1=0):=(by omega);have hz2:((n:Int)+1 == 0)=false:=beq_eq_false_iff_ne.2 hz1;clear hl hl2 hp hq hmx hmy hM htl hD hkd hd
 go_enter Tryz.func10,Tryz.ntmps10
 go_wp2_with fail;refine (zCS w0).mono ?_;rintro e w1 ⟨rfl,o1⟩;have h1:=H1.out w1 o1;have O1:=Lib.hid o1;clear o1;go_wp2_with fail;refine h1.mono ?_;clear h1;rintro e w2 ⟨rfl,o2⟩;have O2:=Lib.hid (O1.out.zC o2);have h2:=H2.out w2 O2.out;clear o2;go_wp2_with fail;refine h2.mono ?_;clear h2;rintro e w3 ⟨rfl,o3⟩;have O3:=Lib.hid (O2.out.zC o3);have h3:=H3.out w3 O3.out;have hDD:(D != D)=false:=(by cases D <;> rfl);have hDD2:(D == D)=true:=(by cases D <;> rfl);clear o3;go_wp2_with fail;refine h3.mono ?_;clear h3;rintro e w4 ⟨rfl,o4⟩
 have O4:=Lib.hid (O3.out.zC o4);have h4:=H4.out w4 O4.out;clear o4;go_wp2_with fail;refine h4.mono ?_;clear h4;rintro e w5 ⟨rfl,o5⟩;have O5:=Lib.hid (O4.out.zC o5);have h5:=H5.out w5 O5.out;clear o5;go_wp2_with fail;refine h5.mono ?_;clear h5;rintro e w6 ⟨rfl,o6⟩;have O6:=Lib.hid (O5.out.zC o6);have h6:=H6.out w6 O6.out;clear o6 hr hK hDD hDD2
 by_cases hKe:K=n
 ·rw [decide_eq_true hKe] at h6;subst hKe;go_wp2_with fail;refine h6.mono ?_;clear h6;rintro e w7 ⟨rfl,o7⟩;have O7:=Lib.hid (O6.out.zC o7);clear o7;go_wp2_with fail
  go_ret
  exact ⟨rfl,O7.out⟩
 ·rw [decide_eq_false hKe] at h6;have hKi:¬ ((K:Int)=(n:Int)):=(by omega);have hKb:((K:Int) == (n:Int))=false:=beq_eq_false_iff_ne.2 hKi;go_wp2_with fail;refine h6.mono ?_;clear h6;rintro e w7 ⟨rfl,o7⟩;have O7:=Lib.hid (O6.out.zC o7);clear o7;go_wp2_with fail
  go_ret
  exact ⟨rfl,O7.out⟩
end
end Go.Proofs.YtfeglnpmpgipiaaGreatDoor
