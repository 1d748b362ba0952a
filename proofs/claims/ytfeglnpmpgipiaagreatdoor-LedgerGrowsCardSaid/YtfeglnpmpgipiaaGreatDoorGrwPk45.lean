/- GrwPk, part 45: LedBegW, LawBegW, LawGrowsW. -/
import Derived.Test.YtfeglnpmpgipiaaGreatDoorGrwPk23
import Derived.Test.YtfeglnpmpgipiaaGreatDoorGrwPk38
import Derived.Test.YtfeglnpmpgipiaaGreatDoorGrwPk43
import Derived.Test.YtfeglnpmpgipiaaGreatDoorGrwPk44
set_option linter.unusedVariables false
set_option maxRecDepth 100000
set_option linter.unusedSimpArgs false
namespace Go.Proofs.YtfeglnpmpgipiaaGreatDoor
section
open Go.RowKit
set_option maxHeartbeats 16000000 in
theorem zFh (w0:World) (p q:Option Addr) (n k c d:Nat) (xs ys:List zS) (hl:xs.length=n) (hl2:ys.length=k) (hn:n≤4611686018427387904) (hp:Rd w0 p (xs.flatMap zK)) (hq:Rd w0 q (ys.flatMap zK)) (hmx:∀ m∈xs,jS w0 m∧m.x.parts.length≤4611686018427387904) (hmy:∀ m∈ys,jS w0 m) :
  Calls Tryz.prog 74 #[.slice p n c,.slice q k d,.func (.func 75) #[] #[]] w0 fun e w'=>e=.returned (.bool (decide (xs.map zS.x=ys.map zS.x)))∧Only [] w0 w':=by
 have Hp:=Lib.hid hp;have Hq:=Lib.hid hq;have HM:=Lib.hid (And.intro hmx hmy);obtain ⟨D,hD⟩:∃ D,decide (xs.map zS.x=ys.map zS.x)=D:=⟨_,rfl⟩;rw [hD];have HD:=Lib.hid hD
 by_cases hnk:n=k
 rotate_left
 ·have HF:Hid (D=false):=Lib.hid (by rw [← hD];exact decide_eq_false (fun e=>hnk (by have h9:=congrArg List.length e;rw [List.length_map,List.length_map] at h9;omega)));have h1:((n:Int) == (k:Int))=false:=beq_eq_false_iff_ne.2 (by omega);have h2:((n:Int) != (k:Int))=true:=bne_iff_ne.2 (by omega);have h3:¬ ((n:Int)=(k:Int)):=(by omega);clear hp hq hmx hmy hl hl2 hnk hD HD
  go_enter Tryz.func74,Tryz.ntmps74
  go_wp2_with fail
  go_ret
  exact ⟨by rw [HF.out];rfl,Only.refl _ _⟩
 subst hnk;have Hl:=Lib.hid (And.intro hl hl2);clear hp hq hmx hmy hl hl2 hD
 go_enter Tryz.func74,Tryz.ntmps74
 go_wp2_with fail
 go_loopw [17] (fun a wr=>∃ (j:Nat),a=.int .i64 (j:Int)∧j≤n∧Hid ((xs.map zS.x).take j=(ys.map zS.x).take j)∧Hid (Only [] w0 wr)) (fun a _=>n - (intOf a).toNat)
 case atStart=>exact ⟨0,rfl,Nat.zero_le _,Lib.hid rfl,Lib.hid (Only.refl _ _)⟩
 case round =>
  obtain ⟨j,rfl,hj,HT,HO⟩:=hrel
  by_cases hlt:j < n
  ·have hji:(j:Int) < (n:Int):=(by omega);obtain ⟨x,hx⟩:∃ x,xs[j]?=some x:=⟨_,List.getElem?_eq_getElem (by rw [Hl.out.1];exact hlt)⟩;obtain ⟨y,hy⟩:∃ y,ys[j]?=some y:=⟨_,List.getElem?_eq_getElem (by rw [Hl.out.2];exact hlt)⟩;have hxm:=List.mem_of_getElem? hx;have hym:=List.mem_of_getElem? hy;have hrx:=Hp.out.zB HO.out;have hry:=Hq.out.zB HO.out;have hnx:xs.flatMap zK≠[]:=fun e'=>(by have:=flat_get zK 18 jB xs _ x 0 hx (by omega);rw [e'] at this;cases this);have hny:ys.flatMap zK≠[]:=fun e'=>by have:=flat_get zK 18 jB ys _ y 0 hy (by omega);rw [e'] at this;cases this
   obtain ⟨bp,op,rfl,-⟩:=hrx.lt hnx;obtain ⟨bq,oq,rfl,-⟩:=hry.lt hny;have hldx:=yL hrx hx;have hldy:=yL hry hy;obtain ⟨nx,hnx'⟩:∃ k,x.x.parts.length=k:=⟨_,rfl⟩;obtain ⟨ny,hny'⟩:∃ k,y.x.parts.length=k:=⟨_,rfl⟩;have hcx:jS wr x∧jS wr y∧x.x.parts.length≤4611686018427387904:=⟨(HM.out.1 x hxm).1.zB HO.out,(HM.out.2 y hym).zB HO.out,(HM.out.1 x hxm).2⟩;have HXY:=Lib.hid (And.intro hx hy);have Hc:=Lib.hid hcx;have HN:=Lib.hid (And.intro hnx' hny');obtain ⟨E,hE⟩:∃ E,decide (x.x=y.x)=E:=⟨_,rfl⟩;have HE:=Lib.hid hE
   clear hxm hym hrx hry hnx hny hx hy hcx hnx' hny' hE
   have HT2:E=true→Hid ((xs.map zS.x).take (j+1)=(ys.map zS.x).take (j+1)):=fun hEt=>Lib.hid (by
    rw [hEt] at HE;have h9:=of_decide_eq_true HE.out;rw [List.take_add_one,List.take_add_one,HT.out,List.getElem?_map,List.getElem?_map,HXY.out.1,HXY.out.2]
    simp [h9])
   have HF:E=false→Hid (D=false):=fun hEf=>Lib.hid (by
    rw [hEf] at HE;have h9:=of_decide_eq_false HE.out;rw [← HD.out];refine decide_eq_false (fun e=>h9 ?_);have h1:(xs.map zS.x)[j]?=some x.x:=(by rw [List.getElem?_map,HXY.out.1];rfl);have h2:(ys.map zS.x)[j]?=some y.x:=(by rw [List.getElem?_map,HXY.out.2];rfl);rw [e,h2] at h1
    exact (Option.some.inj h1).symm)
   obtain ⟨VX,hVX⟩:∃ v,lmV x=v:=⟨_,rfl⟩;obtain ⟨VY,hVY⟩:∃ v,lmV y=v:=⟨_,rfl⟩;rw [hVX] at hldx;have HVX:=Lib.hid hVX;have HVY:=Lib.hid hVY;have Hldx:=Lib.hid hldx;clear hldx hldy hVX hVY;obtain ⟨wa,hwa⟩:∃ wa,wa=wr.alloc (.cells #[.int .i64 0,.int .i64 0,.int .i64 0,.int .i64 0,.string ⟨#[]⟩,.string ⟨#[]⟩,.int .i64 0,.int .i64 0,.int .i64 0,.int .i64 0,.int .i64 0,.int .i64 0,.int .i64 0,.string ⟨#[]⟩,.int .i64 0,.slice none 0 0,.int .i64 0,.int .i64 0] 36):=⟨_,rfl⟩;have owa:Only [] wr wa:=(by rw [hwa];exact Only.alloc _ _);have rwa:Row wa wr.heap.size 36 [.int .i64 0,.int .i64 0,.int .i64 0,.int .i64 0,.string ⟨#[]⟩,.string ⟨#[]⟩,.int .i64 0,.int .i64 0,.int .i64 0,.int .i64 0,.int .i64 0,.int .i64 0,.int .i64 0,.string ⟨#[]⟩,.int .i64 0,.slice none 0 0,.int .i64 0,.int .i64 0]:=by rw [hwa];exact Row.zV _ _ _ _ rfl
   have st1:(Instr.storeAt 36 (.pointer (some ⟨wr.heap.size,0,none⟩)) VX).run Tryz.prog wa=.ok () (wa.setRow wr.heap.size (zK x).toArray):=by
    rw [← HVX.out];exact rwa.storeAt (P:=Tryz.prog) (us:=zK x) vK rfl (vR x)
   have rw1':=rwa.setRow (zK x);have ow1':=Only.setRow wa wr.heap.size (zK x).toArray;obtain ⟨w1,hw1⟩:∃ w1,w1=wa.setRow wr.heap.size (zK x).toArray:=⟨_,rfl⟩;rw [← hw1] at st1 rw1' ow1';rw [hwa] at st1;have ow1:Only [] wr w1:=owa.zY ow1' (by simp);have Rw1:=Lib.hid rw1';have Ow1:=Lib.hid ow1;have Hst1:=Lib.hid st1;clear hwa owa rwa st1 rw1' ow1' hw1 ow1
   go_upto_region 6 with (first | ((with_reducible show wpList _ _ _ _ _ _);refine jG (ty:=36) (x:=.tmp 20) rfl rfl rfl Hldx.out ?_) | ((with_reducible show wpList _ _ _ _ _ _);refine jO (ty:=36) (x:=.tmp 8) (y:=.tmp 21) rfl rfl rfl rfl Hst1.out ?_))
   have hld1:=yL (Hq.out.zB (HO.out.zC Ow1.out)) HXY.out.2;rw [HVY.out] at hld1;have Hld1:=Lib.hid hld1;obtain ⟨B1,hB1⟩:∃ B,wr.heap.size=B:=⟨_,rfl⟩;rw [hB1] at Rw1 ⊢;clear hld1 Hldx Hst1 hB1;obtain ⟨wb,hwb⟩:∃ wb,wb=w1.alloc (.cells #[.int .i64 0,.int .i64 0,.int .i64 0,.int .i64 0,.string ⟨#[]⟩,.string ⟨#[]⟩,.int .i64 0,.int .i64 0,.int .i64 0,.int .i64 0,.int .i64 0,.int .i64 0,.int .i64 0,.string ⟨#[]⟩,.int .i64 0,.slice none 0 0,.int .i64 0,.int .i64 0] 36):=⟨_,rfl⟩;have owb:Only [] w1 wb:=(by rw [hwb];exact Only.alloc _ _);have rwb:Row wb w1.heap.size 36 [.int .i64 0,.int .i64 0,.int .i64 0,.int .i64 0,.string ⟨#[]⟩,.string ⟨#[]⟩,.int .i64 0,.int .i64 0,.int .i64 0,.int .i64 0,.int .i64 0,.int .i64 0,.int .i64 0,.string ⟨#[]⟩,.int .i64 0,.slice none 0 0,.int .i64 0,.int .i64 0]:=by rw [hwb];exact Row.zV _ _ _ _ rfl
   have st2:(Instr.storeAt 36 (.pointer (some ⟨w1.heap.size,0,none⟩)) VY).run Tryz.prog wb=.ok () (wb.setRow w1.heap.size (zK y).toArray):=by
    rw [← HVY.out];exact rwb.storeAt (P:=Tryz.prog) (us:=zK y) vK rfl (vR y)
   have rw2':=rwb.setRow (zK y);have ow2':=Only.setRow wb w1.heap.size (zK y).toArray;obtain ⟨w2,hw2⟩:∃ w2,w2=wb.setRow w1.heap.size (zK y).toArray:=⟨_,rfl⟩;rw [← hw2] at st2 rw2' ow2';rw [hwb] at st2;have ow2:Only [] w1 w2:=owb.zY ow2' (by simp);have Rw2:=Lib.hid rw2';have Ow2:=Lib.hid ow2;have Hst2:=Lib.hid st2;clear hwb owb rwb st2 rw2' ow2' hw2 ow2
   go_upto_region 7 with (first | ((with_reducible show wpList _ _ _ _ _ _);refine jG (ty:=36) (x:=.tmp 24) rfl rfl rfl Hld1.out ?_) | ((with_reducible show wpList _ _ _ _ _ _);refine jO (ty:=36) (x:=.tmp 9) (y:=.tmp 25) rfl rfl rfl rfl Hst2.out ?_))
   have h1:=(Rw1.out.zB Ow2.out).yM (P:=Tryz.prog) Tryz.underlying36 vK;have h2:=Rw2.out.yM (P:=Tryz.prog) Tryz.underlying36 vK;rw [show Value.agg (zK x).toArray=VX from HVX.out] at h1;rw [show Value.agg (zK y).toArray=VY from HVY.out] at h2;have H1:=Lib.hid h1;have H2:=Lib.hid h2;have hsm:=zFQ x y w2 (Hc.out.1.zB (Ow1.out.zC Ow2.out)) (Hc.out.2.1.zB (Ow1.out.zC Ow2.out)) Hc.out.2.2;rw [HE.out,HVX.out,HVY.out] at hsm;have Hsm:=Lib.hid hsm;have HO2:=Lib.hid (HO.out.zC (Ow1.out.zC Ow2.out));obtain ⟨B2,hB2⟩:∃ B,w1.heap.size=B:=⟨_,rfl⟩
   rw [hB2] at H2 ⊢;clear h1 h2 hsm hB2 Hld1 Hst2
   go_wp2_with (first | ((with_reducible show wpList _ _ _ _ _ _);refine jG (ty:=36) (x:=.tmp 8) rfl rfl rfl H1.out ?_) | ((with_reducible show wpList _ _ _ _ _ _);refine jG (ty:=36) (x:=.tmp 9) rfl rfl rfl H2.out ?_))
   refine Hsm.out.mono ?_;rintro e w3 ⟨rfl,o3⟩;have HO3:=Lib.hid (HO2.out.zC o3);clear Hsm H1 H2 o3
   cases E with
   | false =>
    have HF2:=HF rfl;clear HT2 HF;go_wp2_with fail
    go_ret
    exact ⟨by rw [HF2.out];rfl,HO3.out⟩
   | true =>
    have HT3:=HT2 rfl;clear HT2 HF;go_wp2_with fail;refine ⟨⟨j+1,by go_num,by omega,HT3,HO3⟩,?_⟩;show n - ((j:Int)+1).toNat < n - ((j:Int)).toNat;omega
  ·obtain rfl:n=j:=by omega
   have HF:Hid (D=true):=Lib.hid (by
    rw [← HD.out];refine decide_eq_true ?_;have h9:=HT.out
    rwa [List.take_of_length_le (by rw [List.length_map,Hl.out.1];exact Nat.le_refl _),List.take_of_length_le (by rw [List.length_map,Hl.out.2];exact Nat.le_refl _)] at h9)
   have hji:¬ (n:Int) < (n:Int):=(by omega);go_wp2_with fail
   go_ret
   exact ⟨by rw [HF.out];rfl,HO.out⟩
def zFe (xs ys:List Cmd):Bool:=decide (xs.length≤ys.length) && decide (xs=ys.take xs.length)
set_option maxHeartbeats 8000000 in
theorem zDp (w0:World) (p q:Option Addr) (n k c d:Nat) (xs ys:List zS) (hl:xs.length=n) (hl2:ys.length=k) (hn:n≤4611686018427387904) (hkd:k≤d) (hd:d≤9223372036854775807) (hp:Rd w0 p (xs.flatMap zK)) (hq:Rd w0 q (ys.flatMap zK)) (hmx:∀ m∈xs,jS w0 m∧m.x.parts.length≤4611686018427387904) (hmy:∀ m∈ys,jS w0 m) :
  Calls Tryz.prog 35 #[.slice p n c,.slice q k d] w0 fun e w'=>e=.returned (.bool (zFe (xs.map zS.x) (ys.map zS.x)))∧Only [] w0 w':=by
 by_cases hnk:n≤k
 rotate_left
 ·have HF:Hid (zFe (xs.map zS.x) (ys.map zS.x)=false):=Lib.hid (by unfold zFe;rw [List.length_map,List.length_map,hl,hl2,decide_eq_false hnk];rfl);have h1:¬ ((n:Int)≤(k:Int)):=(by omega);clear hp hq hmx hmy hl hl2 hnk
  go_enter Tryz.func35,Tryz.ntmps35
  go_wp2_with fail
  go_ret
  exact ⟨by rw [HF.out];rfl,Only.refl _ _⟩
 have HF:Hid (zFe (xs.map zS.x) (ys.map zS.x)=decide (xs.map zS.x=(ys.take n).map zS.x)):=Lib.hid (by unfold zFe;rw [List.length_map,List.length_map,hl,hl2,decide_eq_true hnk,List.map_take];rfl);have hsub:=zFh w0 p q n n c d xs (ys.take n) hl (by rw [List.length_take,hl2];omega) hn hp (zEv hq n) hmx (fun m hm=>hmy m (List.mem_of_mem_take hm));have Hsub:=Lib.hid hsub;have h1:(n:Int)≤(k:Int):=(by omega);have h2:n≤d:=(by omega);clear hp hq hmx hmy hl hl2 hsub
 go_enter Tryz.func35,Tryz.ntmps35
 go_wp2_with fail;refine Hsub.out.mono ?_;rintro e w' ⟨rfl,o'⟩;have HO:=Lib.hid o';clear o' Hsub;rw [← HF.out];go_wp2_with fail
 go_ret
 exact ⟨rfl,HO.out⟩
end
section
open Go.RowKit
theorem zHN (xs:List Cmd) (k:Nat):zFe (xs.take k) xs=true:=by
 unfold zFe;rw [List.length_take]
 simp [Nat.min_le_right]
end
section
open Go.RowKit
def zHs (t:TypeId):Prop:=t=38∨t=31
theorem SlC.zCZ {S:List Nat} {w w':World} {B n:Nat} {L:List Cmd} {v:Value} (h:SlC B n L v w) (ho:Only S w w') (hS:∀ z∈S,∃ t,zHs t∧Ty w z t):SlC B n L v w':=by
 obtain ⟨q,k,ms,h1,h2,h3,h4,h5⟩:=h;refine ⟨q,k,ms,h1,h2,h3,zN.jL h4 ho (fun z hz hm=>?_),fun m hm=>zN.jL (h5 m hm) ho (fun z hz hm2=>?_)⟩
 ·obtain ⟨t,ht,hw⟩:=hS z hm;have e:=(zN.ty h4 z hz).uniq hw
  rcases ht with rfl | rfl <;> exact absurd e (by decide)
 ·obtain ⟨t,ht,hw⟩:=hS z hm2;have e:=(zN.ty (h5 m hm) z hz).uniq hw
  rcases ht with rfl | rfl <;> exact absurd e (by decide)
theorem SlC.zB {w w':World} {B n:Nat} {L:List Cmd} {v:Value} (h:SlC B n L v w) (ho:Only [] w w'):SlC B n L v w':=SlC.stable v w w' h ho
theorem Tryz.infoOc:(Tryz.prog.info? 38).map (fun i=>(i.zero,i.size,i.bytes))=some (some (.agg #[.int .i64 0,.string ⟨#[]⟩]),2,24):=by kernel_rfl
theorem zAI (a:yA):(jJ a).length=2:=rfl
theorem zEf (a:yA):∀ u∈jJ a,u.oneCell'=true:=by intro u hu;simp only [jJ,List.mem_cons,List.not_mem_nil,or_false] at hu;rcases hu with rfl | rfl <;> rfl
def SlA {α:Type} (f:α→List Value) (e:TypeId) (K B n:Nat) (l:List α) (D:List Nat):Value→World→Prop:=fun v w=>∃ q k,v=.slice q n k∧zN w B e K (.slice q n k) n (l.flatMap f)∧∀ z∈blk q,z ∉ D
theorem SlA.stable {α:Type} {f:α→List Value} {e:TypeId} {K B n:Nat} {l:List α} {D:List Nat}:Stable (Only []) (SlA f e K B n l D):=fun v a c ⟨q,k,h1,h2,h3⟩ ho=>⟨q,k,h1,h2.zB ho,h3⟩
theorem SlA.zCl {α:Type} {f:α→List Value} {e:TypeId} {K B n:Nat} {l:List α} {D:List Nat}:Stable (Only D) (SlA f e K B n l D):=fun v a c ⟨q,k,h1,h2,h3⟩ ho=>⟨q,k,h1,zN.jL h2 ho h3,h3⟩
def zBe (e:TypeId) (vs:List Value) (lo:Nat):Value→World→Prop:=fun v w=>∃ g,v=.slice (some ⟨g,0,none⟩) 1 1∧Row w g e vs∧lo≤g
theorem zBe.stable {e:TypeId} {vs:List Value} {lo:Nat}:Stable (Only []) (zBe e vs lo):=fun v a c ⟨g,h1,h2,h3⟩ ho=>⟨g,h1,h2.zB ho,h3⟩
theorem zBe.jC {e:TypeId} {vs:List Value} {lo:Nat} {S:List Nat} (hS:∀ z∈S,z < lo):Stable (Only S) (zBe e vs lo):=fun v a c ⟨g,h1,h2,h3⟩ ho=>⟨g,h1,h2.only ho (fun hm=>by have:=hS g hm;omega),h3⟩
theorem SlA.run {α:Type} {f:α→List Value} {e:TypeId} {K:Nat} {z:Value} {bytes:Nat} {t:TypeId} (ht:Tryz.prog.underlying t=some (.slice e)) (hi:(Tryz.prog.info? e).map (fun i=>(i.zero,i.size,i.bytes))=some (some z,K,bytes)) (hz:z.cells.size=K) (hK:0 < K) (hf:∀ a,(f a).length=K) (h1:∀ a,∀ u∈f a,u.oneCell'=true)
  {w:World} {B n k lo:Nat} {q:Option Addr} {l:List α} {x:α} {D:List Nat} {u:Value} (o:zN w B e K (.slice q n k) n (l.flatMap f)) (hq:∀ z∈blk q,z ∉ D) (hD:∀ z∈D,z < w.heap.size) (hB:B≤w.heap.size) (hu:zBe e (f x) lo u w) (hb:(n+1) * bytes≤140737488355328) (h63:n+1≤9223372036854775807) :
  ∃ v' w',(Builtin.append_ #[t,t] t #[.slice q n k,u]).run Tryz.prog w=.ok v' w'∧SlA f e K B (n+1) (l ++ [x]) D v' w'∧Only (blk q) w w':=by
 obtain ⟨g,rfl,hg,-⟩:=hu;obtain ⟨p',c',w2,hr,o2,h2⟩:=xN (P:=Tryz.prog) (t:=t) (ty:=t) (q:=some ⟨g,0,none⟩) (m:=1) (c:=1) (news:=f x) w ht hi hz hK o hg.rd0 (by rw [hf,Nat.one_mul]) (by simp) (h1 x) hb h63 hB;have hat:=xR (P:=Tryz.prog) (t:=t) (ty:=t) (q:=some ⟨g,0,none⟩) (m:=1) (c:=1) (news:=f x) w ht hi hz hK o hg.rd0 (by rw [hf,Nat.one_mul]) (by simp) (h1 x) hb h63 hr;refine ⟨_,w2,hr,⟨p',c',rfl,by rw [List.flatMap_append];simpa using o2,fun z hz hd=>?_⟩,h2⟩
 rcases hat with e | ⟨g2,e,hlt⟩
 ·rw [e] at hz;exact hq z hz hd
 ·rw [e] at hz
  simp [blk] at hz
  have:=hD z hd;omega
def GrI (w0:World) (xs:List Cmd) (G:List Cmd) (i N kl ko kd:Nat) (ql qo qd:Option Addr) (w:World):Prop :=
 G=zEN (xs.take i)∧zBI xs G i∧G.length=N∧SlC w0.heap.size N G (.slice ql N kl) w∧zN w w0.heap.size 38 2 (.slice qo N ko) N ((yC G).flatMap jJ)∧zN w w0.heap.size 31 3 (.slice qd N kd) N ((G.map Cmd.id).flatMap zI)∧Only [] w0 w
set_option maxHeartbeats 16000000 in
theorem zEY (p:Option Addr) (n c:Nat) (ms:List zS) (pz:Option Addr) (lz cz:Nat) (zs:List Int) (w0:World) (hn:ms.length=n) (hnb:n * 184≤140737488355328) (hx:Rd w0 p (ms.flatMap zK)) (hms:zGe w0 ms) (hzl:zs.length=lz) (hzr:Rd w0 pz (zDl zs)) :
  Calls Tryz.prog 12 #[.slice p n c,.slice pz lz cz] w0 fun e w'=>e=.returned (.bool true)∧Only [] w0 w':=by
 have H1:=Lib.hid (show ms.length=n∧Rd w0 p (ms.flatMap zK)∧zGe w0 ms from ⟨hn,hx,hms⟩);have HZ:=Lib.hid (And.intro hzl hzr);clear hn hx hms hzl hzr
 go_enter Tryz.func12,Tryz.ntmps12
 go_wp2_with fail;refine (zEx w0).mono ?_;rintro e wa ⟨rfl,oa⟩;have HOa:=Lib.hid oa;clear oa;go_wp2_with fail;refine (zFM p n c ms wa H1.out.1 hnb (H1.out.2.1.zB HOa.out) ⟨fun x h=>(H1.out.2.2.ca x h).zB HOa.out,H1.out.2.2.sh⟩).mono ?_;rintro e wb ⟨q,mm,k,fs,rfl,hfl,hrd,hq0,hmk,hk63,hfm,hmem,ob⟩;have HOb:=Lib.hid (HOa.out.zC ob);have HF:Hid (fs.length=mm∧Rd wb q (fs.flatMap zK)∧(q=none→mm=0∧k=0)∧(∀ x∈fs,jS wb x∧x.x.parts.length≤16)∧zGS fs):=Lib.hid ⟨hfl,hrd,hq0,fun x hx=>⟨(H1.out.2.2.ca x (hmem x hx)).zB (HOa.out.zC ob),(hfm.ok x hx).2⟩,fun x hx=>(hfm.ok x hx).1⟩
 clear HOa ob hfl hrd hq0 hfm hmem H1
 by_cases hle:mm≤400
 rotate_left
 ·rw [decide_eq_false hle];clear hle;go_wp2_with fail
  go_ret
  exact ⟨rfl,HOb.out⟩
 rw [decide_eq_true hle]
 by_cases h60:mm≤60
 rotate_left
 ·have hi1:(60:Int) < (mm:Int):=(by omega);go_wp2_with fail
  go_ret
  exact ⟨rfl,HOb.out⟩
 have hi1:¬ ((60:Int) < (mm:Int)):=(by omega);obtain ⟨xs,hxs⟩:∃ xs,fs.map zS.x=xs:=⟨_,rfl⟩;have Hxs:=Lib.hid (show fs.map zS.x=xs∧xs.length=mm from ⟨hxs,by rw [← hxs,List.length_map];exact HF.out.1⟩);have HZb:Hid (zs.length=lz∧Rd wb pz (zDl zs)):=Lib.hid ⟨HZ.out.1,HZ.out.2.zB HOb.out⟩;obtain ⟨w1,hw1⟩:∃ w1,w1=wb.alloc (.cells #[] 36):=⟨_,rfl⟩;have o1:Only [] wb w1:=(by rw [hw1];exact Only.alloc _ _);have s1:w1.heap.size=wb.heap.size+1:=(by rw [hw1];simp);have c1:zN w1 wb.heap.size 36 18 (.slice (some ⟨wb.heap.size,0,none⟩) 0 0) 0 []:=by rw [hw1];exact zN.new (K:=18) (n:=0) [] (Nat.le_refl _) rfl (by omega)
 obtain ⟨w2,hw2⟩:∃ w2,w2=w1.alloc (.cells #[] 38):=⟨_,rfl⟩;have o2:Only [] w1 w2:=(by rw [hw2];exact Only.alloc _ _);have s2:w2.heap.size=wb.heap.size+1+1:=(by rw [hw2];simp [s1]);have c2:zN w2 wb.heap.size 38 2 (.slice (some ⟨w1.heap.size,0,none⟩) 0 0) 0 []:=(by rw [hw2];exact zN.new (K:=2) (n:=0) [] o1.size rfl (by omega));obtain ⟨w3,hw3⟩:∃ w3,w3=w2.alloc (.cells #[] 31):=⟨_,rfl⟩;have o3:Only [] w2 w3:=(by rw [hw3];exact Only.alloc _ _);have c3:zN w3 wb.heap.size 31 3 (.slice (some ⟨w2.heap.size,0,none⟩) 0 0) 0 []:=by rw [hw3];exact zN.new (K:=3) (n:=0) [] (Nat.le_trans o1.size o2.size) rfl (by omega)
 rw [s1] at c2;rw [s2] at c3;have HI0:Hid (GrI wb xs [] 0 0 0 0 0 (some ⟨wb.heap.size,0,none⟩) (some ⟨wb.heap.size+1,0,none⟩) (some ⟨wb.heap.size+1+1,0,none⟩) w3):=Lib.hid ⟨by simp [zEN],zBI.start xs,rfl,⟨_,_,[],rfl,rfl,rfl,c1.zB (o2.zC o3),fun m hm=>by cases hm⟩,c2.zB o3,c3,o1.zC (o2.zC o3)⟩;rw [hw1] at hw2;rw [hw2] at hw3;have Hw:=Lib.hid hw3;clear hw1 hw2 hw3 o1 o2 o3 s1 s2 c1 c2 c3 hxs HZ hle
 go_upto_region 9 with (fail)
 rw [← Hw.out];clear Hw;go_wp2_with fail
 go_loopw [6,7,8,46] (fun sl so sd a wl=>∃ (i N kl ko kd:Nat) (ql qo qd:Option Addr) (G:List Cmd),sl=.slice ql N kl∧so=.slice qo N ko∧sd=.slice qd N kd∧a=.int .i64 (i:Int)∧i≤mm∧N≤i∧Hid (GrI wb xs G i N kl ko kd ql qo qd wl)) (fun _ _ _ a _=>mm - (intOf a).toNat)
 case atStart=>exact ⟨0,0,0,0,0,_,_,_,[],rfl,rfl,rfl,rfl,Nat.zero_le _,Nat.le_refl _,HI0⟩
 case round =>
  clear HI0;obtain ⟨i,N,kl,ko,kd,ql,qo,qd,G,rfl,rfl,rfl,rfl,hi,hNi,HI⟩:=hrel;obtain ⟨wq,rfl⟩:∃ wq,wq=wr:=⟨_,rfl⟩
  by_cases hlt:i < mm
  ·obtain ⟨x,hx⟩:∃ x,fs[i]?=some x:=⟨_,List.getElem?_eq_getElem (by rw [HF.out.1];exact hlt)⟩;have hxm:=List.mem_of_getElem? hx;have hrx:=HF.out.2.1.zB HI.out.2.2.2.2.2.2;have hnx:fs.flatMap zK≠[]:=fun e'=>(by have:=flat_get zK 18 jB fs _ x 0 hx (by omega);rw [e'] at this;cases this);obtain ⟨bp,op,hq,-⟩:=hrx.lt hnx;have hxx:xs[i]?=some x.x:=(by rw [← Hxs.out.1,List.getElem?_map,hx];rfl);have Hx:Hid (xs[i]?=some x.x∧(∀ w,Only [] wb w→jS w x)∧x.x.parts.length≤16):=Lib.hid ⟨hxx,fun w hw=>(HF.out.2.2.2.1 x hxm).1.zB hw,(HF.out.2.2.2.1 x hxm).2⟩
   have Hq:=Lib.hid hq;have hld:(Instr.loadAt 36 (.pointer (some ⟨bp,op+i * 18,none⟩))).run Tryz.prog wq=.ok (lmV x) wq:=(by rw [hq] at hrx;exact yL hrx hx);obtain ⟨VX,hVX⟩:∃ v,lmV x=v:=⟨_,rfl⟩;rw [hVX] at hld;have HVX:=Lib.hid hVX;have Hld:=Lib.hid hld;obtain ⟨dx,hdx⟩:∃ d,x.x.id=d:=⟨_,rfl⟩;have Hdx:=Lib.hid hdx;clear hx hxm hrx hnx hxx hld hVX hq hdx;obtain rfl:=Hq.out
   obtain ⟨al,hal,hmal,hal2,hal3⟩:∃ al:List zS,al.length=N∧al.map zS.x=G∧Rd wq ql (al.flatMap zK)∧∀ m∈al,jS wq m:=by
    obtain ⟨q9,k9,al,h1,h2,h3,h4,h5⟩:=HI.out.2.2.2.1
    cases h1
    exact ⟨al,h2,h3,h4.view.2.2.1,fun m hm=>(h5 m hm).at⟩
   have hpar:∀ m∈al,m.x.parts.length≤16:=fun m hm=>by
    have h1:m.x∈G:=(by rw [← hmal];exact List.mem_map_of_mem hm);have h2:=HI.out.2.1.sub _ h1;rw [← Hxs.out.1] at h2;obtain ⟨y,hy,e⟩:=List.mem_map.1 h2;rw [← e];exact (HF.out.2.2.2.1 y hy).2
   have HAl:Hid (al.length=N∧al.map zS.x=G∧Rd wq ql (al.flatMap zK)∧∀ m∈al,jS wq m∧m.x.parts.length≤16):=Lib.hid ⟨hal,hmal,hal2,fun m hm=>⟨hal3 m hm,hpar m hm⟩⟩;clear hal hmal hal2 hal3 hpar;obtain ⟨wx,hwx⟩:∃ wx,wx=wq.alloc (.cells #[.int .i64 0,.int .i64 0,.int .i64 0,.int .i64 0,.string ⟨#[]⟩,.string ⟨#[]⟩,.int .i64 0,.int .i64 0,.int .i64 0,.int .i64 0,.int .i64 0,.int .i64 0,.int .i64 0,.string ⟨#[]⟩,.int .i64 0,.slice none 0 0,.int .i64 0,.int .i64 0] 36):=⟨_,rfl⟩;have owx:Only [] wq wx:=(by rw [hwx];exact Only.alloc _ _);have rwx:Row wx wq.heap.size 36 [.int .i64 0,.int .i64 0,.int .i64 0,.int .i64 0,.string ⟨#[]⟩,.string ⟨#[]⟩,.int .i64 0,.int .i64 0,.int .i64 0,.int .i64 0,.int .i64 0,.int .i64 0,.int .i64 0,.string ⟨#[]⟩,.int .i64 0,.slice none 0 0,.int .i64 0,.int .i64 0]:=by rw [hwx];exact Row.zV _ _ _ _ rfl
   have st1:(Instr.storeAt 36 (.pointer (some ⟨wq.heap.size,0,none⟩)) VX).run Tryz.prog wx=.ok () (wx.setRow wq.heap.size (zK x).toArray):=by
    rw [← HVX.out];exact rwx.storeAt (P:=Tryz.prog) (us:=zK x) vK rfl (vR x)
   have rw1':=rwx.setRow (zK x);have ow1':=Only.setRow wx wq.heap.size (zK x).toArray;obtain ⟨w1,hw1⟩:∃ w1,w1=wx.setRow wq.heap.size (zK x).toArray:=⟨_,rfl⟩;rw [← hw1] at st1 rw1' ow1';rw [hwx] at st1;have ow1:Only [] wq w1:=owx.zY ow1' (by simp);have Rw1:=Lib.hid rw1';have Ow1:=Lib.hid ow1;have Hst1:=Lib.hid st1;clear hwx owx rwx st1 rw1' ow1' hw1 ow1
   go_upto_region 12 with (first | ((with_reducible show wpList _ _ _ _ _ _);refine jG (ty:=36) (x:=.tmp 49) rfl rfl rfl Hld.out ?_) | ((with_reducible show wpList _ _ _ _ _ _);refine jO (ty:=36) (x:=.tmp 10) (y:=.tmp 50) rfl rfl rfl rfl Hst1.out ?_))
   obtain ⟨C,hC⟩:∃ C,wq.heap.size=C:=⟨_,rfl⟩;have HC:=Lib.hid hC;rw [hC] at Rw1 ⊢;have hcp:=zEp ql N kl al w1 HAl.out.1 (by omega) (HAl.out.2.2.1.zB Ow1.out) (fun m hm=>⟨(HAl.out.2.2.2 m hm).1.zB Ow1.out,by have:=(HAl.out.2.2.2 m hm).2;omega⟩);have Hcp:=Lib.hid hcp;clear hcp hC Hld Hst1;go_wp2_with fail;refine Hcp.out.mono ?_;rintro e w2 ⟨qc,kc,cs,rfl,hmap,hout,hown⟩
   have HCs:Hid (cs.length=N∧cs.map zS.x=G∧Rd w2 qc (cs.flatMap zK)∧(∀ m∈cs,jS w2 m∧m.x.parts.length≤16)∧N≤kc):=Lib.hid ⟨hout.2.1,by rw [hmap];exact HAl.out.2.1,hout.1.view.2.2.1,fun m hm=>⟨(hown m hm).at,by
    have h1:m.x∈al.map zS.x:=(by rw [← hmap];exact List.mem_map_of_mem hm);obtain ⟨y,hy,e⟩:=List.mem_map.1 h1
    rw [← e];exact (HAl.out.2.2.2 y hy).2⟩,hout.1.view.2.2.2.2.1⟩
   have O2:Hid (Only [] wq w2):=Lib.hid (Ow1.out.zC hout.2.2);have R2:=Lib.hid (Rw1.out.zB hout.2.2);have h6:=R2.out.yM (P:=Tryz.prog) Tryz.underlying36 vK;rw [show Value.agg (zK x).toArray=VX from HVX.out] at h6;have H6:=Lib.hid h6;have hpt:=zAw ql N kl al x w2 HAl.out.1 (by omega) (HAl.out.2.2.1.zB O2.out) (fun m hm=>⟨(HAl.out.2.2.2 m hm).1.zB O2.out,by have:=(HAl.out.2.2.2 m hm).2;omega⟩) ⟨Hx.out.2.1 w2 (HI.out.2.2.2.2.2.2.zC O2.out),by have:=Hx.out.2.2;omega⟩;rw [HVX.out,HAl.out.2.1] at hpt;have Hpt:=Lib.hid hpt;clear hpt h6 hmap hout hown Hcp Rw1
   go_upto_region 13 with (fail)
   go_wp2_with (first | ((with_reducible show wpList _ _ _ _ _ _);refine jG (ty:=36) (x:=.tmp 10) rfl rfl rfl H6.out ?_))
   refine Hpt.out.mono ?_;rintro e w3 ⟨v3,N2,rfl,hS3,o3⟩;obtain ⟨P,hP⟩:∃ P,(vZ G x.x).2=P:=⟨_,rfl⟩;obtain ⟨G2,hG2⟩:∃ G2,(vZ G x.x).1=G2:=⟨_,rfl⟩;have hlen:=zIV G x.x;have hatx:=zIi G x.x;have hpre:=zIT G x.x;have hidx:=zIO G x.x;have hgr:=HI.out.2.1.step Hx.out.1;have hgt:=zFz Hx.out.1;rw [← HI.out.1] at hgt;rw [hP,hG2] at hlen hatx;rw [hG2] at hpre hidx hgr hgt hS3;rw [hP];rw [HI.out.2.2.1] at hlen hpre;have HG2:=Lib.hid hG2;obtain ⟨q2,k2,bl,rfl,hbl,hbmap,hbown,hbcm⟩:=hS3;have hN2:G2.length=N2:=by rw [← hbmap,List.length_map];exact hbl
   rw [hN2] at hlen
   have hbpar:∀ m∈bl,m.x.parts.length≤16:=fun m hm=>by
    have h1:m.x∈G2:=(by rw [← hbmap];exact List.mem_map_of_mem hm);have h2:=hgr.sub _ h1;rw [← Hxs.out.1] at h2;obtain ⟨y,hy,e⟩:=List.mem_map.1 h2;rw [← e];exact (HF.out.2.2.2.1 y hy).2
   have O3:Hid (Only [] wq w3):=Lib.hid (O2.out.zC o3);have HB:Hid (bl.length=N2∧bl.map zS.x=G2∧Rd w3 q2 (bl.flatMap zK)∧(∀ m∈bl,jS w3 m∧m.x.parts.length≤16)∧N2≤k2∧k2≤9223372036854775807∧SlC wb.heap.size N2 G2 (.slice q2 N2 k2) w3):=Lib.hid ⟨hbl,hbmap,hbown.view.2.2.1,fun m hm=>⟨(hbcm m hm).at,hbpar m hm⟩,hbown.view.2.2.2.2.1,hbown.view.2.2.2.2.2.1,⟨q2,k2,bl,rfl,hbl,hbmap,hbown.weaken (Nat.le_trans HI.out.2.2.2.2.2.2.size O2.out.size),fun m hm=>(hbcm m hm).weaken (Nat.le_trans HI.out.2.2.2.2.2.2.size O2.out.size)⟩⟩;obtain ⟨y,hy1,hy2⟩:=hatx
   obtain ⟨lm,hlm⟩:∃ m,bl[P - 1]?=some m:=⟨_,List.getElem?_eq_getElem (by omega)⟩;have hlmy:lm.x=y:=(by rw [← hbmap,List.getElem?_map,hlm] at hy1;exact Option.some.inj hy1);have hrb:=hbown.view.2.2.1;have hnb2:bl.flatMap zK≠[]:=fun e'=>(by have:=flat_get zK 18 jB bl _ lm 0 hlm (by omega);rw [e'] at this;cases this);obtain ⟨bb,ob2,hq2,-⟩:=hrb.lt hnb2;rw [hq2] at hrb;have z1:=zP jB hrb hlm (r:=1) rfl;have z2:=zP jB hrb hlm (r:=2) rfl;have z3:=zP jB hrb hlm (r:=3) rfl;rw [Addr.add_lit,← Nat.add_assoc] at z1 z2 z3
   rw [hlmy,hy2,Hdx.out] at z1 z2 z3;have Hz:=Lib.hid (And.intro z1 (And.intro z2 z3));have hcx:=R2.out.zB o3;have y1:=hcx.cell (i:=1) rfl;have y2:=hcx.cell (i:=2) rfl;have y3:=hcx.cell (i:=3) rfl;rw [Hdx.out] at y1 y2 y3;have HCX:=Lib.hid hcx;have Hy:=Lib.hid (And.intro y1 (And.intro y2 y3))
   have HBg:Hid (∀ w,Only [] w3 w→Calls Tryz.prog 35 #[.slice qc N kc,.slice q2 N2 k2] w fun e w'=>e=.returned (.bool true)∧Only [] w w'):=Lib.hid (fun w hw=>by
    have h9:=zDp w qc q2 N N2 kc k2 cs bl HCs.out.1 HB.out.1 (by omega) HB.out.2.2.2.2.1 HB.out.2.2.2.2.2.1 ((HCs.out.2.2.1.zB o3).zB hw) (HB.out.2.2.1.zB hw) (fun m hm=>⟨((HCs.out.2.2.2.1 m hm).1.zB o3).zB hw,by have:=(HCs.out.2.2.2.1 m hm).2;omega⟩) (fun m hm=>(HB.out.2.2.2.1 m hm).1.zB hw);rw [HCs.out.2.1,HB.out.2.1,hpre,zHN] at h9
    exact h9)
   have HGr:Hid (zBI xs G2 (i+1)∧G2=zEN (xs.take (i+1))∧G2.length=N2∧xL G2 dx < N2∧(vZ G x.x).1=G2∧G=G2.take N):=Lib.hid ⟨hgr,hgt.symm,hN2,by rw [← Hdx.out,← hN2];exact hidx,HG2.out,hpre⟩;have hP1:¬ ((P:Int) < 1):=(by omega);have hP2:¬ ((N2:Int) < (P:Int)):=(by omega);have hP3:¬ ((N:Int)+1 < (N2:Int)):=(by omega);have hPs:(P:Int) - 1=((P - 1:Nat):Int):=(by omega);obtain ⟨P0,hP0⟩:∃ P0,P - 1=P0:=⟨_,rfl⟩;rw [hP0] at Hz hPs;have hP4:P0 < N2:=(by omega);have hN260:N2≤61:=(by omega);have hNN2:N≤N2:=hlen.2.2.1
   have hNN3:N2≤N+1:=hlen.2.2.2;obtain rfl:=hq2;clear hP hG2 HG2 hlen hpre hidx hgr hgt hbl hbmap hbown hbcm hN2 hbpar hy1 hy2 hlm hlmy hrb hnb2 z1 z2 z3 y1 y2 y3 hcx hP0 Hpt H6 O2 R2 o3 HCs
   go_upto_region 14 with (fail)
   refine qY (Only []) [[(14,none)],[(60,some 0)],[(61,some 0)],[(62,some 0),(11,none)],[(62,some 1),(12,none)],[(62,some 2),(63,some 1),(64,some 0)],[(62,some 3),(65,some 0)],[(62,some 4),(66,some 0)],[(67,some 0)],[(68,some 0),(13,none)],[(68,some 1),(69,some 0)],[(68,some 2),(70,some 0)],[(71,some 0)],[(72,some 0),(13,none)],[(72,some 1),(12,none)],[(72,some 2),(74,some 0)],[(72,some 3),(73,some 2),(75,some 0)],[(72,some 4),(76,some 0)],[(77,some 0)],[(78,some 0),(12,none)],[(78,some 1),(13,none)],[(78,some 2),(80,some 0)],[(78,some 3),(79,some 2),(81,some 0)],[(78,some 4),(82,some 0)],[(78,some 5),(83,some 0)],[(78,some 6),(10,none)],[(78,some 7),(85,some 0)],[(78,some 8),(84,some 2),(86,some 0)],[(78,some 9),(87,some 0)],[(88,some 0)],[(89,some 0),(12,none)],[(89,some 1),(90,some 0)],[(89,some 2),(11,none)],[(89,some 3),(92,some 0)],[(89,some 4),(93,some 0)],[(89,some 5),(91,some 3),(94,some 0)],[(89,some 6),(95,some 0)]] [(96,0)] [none,none,none,none,none,none,none,none,none,none,none,none,none,none,none,none,none,none,none,none,none,none,none,none,none,none,none,none,none,none,none,none,none,none,none,none,none,none,none,none,none,none,none,none,none,none,none,none,none,none,none,none,none,none,none,none,none,none,none,none,some 60,some 61,some 62,some 63,some 64,some 65,some 66,some 67,some 68,some 69,some 70,some 71,some 72,some 73,some 74,some 75,some 76,some 77,some 78,some 79,some 80,some 81,some 82,some 83,some 84,some 85,some 86,some 87,some 88,some 89,some 90,some 91,some 92,some 93,some 94,some 95,some 96,none,none,none,none,none,none,none,none,none,none,none,none,none,none,none,none,none,none,none,none,none,none,none,none,none,none,none,none,none,none,none,none,none,none,none,none,none,none,none,none,none,none,none,none,none,none,none,none,none,none,none,none,none,none,none,none,none,none,none,none,none,none,none,none,none,none,none,none,none,none,none,none,none,none,none,none,none,none,none,none,none,none,none,none,none,none,none,none,none,none,none,none,none,none,none,none,none,none,none,none,none,none,none,none,none,none] (by kernel_rfl) rfl (by kernel_rfl) (fun _=>Only.refl _ _) (fun _ _ _ h k=>h.zC k) (Only.drew _) (by kernel_rfl) ?_
   apply zJ
   ·rintro a w hR ⟨(e14:_=_),-⟩;refine zA rfl fun K hK=>?_;go_simp;exact hK _ _ rfl (Only.refl _ _)
   apply zJ
   ·rintro a w hR ⟨(e60:_=_),-⟩;refine zA rfl fun K hK=>?_;go_simp;exact hK _ _ rfl (Only.refl _ _)
   apply zJ
   ·rintro a w hR ⟨(e61:_=_),-⟩;refine zA rfl fun K hK=>?_;go_simp;exact hK _ _ rfl (Only.refl _ _)
   apply zJ
   ·rintro a w hR ⟨(e62:_=_),(e11:_=_),-⟩;refine zX rfl rfl e62 fun K hK=>?_;clear e62;go_simp;exact hK _ _ rfl (Only.refl _ _)
   apply zJ
   ·rintro a w hR ⟨(e62:_=_),(e12:_=_),-⟩;refine zX rfl rfl e62 fun K hK=>?_;clear e62;go_simp;exact hK _ _ rfl (Only.refl _ _)
   apply zJ
   ·rintro a w hR ⟨(e62:_=_),(e63:_=_),(e64:_=_),-⟩;refine zX rfl rfl e62 fun K hK=>?_;clear e62;go_simp;(with_reducible refine (HBg.out w hR).mono ?_);rintro e w' ⟨rfl,ho⟩;exact hK _ _ rfl ho
   apply zJ
   ·rintro a w hR ⟨(e62:_=_),(e65:_=_),-⟩;refine zX rfl rfl e62 fun K hK=>?_;clear e62;go_simp;exact hK _ _ rfl (Only.refl _ _)
   apply zJ
   ·rintro a w hR ⟨(e62:_=_),(e66:_=_),-⟩;refine zA rfl fun K hK=>?_;go_simp;exact hK _ _ rfl (Only.refl _ _)
   apply zJ
   ·rintro a w hR ⟨(e67:_=_),-⟩;refine zA rfl fun K hK=>?_;go_simp;exact hK _ _ rfl (Only.refl _ _)
   apply zJ
   ·rintro a w hR ⟨(e68:_=_),(e13:_=_),-⟩;refine zX rfl rfl e68 fun K hK=>?_;clear e68;go_simp;exact hK _ _ rfl (Only.refl _ _)
   apply zJ
   ·rintro a w hR ⟨(e68:_=_),(e69:_=_),-⟩;refine zX rfl rfl e68 fun K hK=>?_;clear e68;have hd10:decide ((P:Int) < 1)=false:=decide_eq_false (by omega);have hd10n:decide (P < 1)=false:=decide_eq_false (by omega);have hd10z:decide (P=0)=false:=decide_eq_false (by omega);go_simp;exact hK _ _ rfl (Only.refl _ _)
   apply zJ
   ·rintro a w hR ⟨(e68:_=_),(e70:_=_),-⟩;refine zA rfl fun K hK=>?_;go_simp;exact hK _ _ rfl (Only.refl _ _)
   apply zJ
   ·rintro a w hR ⟨(e71:_=_),-⟩;refine zA rfl fun K hK=>?_;go_simp;exact hK _ _ rfl (Only.refl _ _)
   apply zJ
   ·rintro a w hR ⟨(e72:_=_),(e13:_=_),-⟩;refine zX rfl rfl e72 fun K hK=>?_;clear e72;go_simp;exact hK _ _ rfl (Only.refl _ _)
   apply zJ
   ·rintro a w hR ⟨(e72:_=_),(e12:_=_),-⟩;refine zX rfl rfl e72 fun K hK=>?_;clear e72;go_simp;exact hK _ _ rfl (Only.refl _ _)
   apply zJ
   ·rintro a w hR ⟨(e72:_=_),(e74:_=_),-⟩;refine zX rfl rfl e72 fun K hK=>?_;clear e72;go_simp;exact hK _ _ rfl (Only.refl _ _)
   apply zJ
   ·rintro a w hR ⟨(e72:_=_),(e73:_=_),(e75:_=_),-⟩;refine zX rfl rfl e72 fun K hK=>?_;clear e72;have hd16:decide ((N2:Int) < (P:Int))=false:=decide_eq_false (by omega);have hd16n:decide (N2 < P)=false:=decide_eq_false (by omega);go_simp;exact hK _ _ rfl (Only.refl _ _)
   apply zJ
   ·rintro a w hR ⟨(e72:_=_),(e76:_=_),-⟩;refine zA rfl fun K hK=>?_;go_simp;exact hK _ _ rfl (Only.refl _ _)
   apply zJ
   ·rintro a w hR ⟨(e77:_=_),-⟩;refine zA rfl fun K hK=>?_;go_simp;exact hK _ _ rfl (Only.refl _ _)
   apply zJ
   ·rintro a w hR ⟨(e78:_=_),(e12:_=_),-⟩;refine zX rfl rfl e78 fun K hK=>?_;clear e78;go_simp;exact hK _ _ rfl (Only.refl _ _)
   apply zJ
   ·rintro a w hR ⟨(e78:_=_),(e13:_=_),-⟩;refine zX rfl rfl e78 fun K hK=>?_;clear e78;go_simp;exact hK _ _ rfl (Only.refl _ _)
   apply zJ
   ·rintro a w hR ⟨(e78:_=_),(e80:_=_),-⟩;refine zX rfl rfl e78 fun K hK=>?_;clear e78;have hw21:IntKind.i64.wrap ((P:Int) - 1)=((P0:Nat):Int):=(by rw [hPs,IntKind.wrap_i64];omega);have hw21b:IntKind.i64.wrap ((P0:Nat):Int)=((P0:Nat):Int):=(by rw [IntKind.wrap_i64];omega);go_simp;exact hK _ _ rfl (Only.refl _ _)
   apply zJ
   ·rintro a w hR ⟨(e78:_=_),(e79:_=_),(e81:_=_),-⟩;refine zX rfl rfl e78 fun K hK=>?_;clear e78;go_simp;exact hK _ _ rfl (Only.refl _ _)
   apply zJ
   ·rintro a w hR ⟨(e78:_=_),(e82:_=_),-⟩;refine zX rfl rfl e78 fun K hK=>?_;clear e78;go_simp;exact hK _ _ rfl (Only.refl _ _)
   apply zJ
   ·rintro a w hR ⟨(e78:_=_),(e83:_=_),-⟩;refine zX rfl rfl e78 fun K hK=>?_;clear e78;have a1:=hR.cell Hz.out.1 (by simp);have a2:=hR.cell Hz.out.2.1 (by simp);have a3:=hR.cell Hz.out.2.2 (by simp);go_simp;exact hK _ _ rfl (Only.refl _ _)
   apply zJ
   ·rintro a w hR ⟨(e78:_=_),(e10:_=_),-⟩;refine zX rfl rfl e78 fun K hK=>?_;clear e78;go_simp;exact hK _ _ rfl (Only.refl _ _)
   apply zJ
   ·rintro a w hR ⟨(e78:_=_),(e85:_=_),-⟩;refine zX rfl rfl e78 fun K hK=>?_;clear e78;have a1:=hR.cell Hy.out.1 (by simp);have a2:=hR.cell Hy.out.2.1 (by simp);have a3:=hR.cell Hy.out.2.2 (by simp);go_simp;exact hK _ _ rfl (Only.refl _ _)
   apply zJ
   ·rintro a w hR ⟨(e78:_=_),(e84:_=_),(e86:_=_),-⟩;refine zX rfl rfl e78 fun K hK=>?_;clear e78;have hq:=fun w=>yS 9998 dx dx w;unfold idV at hq;simp only [decide_eq_true (rfl:dx=dx)] at hq;go_simp;exact hK _ _ rfl (Only.refl _ _)
   apply zJ
   ·rintro a w hR ⟨(e78:_=_),(e87:_=_),-⟩;refine zA rfl fun K hK=>?_;go_simp;exact hK _ _ rfl (Only.refl _ _)
   apply zJ
   ·rintro a w hR ⟨(e88:_=_),-⟩;refine zA rfl fun K hK=>?_;go_simp;exact hK _ _ rfl (Only.refl _ _)
   apply zJ
   ·rintro a w hR ⟨(e89:_=_),(e12:_=_),-⟩;refine zX rfl rfl e89 fun K hK=>?_;clear e89;go_simp;exact hK _ _ rfl (Only.refl _ _)
   apply zJ
   ·rintro a w hR ⟨(e89:_=_),(e90:_=_),-⟩;refine zX rfl rfl e89 fun K hK=>?_;clear e89;go_simp;exact hK _ _ rfl (Only.refl _ _)
   apply zJ
   ·rintro a w hR ⟨(e89:_=_),(e11:_=_),-⟩;refine zX rfl rfl e89 fun K hK=>?_;clear e89;go_simp;exact hK _ _ rfl (Only.refl _ _)
   apply zJ
   ·rintro a w hR ⟨(e89:_=_),(e92:_=_),-⟩;refine zX rfl rfl e89 fun K hK=>?_;clear e89;go_simp;exact hK _ _ rfl (Only.refl _ _)
   apply zJ
   ·rintro a w hR ⟨(e89:_=_),(e93:_=_),-⟩;refine zX rfl rfl e89 fun K hK=>?_;clear e89;have hw34:IntKind.i64.wrap ((N:Int)+1)=(N:Int)+1:=(by rw [IntKind.wrap_i64];omega);go_simp;exact hK _ _ rfl (Only.refl _ _)
   apply zJ
   ·rintro a w hR ⟨(e89:_=_),(e91:_=_),(e94:_=_),-⟩;refine zX rfl rfl e89 fun K hK=>?_;clear e89;have hd35:decide ((N:Int)+1 < (N2:Int))=false:=decide_eq_false (by omega);have hd35n:decide (N+1 < N2)=false:=decide_eq_false (by omega);go_simp;exact hK _ _ rfl (Only.refl _ _)
   apply zJ
   ·rintro a w hR ⟨(e89:_=_),(e95:_=_),-⟩;refine zA rfl fun K hK=>?_;go_simp;exact hK _ _ rfl (Only.refl _ _)
   intro f14 w14 hR14 hf;dsimp only [qE];obtain ⟨e96,-⟩:=hf;replace e96:f14 96=_:=e96;rw [e96];have O4:=Lib.hid (O3.out.zC hR14);have OW4:=Lib.hid hR14;clear hR14 hP1 hP2 hP3 hPs hP4 HBg Hz Hy
   go_upto_region 16 with (fail)
   go_upto_if 101 with (fail)
   go_cut [7,8] (fun so sd wx=>∃ (ko kd:Nat) (qo qd:Option Addr),so=.slice qo N2 ko∧sd=.slice qd N2 kd∧Hid (SlC wb.heap.size N2 G2 (.slice (some ⟨bb,ob2,none⟩) N2 k2) wx∧zN wx wb.heap.size 38 2 (.slice qo N2 ko) N2 ((yC G2).flatMap jJ)∧zN wx wb.heap.size 31 3 (.slice qd N2 kd) N2 ((G2.map Cmd.id).flatMap zI)∧Only [] wb wx))
   case first =>
    by_cases hne:N2=N
    ·obtain rfl:N=N2:=hne.symm
     have hGG:G=G2:=by
      have h9:=HGr.out.2.2.2.2.2
      rwa [List.take_of_length_le (by rw [HGr.out.2.2.1];exact Nat.le_refl _)] at h9
     have HN:Hid (SlC wb.heap.size N G2 (.slice (some ⟨bb,ob2,none⟩) N k2) w14∧zN w14 wb.heap.size 38 2 (.slice qo N ko) N ((yC G2).flatMap jJ)∧zN w14 wb.heap.size 31 3 (.slice qd N kd) N ((G2.map Cmd.id).flatMap zI)∧Only [] wb w14):=Lib.hid ⟨HB.out.2.2.2.2.2.2.zB OW4.out,by rw [← hGG];exact HI.out.2.2.2.2.1.zB O4.out,by rw [← hGG];exact HI.out.2.2.2.2.2.1.zB O4.out,HI.out.2.2.2.2.2.2.zC O4.out⟩;clear hGG;go_wp2_with fail
     go_meet
     exact ⟨ko,kd,qo,qd,rfl,rfl,HN⟩
    ·obtain rfl:N2=N+1:=(by omega);have hgt1:(N:Int) < ((N+1:Nat):Int):=(by omega);have hixN:xL G x.x.id=N∨True:=.inr trivial
     have hG2s:G2=G ++ [x.x]:=by
      by_cases hi:xL G x.x.id < G.length
      ·have h9:=HGr.out.2.2.2.2.1;rw [zAB hi] at h9;have h8:=HGr.out.2.2.1;rw [← h9,HI.out.2.2.1] at h8;omega
      ·have h9:=HGr.out.2.2.2.2.1;rw [zAi hi] at h9;exact h9.symm
     have hix:xL G2 dx=N:=by
      by_cases hi:xL G x.x.id < G.length
      ·have h9:=HGr.out.2.2.2.2.1;rw [zAB hi] at h9;have h8:=HGr.out.2.2.1;rw [← h9,HI.out.2.2.1] at h8;omega
      ·rw [hG2s,← Hdx.out,zCr hi,HI.out.2.2.1]
     obtain ⟨oR,hoR⟩:∃ o,(zDN G2).2=o:=⟨_,rfl⟩
     have hou:=zCB (some ⟨bb,ob2,none⟩) (N+1) k2 bl dx w14 HB.out.1 HB.out.2.2.2.2.1 HB.out.2.2.2.2.2.1 (HB.out.2.2.1.zB OW4.out) (fun m hm=>(HB.out.2.2.2.1 m hm).1.zB OW4.out) (fun m hm=>by
      have h1:m.x∈G2:=(by rw [← HB.out.2.1];exact List.mem_map_of_mem hm);have h2:=HGr.out.1.sub _ h1;rw [← Hxs.out.1] at h2;obtain ⟨y,hy,e⟩:=List.mem_map.1 h2
      rw [← e];exact HF.out.2.2.2.2 y hy) (by rw [HB.out.2.1,hix];omega)
     rw [HB.out.2.1,hix,List.take_of_length_le (by rw [HGr.out.2.2.1];exact Nat.le_refl _),hoR] at hou;unfold idV at hou;have Hou:=Lib.hid hou;have hcx:=HCX.out.zB OW4.out;have y1:=hcx.cell (i:=1) rfl;have y2:=hcx.cell (i:=2) rfl;have y3:=hcx.cell (i:=3) rfl;rw [Hdx.out] at y1 y2 y3;have HOs:Hid (yC G2=yC G ++ [oR]∧G2.map Cmd.id=G.map Cmd.id ++ [dx]):=Lib.hid ⟨by rw [← hoR,hG2s,zGH],by rw [hG2s,List.map_append,← Hdx.out];rfl⟩;clear hG2s hix hoR hou hcx hixN hne;go_wp2_with fail;refine Hou.out.mono ?_;rintro e w15 ⟨rfl,o15⟩;rw [show xM oR=.agg #[.int .i64 oR.code,.string (str oR.etag)] from rfl]
     clear Hou y1 y2 y3
     go_upto_region 18 with (fail)
     obtain ⟨w16,hw16⟩:∃ w16,w16=w15.alloc (.cells #[.int .i64 oR.code,.string (str oR.etag)] 38):=⟨_,rfl⟩;have oa:Only [] w15 w16:=(by rw [hw16];exact Only.alloc _ _);have sa:w16.heap.size=w15.heap.size+1:=(by rw [hw16];simp);have ra:Row w16 w15.heap.size 38 [.int .i64 oR.code,.string (str oR.etag)]:=(by rw [hw16];exact Row.zV _ _ _ _ rfl);rw [← hw16];have O16:=Lib.hid (O4.out.zC (o15.zC oa));have HUo:=Lib.hid ra;have HCX16:=Lib.hid (HCX.out.zB (OW4.out.zC (o15.zC oa)));have Hown:Hid (zN w16 wb.heap.size 38 2 (.slice qo N ko) N ((yC G).flatMap jJ)∧zN w16 wb.heap.size 31 3 (.slice qd N kd) N ((G.map Cmd.id).flatMap zI)):=Lib.hid ⟨HI.out.2.2.2.2.1.zB O16.out,HI.out.2.2.2.2.2.1.zB O16.out⟩
     have HS16:=Lib.hid (HB.out.2.2.2.2.2.2.zB (OW4.out.zC (o15.zC oa)));have hdj:∀ z∈blk qo,z ∉ blk qd:=fun z hz hz2=>absurd ((zN.ty Hown.out.1 z hz).uniq (zN.ty Hown.out.2 z hz2)) (by decide);have hbo:∀ z∈blk qo,wb.heap.size≤z∧z < wq.heap.size:=ownIn HI.out.2.2.2.2.1;have hbd:∀ z∈blk qd,wb.heap.size≤z∧z < wq.heap.size:=ownIn HI.out.2.2.2.2.2.1;have hqC:wq.heap.size=C:=HC.out;have hqu:wq.heap.size≤w15.heap.size:=(by have:=O4.out.size;have:=o15.size;omega);have hw15:w15.heap.size < w16.heap.size:=ra.lt;have Hbs:=Lib.hid (show (∀ z∈blk qo,z ∉ blk qd)∧(∀ z∈blk qo,wb.heap.size≤z∧z < wq.heap.size)∧(∀ z∈blk qd,wb.heap.size≤z∧z < wq.heap.size)∧wq.heap.size=C∧wq.heap.size≤w15.heap.size∧w15.heap.size < w16.heap.size∧wb.heap.size≤wq.heap.size from ⟨hdj,hbo,hbd,hqC,hqu,hw15,HI.out.2.2.2.2.2.2.size⟩)
     clear hw16 oa sa ra o15 hdj hbo hbd hqC hqu hw15
     go_upto_region 20 with (fail)
     have hRr:∀ x,(Only (blk qo ++ blk qd)) x x:=fun x=>Only.refl _ _;have hRt:∀ x y z,(Only (blk qo ++ blk qd)) x y→(Only (blk qo ++ blk qd)) y z→(Only (blk qo ++ blk qd)) x z:=fun _ _ _ h k=>h.trans k (fun _ h _=>h);have hRd:(Only (blk qo ++ blk qd)) w16 w16.drew:=(Only.drew _).mono (by simp)
     have hRs:∀ j w,zZ [(3,Only (blk qo)),(8,Only (blk qd))] j w w:=zZ.refl (by
      intro x hx w;simp only [List.mem_cons,List.not_mem_nil,or_false] at hx
      rcases hx with rfl | rfl <;> exact Only.refl _ _)
     have hC0:∀ d∈[3,8],(fun (i:Nat) (a:World)=>(i=3→zN a wb.heap.size 38 2 (.slice qo N ko) N ((yC G).flatMap jJ))∧(i=8→zN a wb.heap.size 31 3 (.slice qd N kd) N ((G.map Cmd.id).flatMap zI))) d w16.drew:=fun _ _=>⟨fun _=>Hown.out.1.zB (Only.drew _),fun _=>Hown.out.2.zB (Only.drew _)⟩;refine zU (Only (blk qo ++ blk qd)) (zZ [(3,Only (blk qo)),(8,Only (blk qd))]) (fun (i:Nat) (a:World)=>(i=3→zN a wb.heap.size 38 2 (.slice qo N ko) N ((yC G).flatMap jJ))∧(i=8→zN a wb.heap.size 31 3 (.slice qd N kd) N ((G.map Cmd.id).flatMap zI))) [3,8] [[(7,none)],[(15,none)],[(112,some 0)],[(111,some 2),(113,some 0)],[(8,none)],[(10,none)],[(116,some 0)],[(117,some 0)],[(115,some 3),(118,some 0)],[(114,some 5)],[(119,some 1)]] [(7,1),(8,0)] [] [none,none,none,none,none,none,none,some 7,some 8,none,none,none,none,none,none,none,none,none,none,none,none,none,none,none,none,none,none,none,none,none,none,none,none,none,none,none,none,none,none,none,none,none,none,none,none,none,none,none,none,none,none,none,none,none,none,none,none,none,none,none,none,none,none,none,none,none,none,none,none,none,none,none,none,none,none,none,none,none,none,none,none,none,none,none,none,none,none,none,none,none,none,none,none,none,none,none,none,none,none,none,none,none,none,none,none,none,none,none,none,none,none,some 111,some 112,some 113,some 114,some 115,some 116,some 117,some 118,some 119,none,none,none,none,none,none,none,none,none,none,none,none,none,none,none,none,none,none,none,none,none,none,none,none,none,none,none,none,none,none,none,none,none,none,none,none,none,none,none,none,none,none,none,none,none,none,none,none,none,none,none,none,none,none,none,none,none,none,none,none,none,none,none,none,none,none,none,none,none,none,none,none,none,none,none,none,none,none,none,none,none,none,none] (by kernel_rfl) rfl (by kernel_rfl) hRr hRt hRs hRd hC0 (by kernel_rfl) (by kernel_rfl) ?_
     apply zF
     ·rintro a w hR hC ⟨(e7:_=_),-⟩;refine zA rfl fun K hK=>?_;go_simp;exact hK _ _ rfl ⟨hRr _,hRs _ _,fun _ _ _ _ h=>h⟩
     apply zF
     ·rintro a w hR hC ⟨(e15:_=_),-⟩;refine zA rfl fun K hK=>?_;have hr:=HUo.out.only hR (by intro hm;have h9:=Hbs.out;rcases List.mem_append.1 hm with h | h <;> first | (have:=h9.2.1 _ h;omega) | (have:=h9.2.2.1 _ h;omega));have a0:=hr.cell (i:=0) rfl;have a1:=hr.cell (i:=1) rfl;go_simp;exact hK _ _ rfl ⟨hRr _,hRs _ _,fun _ _ _ _ h=>h⟩
     refine ⟨zBe 38 (jJ oR) w16.heap.size,zL zBe.stable (by intro x hx hk;simp only [List.mem_cons,List.not_mem_nil,or_false] at hx;rcases hx with rfl | rfl <;> first | (refine zBe.jC (fun z hz=>?_);have h9:=Hbs.out;have:=h9.2.1 z hz;omega;done) | (refine zBe.jC (fun z hz=>?_);have h9:=Hbs.out;have:=h9.2.2.1 z hz;omega;done) | exact Bool.noConfusion (hk.symm.trans (by kernel_rfl:_=true))),fun a w hR hC hf=>?_,?_⟩
     ·obtain ⟨e112,-⟩:=hf;replace e112:a.tmps.getD 112 undef=_:=e112;refine zA rfl fun K hK=>?_;have e112':=e112;rw [Array.getD_eq_getD_getElem?] at e112';go_simp;exact hK _ _ ⟨w.heap.size,rfl,Row.zV _ _ _ _ (by rfl),hR.size⟩ ⟨(Only.alloc w _).mono (by simp),Only.alloc w _,fun i _ _ _ hc=>⟨fun e=>(hc.1 e).zB (Only.alloc w _),fun e=>(hc.2 e).zB (Only.alloc w _)⟩⟩
     refine ⟨SlA jJ 38 2 wb.heap.size (N+1) (yC G ++ [oR]) (blk qd),zL SlA.stable (by intro x hx hk;simp only [List.mem_cons,List.not_mem_nil,or_false] at hx;rcases hx with rfl | rfl <;> first | (exact SlA.zCl;done) | exact Bool.noConfusion (hk.symm.trans (by kernel_rfl:_=true))),fun a w hR hC hf=>?_,?_⟩
     ·obtain ⟨e111,e113,-⟩:=hf;replace e111:a.tmps.getD 111 undef=_:=e111;replace e113:zBe 38 (jJ oR) w16.heap.size (a.tmps.getD 113 undef) w:=e113;refine zA rfl fun K hK=>?_;have rz:=(hC 3 (by simp) (by kernel_rfl)).1 rfl;obtain ⟨v',w',hra,hS,hB⟩:=SlA.run (t:=87) Tryz.underlying87 Tryz.infoOc rfl (by omega) zAI zEf rz Hbs.out.1 (fun z hz=>by have h9:=Hbs.out;have h8:=hR.size;first | (have:=h9.2.1 z hz;omega) | (have:=h9.2.2.1 z hz;omega)) (by have h9:=Hbs.out;have h8:=hR.size;omega) e113 (by omega) (by omega);refine vF (s:=.tmp 111) (x:=.tmp 113) rfl e111 rfl hra ?_
      exact hK _ _ hS ⟨hB.mono (by intro z hz;simp [hz]),hB,fun i hi hne ha hc=>⟨fun e=>absurd e hne,fun e=>zN.jL (hc.2 e) hB (fun z hz hm=>Hbs.out.1 z hm hz)⟩⟩
     apply zF
     ·rintro a w hR hC ⟨(e8:_=_),-⟩;refine zA rfl fun K hK=>?_;go_simp;exact hK _ _ rfl ⟨hRr _,hRs _ _,fun _ _ _ _ h=>h⟩
     apply zF
     ·rintro a w hR hC ⟨(e10:_=_),-⟩;refine zA rfl fun K hK=>?_;go_simp;exact hK _ _ rfl ⟨hRr _,hRs _ _,fun _ _ _ _ h=>h⟩
     apply zF
     ·rintro a w hR hC ⟨(e116:_=_),-⟩;refine zA rfl fun K hK=>?_;have hr:=HCX16.out.only hR (by intro hm;have h9:=Hbs.out;rcases List.mem_append.1 hm with h | h <;> first | (have:=h9.2.1 _ h;omega) | (have:=h9.2.2.1 _ h;omega));have a1:=hr.cell (i:=1) rfl;have a2:=hr.cell (i:=2) rfl;have a3:=hr.cell (i:=3) rfl;rw [Hdx.out] at a1 a2 a3;go_simp;exact hK _ _ rfl ⟨hRr _,hRs _ _,fun _ _ _ _ h=>h⟩
     refine ⟨zBe 31 (zI dx) w16.heap.size,zL zBe.stable (by intro x hx hk;simp only [List.mem_cons,List.not_mem_nil,or_false] at hx;rcases hx with rfl | rfl <;> first | (refine zBe.jC (fun z hz=>?_);have h9:=Hbs.out;have:=h9.2.1 z hz;omega;done) | (refine zBe.jC (fun z hz=>?_);have h9:=Hbs.out;have:=h9.2.2.1 z hz;omega;done) | exact Bool.noConfusion (hk.symm.trans (by kernel_rfl:_=true))),fun a w hR hC hf=>?_,?_⟩
     ·obtain ⟨e117,-⟩:=hf;replace e117:a.tmps.getD 117 undef=_:=e117;refine zA rfl fun K hK=>?_;have e117':=e117;rw [Array.getD_eq_getD_getElem?] at e117';go_simp;exact hK _ _ ⟨w.heap.size,rfl,Row.zV _ _ _ _ (by rfl),hR.size⟩ ⟨(Only.alloc w _).mono (by simp),Only.alloc w _,fun i _ _ _ hc=>⟨fun e=>(hc.1 e).zB (Only.alloc w _),fun e=>(hc.2 e).zB (Only.alloc w _)⟩⟩
     refine ⟨SlA zI 31 3 wb.heap.size (N+1) (G.map Cmd.id ++ [dx]) (blk qo),zL SlA.stable (by intro x hx hk;simp only [List.mem_cons,List.not_mem_nil,or_false] at hx;rcases hx with rfl | rfl <;> first | (exact SlA.zCl;done) | exact Bool.noConfusion (hk.symm.trans (by kernel_rfl:_=true))),fun a w hR hC hf=>?_,?_⟩
     ·obtain ⟨e115,e118,-⟩:=hf;replace e115:a.tmps.getD 115 undef=_:=e115;replace e118:zBe 31 (zI dx) w16.heap.size (a.tmps.getD 118 undef) w:=e118;refine zA rfl fun K hK=>?_;have rz:=(hC 8 (by simp) (by kernel_rfl)).2 rfl;obtain ⟨v',w',hra,hS,hB⟩:=SlA.run (t:=27) Tryz.underlying27 Tryz.infoId rfl (by omega) qD vP rz (fun z hz hz2=>Hbs.out.1 z hz2 hz) (fun z hz=>by have h9:=Hbs.out;have h8:=hR.size;first | (have:=h9.2.1 z hz;omega) | (have:=h9.2.2.1 z hz;omega)) (by have h9:=Hbs.out;have h8:=hR.size;omega) e118 (by omega) (by omega)
      refine vF (s:=.tmp 115) (x:=.tmp 118) rfl e115 rfl hra ?_;exact hK _ _ hS ⟨hB.mono (by intro z hz;simp [hz]),hB,fun i hi hne ha hc=>⟨fun e=>zN.jL (hc.1 e) hB (fun z hz hm=>Hbs.out.1 z hz hm),fun e=>absurd e hne⟩⟩
     refine ⟨SlA jJ 38 2 wb.heap.size (N+1) (yC G ++ [oR]) (blk qd),zL SlA.stable (by intro x hx hk;simp only [List.mem_cons,List.not_mem_nil,or_false] at hx;rcases hx with rfl | rfl <;> first | (exact SlA.zCl;done) | exact Bool.noConfusion (hk.symm.trans (by kernel_rfl:_=true))),fun a w hR hC hf=>?_,?_⟩
     ·obtain ⟨e114,-⟩:=hf;replace e114:SlA jJ 38 2 wb.heap.size (N+1) (yC G ++ [oR]) (blk qd) (a.tmps.getD 114 undef) w:=e114;refine zA rfl fun K hK=>?_;generalize hv114:a.tmps.getD 114 undef=v114 at e114;go_simp;exact hK _ _ e114 ⟨hRr _,hRs _ _,fun _ _ _ _ h=>h⟩
     refine ⟨SlA zI 31 3 wb.heap.size (N+1) (G.map Cmd.id ++ [dx]) (blk qo),zL SlA.stable (by intro x hx hk;simp only [List.mem_cons,List.not_mem_nil,or_false] at hx;rcases hx with rfl | rfl <;> first | (exact SlA.zCl;done) | exact Bool.noConfusion (hk.symm.trans (by kernel_rfl:_=true))),fun a w hR hC hf=>?_,?_⟩
     ·obtain ⟨e119,-⟩:=hf;replace e119:SlA zI 31 3 wb.heap.size (N+1) (G.map Cmd.id ++ [dx]) (blk qo) (a.tmps.getD 119 undef) w:=e119;refine zA rfl fun K hK=>?_;generalize hv119:a.tmps.getD 119 undef=v119 at e119;go_simp;exact hK _ _ e119 ⟨hRr _,hRs _ _,fun _ _ _ _ h=>h⟩
     intro f20 w20 hR20 hf hl20;dsimp only [qE];obtain ⟨e7,e8,-⟩:=hf;replace e7:SlA jJ 38 2 wb.heap.size (N+1) (yC G ++ [oR]) (blk qd) (f20 7) w20:=e7;replace e8:SlA zI 31 3 wb.heap.size (N+1) (G.map Cmd.id ++ [dx]) (blk qo) (f20 8) w20:=e8;obtain ⟨qo2,ko2,e7,ow7,dj7⟩:=e7;obtain ⟨qd2,kd2,e8,ow8,dj8⟩:=e8;rw [e7,e8]
     have hty:∀ z∈blk qo ++ blk qd,∃ t,zHs t∧Ty w16 z t:=fun z hz=>by
      rcases List.mem_append.1 hz with h | h
      ·exact ⟨_,.inl rfl,zN.ty Hown.out.1 z h⟩
      ·exact ⟨_,.inr rfl,zN.ty Hown.out.2 z h⟩
     have HN:Hid (SlC wb.heap.size (N+1) G2 (.slice (some ⟨bb,ob2,none⟩) (N+1) k2) w20∧zN w20 wb.heap.size 38 2 (.slice qo2 (N+1) ko2) (N+1) ((yC G2).flatMap jJ)∧zN w20 wb.heap.size 31 3 (.slice qd2 (N+1) kd2) (N+1) ((G2.map Cmd.id).flatMap zI)∧Only [] wb w20):=Lib.hid ⟨HS16.out.zCZ hR20 hty,by rw [HOs.out.1];exact ow7,by rw [HOs.out.2];exact ow8,(HI.out.2.2.2.2.2.2.zC O16.out).zY hR20 (fun z hz=>by
      rcases List.mem_append.1 hz with h | h
      ·exact (Hbs.out.2.1 z h).1
      ·exact (Hbs.out.2.2.1 z h).1)⟩
     clear e7 e8 ow7 dj7 ow8 dj8 hty hR20 hRr hRt hRd hRs hC0;go_wp2_with fail
     go_meet
     exact ⟨ko2,kd2,qo2,qd2,rfl,rfl,HN⟩
   case rest =>
    clear HI O3 O4 OW4 HCX HAl Hx HVX HC Hdx HB hNN2 hNN3;obtain ⟨ko2,kd2,qo2,qd2,rfl,rfl,HN⟩:=hcut;obtain ⟨wk,rfl⟩:∃ wk,wk=wc:=⟨_,rfl⟩;have HI2:∀ w,Only [] wk w→Hid (GrI wb xs G2 (i+1) N2 k2 ko2 kd2 (some ⟨bb,ob2,none⟩) qo2 qd2 w):=fun w hw=>Lib.hid ⟨HGr.out.2.1,HGr.out.1,HGr.out.2.2.1,HN.out.1.zB hw,HN.out.2.1.zB hw,HN.out.2.2.1.zB hw,HN.out.2.2.2.zC hw⟩;have HIn:=Lib.hid HI2;have hN2i:N2≤i+1:=(by have:=HGr.out.1.len;rw [HGr.out.2.2.1] at this;exact this);clear HI2
    by_cases hj:i < lz
    rotate_left
    ·have hji:¬ ((i:Int) < (lz:Int)):=(by omega);have HE:=HIn.out wk (Only.refl _ _);go_wp2_with fail;refine ⟨⟨i+1,N2,k2,ko2,kd2,_,qo2,qd2,G2,rfl,rfl,rfl,by go_num,by omega,hN2i,HE⟩,?_⟩
     simp [intOf];omega
    have hji:(i:Int) < (lz:Int):=(by omega);obtain ⟨v,hv⟩:∃ v,zs[i]?=some v:=⟨_,List.getElem?_eq_getElem (by rw [HZb.out.1];exact hj)⟩;have hrd:=HZb.out.2.zB HN.out.2.2.2;have hne:zDl zs≠[]:=fun e'=>(by have h9:(zDl zs)[i]?=some (.int .i64 v):=(by unfold zDl;rw [List.getElem?_map,hv];rfl);rw [e'] at h9;cases h9);obtain ⟨bz,oz,rfl,-⟩:=hrd.lt hne;have dv:=hrd.cells i _ (show (zDl zs)[i]?=some (.int .i64 v) by unfold zDl;rw [List.getElem?_map,hv];rfl);rw [Addr.add_lit] at dv;obtain ⟨r,hr⟩:∃ r,v.tmod ((i:Int)+1)=r:=⟨_,rfl⟩;have hr1:=Int.tmod_lt_of_pos v (show (0:Int) < (i:Int)+1 by omega)
    have hr2:=Int.tmod_lt_of_pos (-v) (show (0:Int) < (i:Int)+1 by omega);rw [Int.neg_tmod] at hr2;rw [hr] at hr1 hr2
    obtain ⟨J,hJ,hJi⟩:∃ J:Nat,(r+(i:Int)+1).tmod ((i:Int)+1)=(J:Int)∧J≤i:=by
     have c1:=Int.tmod_nonneg ((i:Int)+1) (show 0≤r+(i:Int)+1 by omega);have c2:=Int.tmod_lt_of_pos (r+(i:Int)+1) (show (0:Int) < (i:Int)+1 by omega);exact ⟨((r+(i:Int)+1).tmod ((i:Int)+1)).toNat,by omega,by omega⟩
    have hz1:¬ ((i:Int)+1=0):=(by omega);have hz2:((i:Int)+1 == 0)=false:=beq_eq_false_iff_ne.2 hz1;obtain ⟨y,hy⟩:∃ y,fs[J]?=some y:=⟨_,List.getElem?_eq_getElem (by rw [HF.out.1];omega)⟩;have hym:=List.mem_of_getElem? hy;have hldy:=yL (HF.out.2.1.zB HN.out.2.2.2) hy;obtain ⟨VY,hVY⟩:∃ v,lmV y=v:=⟨_,rfl⟩;rw [hVY] at hldy;have Hldy:=Lib.hid hldy;have hJm:(J:Int) < (mm:Int):=by omega
    have hseen:xL G2 y.x.id < N2:=by
     rw [← HGr.out.2.2.1];exact HGr.out.1.seen J y.x (by omega) (by rw [← Hxs.out.1,List.getElem?_map,hy];rfl)
    have hpt:Calls Tryz.prog 44 #[.slice (some ⟨bb,ob2,none⟩) N2 k2,VY] wk fun e w'=>∃ v N3,e=.returned (.tuple #[v,.int .i64 ((vZ G2 y.x).2:Nat),.nilIface])∧SlC wk.heap.size N3 (vZ G2 y.x).1 v w'∧Only [] wk w':=by
     obtain ⟨q9,k9,bl9,h1,h2,h3,h4,h5⟩:=HN.out.1
     cases h1
     have h9:=zAw (some ⟨bb,ob2,none⟩) N2 k2 bl9 y wk h2 (by omega) h4.view.2.2.1 (fun m hm=>⟨(h5 m hm).at,by
      have e1:m.x∈G2:=(by rw [← h3];exact List.mem_map_of_mem hm);have e2:=HGr.out.1.sub _ e1;rw [← Hxs.out.1] at e2;obtain ⟨u,hu,e⟩:=List.mem_map.1 e2
      rw [← e];have:=(HF.out.2.2.2.1 u hu).2;omega⟩) ⟨(HF.out.2.2.2.1 y hym).1.zB HN.out.2.2.2,by have:=(HF.out.2.2.2.1 y hym).2;omega⟩
     rwa [hVY,h3] at h9
    rw [zAB (by rw [HGr.out.2.2.1];exact hseen)] at hpt;have Hpt:=Lib.hid hpt;clear hv hrd hne hpt hseen hy hym hldy hVY
    go_wp2_with (first | ((with_reducible show wpList _ _ _ _ _ _);refine jG (ty:=36) (x:=.tmp 142) rfl rfl rfl Hldy.out ?_))
    refine Hpt.out.mono ?_;rintro e w30 ⟨v3,N3,rfl,hS3,o30⟩;obtain ⟨q9,k9,bl9,rfl,h2,h3,-,-⟩:=hS3
    obtain rfl:N3=N2:=by
     have h9:=congrArg List.length h3;rw [List.length_map,HGr.out.2.2.1] at h9;omega
    have HE:=HIn.out w30 o30;clear h2 h3 o30 Hpt Hldy dv hr hJ hz1 hz2 hJm;go_wp2_with fail;refine ⟨⟨i+1,N3,k2,ko2,kd2,_,qo2,qd2,G2,rfl,rfl,rfl,by go_num,by omega,hN2i,HE⟩,?_⟩
    simp [intOf];omega
  ·obtain rfl:i=mm:=(by omega);have hlI:¬ ((i:Int) < (i:Int)):=by omega
   obtain ⟨al,hal,hmal,hal2,hal3,hkl,hkl2⟩:∃ al:List zS,al.length=N∧al.map zS.x=G∧Rd wq ql (al.flatMap zK)∧(∀ m∈al,jS wq m)∧N≤kl∧kl≤9223372036854775807:=by
    obtain ⟨q9,k9,al,h1,h2,h3,h4,h5⟩:=HI.out.2.2.2.1
    cases h1
    exact ⟨al,h2,h3,h4.view.2.2.1,fun m hm=>(h5 m hm).at,h4.view.2.2.2.2.1,h4.view.2.2.2.2.2.1⟩
   have HAl:Hid (al.length=N∧al.map zS.x=G∧Rd wq ql (al.flatMap zK)∧(∀ m∈al,jS wq m)∧N≤kl∧kl≤9223372036854775807∧zGS al):=Lib.hid ⟨hal,hmal,hal2,hal3,hkl,hkl2,fun m hm=>by
    have h1:m.x∈G:=(by rw [← hmal];exact List.mem_map_of_mem hm);have h2:=HI.out.2.1.sub _ h1;rw [← Hxs.out.1] at h2;obtain ⟨y,hy,e⟩:=List.mem_map.1 h2
    rw [← e];exact HF.out.2.2.2.2 y hy⟩
   have HRo:=Lib.hid HI.out.2.2.2.2.1.view.2.2.1;have HRd:=Lib.hid HI.out.2.2.2.2.2.1.view.2.2.1;have HNG:=Lib.hid HI.out.2.2.1;clear hal hmal hal2 hal3 hkl hkl2;go_wp2_with fail
   go_loopw [160] (fun a wl=>∃ j:Nat,a=.int .i64 (j:Int)∧j≤N∧Hid (Only [] wq wl)) (fun a _=>N - (intOf a).toNat)
   case atStart=>exact ⟨0,rfl,Nat.zero_le _,Lib.hid (Only.refl _ _)⟩
   case round =>
    obtain ⟨j,rfl,hj,HO⟩:=hrel
    by_cases hjl:j < N
    ·obtain ⟨x,hx⟩:∃ x,G[j]?=some x:=⟨_,List.getElem?_eq_getElem (by rw [HNG.out];exact hjl)⟩;obtain ⟨dx,hdx⟩:∃ d,x.id=d:=⟨_,rfl⟩;have hid1:(G.map Cmd.id)[j]?=some dx:=(by rw [List.getElem?_map,hx,← hdx];rfl);have hrd:=HRd.out.zB HO.out;have hne:(G.map Cmd.id).flatMap zI≠[]:=fun e'=>(by have:=flat_get zI 3 qD (G.map Cmd.id) _ dx 0 hid1 (by omega);rw [e'] at this;cases this);obtain ⟨bd,od,rfl,-⟩:=hrd.lt hne;have d0:=zP qD hrd hid1 (r:=0) rfl;have d1:=zP qD hrd hid1 (r:=1) rfl;have d2:=zP qD hrd hid1 (r:=2) rfl
     rw [Addr.add_lit,← Nat.add_assoc] at d0 d1 d2;rw [Nat.add_zero] at d0;have hix:xL G dx=j:=(by rw [← hdx];exact HI.out.2.1.uniq j x hx);obtain ⟨oR,hoR⟩:∃ o,(zDN (G.take (j+1))).2=o:=⟨_,rfl⟩;have hob:(yC G)[j]?=some oR:=(by rw [zIH (by rw [HNG.out];exact hjl),hoR]);have hne2:(yC G).flatMap jJ≠[]:=fun e'=>(by have:=flat_get jJ 2 zAI (yC G) _ oR 0 hob (by omega);rw [e'] at this;cases this);have hro:=HRo.out.zB HO.out;obtain ⟨bo,oo,rfl,-⟩:=hro.lt hne2
     have HQ:Hid (∀ w,Only [] wq w→w.cell? ⟨bo,oo+j * 2,none⟩=some (.int .i64 oR.code)∧w.cell? ⟨bo,oo+j * 2+1,none⟩=some (.string (str oR.etag))):=Lib.hid (fun w hw=>by
      have e0:=zP zAI (HRo.out.zB hw) hob (r:=0) rfl;have e1:=zP zAI (HRo.out.zB hw) hob (r:=1) rfl;rw [Addr.add_lit,← Nat.add_assoc] at e0 e1
      exact ⟨e0,e1⟩)
     have HC1:Hid (∀ w,Only [] wq w→Calls Tryz.prog 33 #[.slice ql N kl,idV dx] w fun e w'=>e=.returned (.tuple #[xM oR,.nilIface])∧Only [] w w'):=Lib.hid (fun w hw=>by
      have h9:=zCB ql N kl al dx w HAl.out.1 HAl.out.2.2.2.2.1 HAl.out.2.2.2.2.2.1 (HAl.out.2.2.1.zB hw) (fun m hm=>(HAl.out.2.2.2.1 m hm).zB hw) HAl.out.2.2.2.2.2.2 (by rw [HAl.out.2.1,hix];exact hjl)
      rwa [HAl.out.2.1,hix,hoR] at h9)
     have HC3:Hid (∀ w,Only [] wq w→Calls Tryz.prog 45 #[.slice ql N kl,idV dx] w fun e w'=>e=.returned (.tuple #[.int .i64 ((j+1:Nat):Int),.nilIface])∧Only [] w w'):=Lib.hid (fun w hw=>by
      have h9:=zCs ql N kl al dx w HAl.out.1 (by omega) (HAl.out.2.2.1.zB hw) (by rw [HAl.out.2.1,hix];exact hjl)
      rwa [HAl.out.2.1,hix] at h9)
     obtain ⟨sx,hsx⟩:∃ s:Int,((j+1:Nat):Int)=s:=⟨_,rfl⟩;rw [hsx] at HC3;have hsx2:(j:Int)+1=sx:=(by omega);have Hsx:=Lib.hid hsx2;clear hx hdx hid1 hrd hne hix hoR hob hne2 hro hsx hsx2
     go_upto_region 31 with (fail)
     obtain ⟨w11,hw11⟩:∃ w11,w11=wr.alloc (.cells #[.int .i64 dx.node,.int .i64 dx.boot,.int .i64 dx.seq] 31):=⟨_,rfl⟩;have oa:Only [] wr w11:=(by rw [hw11];exact Only.alloc _ _);have sa:w11.heap.size=wr.heap.size+1:=(by rw [hw11];simp);have ra:Row w11 wr.heap.size 31 [.int .i64 dx.node,.int .i64 dx.boot,.int .i64 dx.seq]:=(by rw [hw11];exact Row.zV _ _ _ _ rfl);rw [← hw11];have OW:=Lib.hid (HO.out.zC oa);have RI:=Lib.hid ra;have b0:=ra.cell (i:=0) rfl;have b1:=ra.cell (i:=1) rfl;have b2:=ra.cell (i:=2) rfl;have h1:=HC1.out w11 OW.out;unfold idV at h1
     have H1:=Lib.hid h1;obtain ⟨X1,hX1⟩:∃ X,wr.heap.size=X:=⟨_,rfl⟩;rw [hX1] at RI b0 b1 b2 ⊢;clear h1 hw11 oa sa ra d0 d1 d2 hX1;go_wp2_with fail;refine H1.out.mono ?_;rintro e w12 ⟨rfl,o12⟩;rw [show xM oR=.agg #[.int .i64 oR.code,.string (str oR.etag)] from rfl];clear H1 b0 b1 b2
     go_upto_region 32 with (fail)
     obtain ⟨w13,hw13⟩:∃ w13,w13=w12.alloc (.cells #[.int .i64 oR.code,.string (str oR.etag)] 38):=⟨_,rfl⟩;have oa:Only [] w12 w13:=(by rw [hw13];exact Only.alloc _ _);have sa:w13.heap.size=w12.heap.size+1:=(by rw [hw13];simp);have ra:Row w13 w12.heap.size 38 [.int .i64 oR.code,.string (str oR.etag)]:=(by rw [hw13];exact Row.zV _ _ _ _ rfl);rw [← hw13];have OW13:=Lib.hid (OW.out.zC (o12.zC oa));have ri:=RI.out.zB (o12.zC oa);have RA:=Lib.hid ra;have b0:=ri.cell (i:=0) rfl;have b1:=ri.cell (i:=1) rfl;have b2:=ri.cell (i:=2) rfl;have h1:=HC3.out w13 OW13.out
     unfold idV at h1;have H1:=Lib.hid h1;obtain ⟨X2,hX2⟩:∃ X,w12.heap.size=X:=⟨_,rfl⟩;rw [hX2] at RA ⊢;clear h1 hw13 oa sa ra o12 ri hX2;go_wp2_with fail;refine H1.out.mono ?_;rintro e w14 ⟨rfl,o14⟩;have OW14:=Lib.hid (OW13.out.zC o14);have RA14:=Lib.hid (RA.out.zB o14);have hq:=fun w=>zJf 9998 oR oR w;unfold xM at hq;simp only [decide_eq_true (rfl:oR=oR)] at hq;have hjj:=Hsx.out;clear H1 b0 b1 b2 o14 OW13 RA HC1 HC3
     go_upto_region 33 with (fail)
     refine qY (Only []) [[(24,none)],[(177,some 0)],[(178,some 0)],[(179,some 0),(26,none)],[(179,some 1),(180,some 0)],[(179,some 2),(181,some 0)],[(182,some 0)],[(183,some 0),(23,none)],[(183,some 1),(7,none)],[(183,some 2),(21,none)],[(183,some 3),(185,some 1),(186,some 0)],[(183,some 4),(187,some 0)],[(183,some 5),(184,some 4),(188,some 0)],[(183,some 6),(189,some 0)],[(190,some 0)],[(191,some 0),(25,none)],[(191,some 1),(21,none)],[(191,some 2),(193,some 0)],[(191,some 3),(192,some 2),(194,some 0)],[(191,some 4),(195,some 0)]] [(196,0)] [none,none,none,none,none,none,none,none,none,none,none,none,none,none,none,none,none,none,none,none,none,none,none,none,none,none,none,none,none,none,none,none,none,none,none,none,none,none,none,none,none,none,none,none,none,none,none,none,none,none,none,none,none,none,none,none,none,none,none,none,none,none,none,none,none,none,none,none,none,none,none,none,none,none,none,none,none,none,none,none,none,none,none,none,none,none,none,none,none,none,none,none,none,none,none,none,none,none,none,none,none,none,none,none,none,none,none,none,none,none,none,none,none,none,none,none,none,none,none,none,none,none,none,none,none,none,none,none,none,none,none,none,none,none,none,none,none,none,none,none,none,none,none,none,none,none,none,none,none,none,none,none,none,none,none,none,none,none,none,none,none,none,none,none,none,none,none,none,none,none,none,none,none,none,none,none,none,some 177,some 178,some 179,some 180,some 181,some 182,some 183,some 184,some 185,some 186,some 187,some 188,some 189,some 190,some 191,some 192,some 193,some 194,some 195,some 196,none,none,none,none,none,none] (by kernel_rfl) rfl (by kernel_rfl) (fun _=>Only.refl _ _) (fun _ _ _ h k=>h.zC k) (Only.drew _) (by kernel_rfl) ?_
     apply zJ
     ·rintro a w hR ⟨(e24:_=_),-⟩;refine zA rfl fun K hK=>?_;go_simp;exact hK _ _ rfl (Only.refl _ _)
     apply zJ
     ·rintro a w hR ⟨(e177:_=_),-⟩;refine zA rfl fun K hK=>?_;go_simp;exact hK _ _ rfl (Only.refl _ _)
     apply zJ
     ·rintro a w hR ⟨(e178:_=_),-⟩;refine zA rfl fun K hK=>?_;go_simp;exact hK _ _ rfl (Only.refl _ _)
     apply zJ
     ·rintro a w hR ⟨(e179:_=_),(e26:_=_),-⟩;refine zX rfl rfl e179 fun K hK=>?_;clear e179;go_simp;exact hK _ _ rfl (Only.refl _ _)
     apply zJ
     ·rintro a w hR ⟨(e179:_=_),(e180:_=_),-⟩;refine zX rfl rfl e179 fun K hK=>?_;clear e179;go_simp;exact hK _ _ rfl (Only.refl _ _)
     apply zJ
     ·rintro a w hR ⟨(e179:_=_),(e181:_=_),-⟩;refine zA rfl fun K hK=>?_;go_simp;exact hK _ _ rfl (Only.refl _ _)
     apply zJ
     ·rintro a w hR ⟨(e182:_=_),-⟩;refine zA rfl fun K hK=>?_;go_simp;exact hK _ _ rfl (Only.refl _ _)
     apply zJ
     ·rintro a w hR ⟨(e183:_=_),(e23:_=_),-⟩;refine zX rfl rfl e183 fun K hK=>?_;clear e183;have hr:=RA14.out.zB hR;have a0:=hr.cell (i:=0) rfl;have a1:=hr.cell (i:=1) rfl;go_simp;exact hK _ _ rfl (Only.refl _ _)
     apply zJ
     ·rintro a w hR ⟨(e183:_=_),(e7:_=_),-⟩;refine zX rfl rfl e183 fun K hK=>?_;clear e183;go_simp;exact hK _ _ rfl (Only.refl _ _)
     apply zJ
     ·rintro a w hR ⟨(e183:_=_),(e21:_=_),-⟩;refine zX rfl rfl e183 fun K hK=>?_;clear e183;go_simp;exact hK _ _ rfl (Only.refl _ _)
     apply zJ
     ·rintro a w hR ⟨(e183:_=_),(e185:_=_),(e186:_=_),-⟩;refine zX rfl rfl e183 fun K hK=>?_;clear e183;go_simp;exact hK _ _ rfl (Only.refl _ _)
     apply zJ
     ·rintro a w hR ⟨(e183:_=_),(e187:_=_),-⟩;refine zX rfl rfl e183 fun K hK=>?_;clear e183;obtain ⟨a0,a1⟩:=HQ.out w (OW14.out.zC hR);go_simp;exact hK _ _ rfl (Only.refl _ _)
     apply zJ
     ·rintro a w hR ⟨(e183:_=_),(e184:_=_),(e188:_=_),-⟩;refine zX rfl rfl e183 fun K hK=>?_;clear e183;go_simp;exact hK _ _ rfl (Only.refl _ _)
     apply zJ
     ·rintro a w hR ⟨(e183:_=_),(e189:_=_),-⟩;refine zA rfl fun K hK=>?_;go_simp;exact hK _ _ rfl (Only.refl _ _)
     apply zJ
     ·rintro a w hR ⟨(e190:_=_),-⟩;refine zA rfl fun K hK=>?_;go_simp;exact hK _ _ rfl (Only.refl _ _)
     apply zJ
     ·rintro a w hR ⟨(e191:_=_),(e25:_=_),-⟩;refine zX rfl rfl e191 fun K hK=>?_;clear e191;go_simp;exact hK _ _ rfl (Only.refl _ _)
     apply zJ
     ·rintro a w hR ⟨(e191:_=_),(e21:_=_),-⟩;refine zX rfl rfl e191 fun K hK=>?_;clear e191;go_simp;exact hK _ _ rfl (Only.refl _ _)
     apply zJ
     ·rintro a w hR ⟨(e191:_=_),(e193:_=_),-⟩;refine zX rfl rfl e191 fun K hK=>?_;clear e191;have hw17:IntKind.i64.wrap ((j:Int)+1)=sx:=(by rw [IntKind.wrap_i64,← Hsx.out];omega);have hw17b:IntKind.i64.wrap sx=sx:=(by rw [IntKind.wrap_i64];omega);go_simp;exact hK _ _ rfl (Only.refl _ _)
     apply zJ
     ·rintro a w hR ⟨(e191:_=_),(e192:_=_),(e194:_=_),-⟩;refine zX rfl rfl e191 fun K hK=>?_;clear e191;go_simp;exact hK _ _ rfl (Only.refl _ _)
     apply zJ
     ·rintro a w hR ⟨(e191:_=_),(e195:_=_),-⟩;refine zA rfl fun K hK=>?_;go_simp;exact hK _ _ rfl (Only.refl _ _)
     intro f33 w33 hR33 hf;dsimp only [qE];obtain ⟨e196,-⟩:=hf;replace e196:f33 196=_:=e196;rw [e196];have OW33:=Lib.hid (OW14.out.zC hR33);clear hR33 hq;go_wp2_with fail;refine ⟨⟨j+1,by go_num,by omega,OW33⟩,?_⟩
     simp [intOf];omega
    ·obtain rfl:j=N:=(by omega);have hNN:((j:Int) == (j:Int))=true:=beq_self_eq_true _;go_wp2_with fail
     go_ret
     exact ⟨rfl,HOb.out.zC (HI.out.2.2.2.2.2.2.zC HO.out)⟩
end
end Go.Proofs.YtfeglnpmpgipiaaGreatDoor
