/- GrwPk, part 17: InsBkW, SetBkW, CatMakeW, CatExpW. -/
import Derived.Test.YtfeglnpmpgipiaaGreatDoorGrwPk09
import Derived.Test.YtfeglnpmpgipiaaGreatDoorGrwPk11
import Derived.Test.YtfeglnpmpgipiaaGreatDoorGrwPk12
import Derived.Test.YtfeglnpmpgipiaaGreatDoorGrwPk13
import Derived.Test.YtfeglnpmpgipiaaGreatDoorGrwPk14
import Derived.Test.YtfeglnpmpgipiaaGreatDoorGrwPk15
import Derived.Test.YtfeglnpmpgipiaaGreatDoorGrwPk16
import Derived.Lib.Overlaps
set_option linter.unusedVariables false
set_option maxRecDepth 100000
set_option linter.unusedSimpArgs false
namespace Go.Proofs.YtfeglnpmpgipiaaGreatDoor
section
open Go.RowKit
set_option maxHeartbeats 8000000 in
theorem zHd (p:Option Addr) (n c:Nat) (xs:List LBk) (x:LBk) (i vb base:Nat) (w:World) (hown:zN w base 60 5 (.slice p n c) n (xs.flatMap zD)) (hbase:base≤w.heap.size) (hl:xs.length=n) (hin:i≤n) (hnb:n≤1000000) (hv:Row w vb 60 (zD x)) (hvp:vb ∉ blk p) :
  Calls Tryz.prog 127 #[.slice p n c,.int .i64 (i:Int),.slice (some ⟨vb,0,none⟩) 1 1] w fun e' w'=>∃ p' c',e'=.returned (.slice p' (n+1) c')∧zN w' base 60 5 (.slice p' (n+1) c') (n+1) ((xs.take i ++ x :: xs.drop i).flatMap zD)∧Only (blk p) w w'∧∀ z∈blk p',z∈blk p∨w.heap.size≤z:=by
 generalize hYS:xs.take i ++ x :: xs.drop i=YS
 by_cases hi:i=n
 ·subst hi;obtain ⟨p',c',w2,hr,o2,h2⟩:=xN (P:=Tryz.prog) (t:=26) (ty:=26) (m:=1) (c:=1) (q:=some ⟨vb,0,none⟩) (news:=zD x) w Tryz.underlying26 Tryz.infoLB rfl (by omega) hown hv.rd0 (by rw [zQ]) (by simp) (xP x) (by omega) (by omega) hbase;have hat:=xR (P:=Tryz.prog) (t:=26) (ty:=26) (m:=1) (c:=1) (q:=some ⟨vb,0,none⟩) (news:=zD x) w Tryz.underlying26 Tryz.infoLB rfl (by omega) hown hv.rd0 (by rw [zQ]) (by simp) (xP x) (by omega) (by omega) hr;have Hr:=Lib.hid hr
  have HE:Hid (zN w2 base 60 5 (.slice p' (i+1) c') (i+1) (YS.flatMap zD)∧Only (blk p) w w2∧∀ z∈blk p',z∈blk p∨w.heap.size≤z):=Lib.hid ⟨by
   rw [← hYS,List.take_of_length_le (by omega),List.drop_eq_nil_of_le (by omega),List.flatMap_append,List.flatMap_cons,List.flatMap_nil,List.append_nil];exact o2,h2,fun z hz=>by
   rcases hat with rfl | ⟨g,rfl,hg⟩
   ·exact .inl hz
   ·simp [blk] at hz;subst hz;exact .inr hg⟩
  clear hr o2 h2 hat hown hv hvp hbase hYS
  go_enter Tryz.func127,Tryz.ntmps127
  go_wp2_with (first | (at_builtin;refine qP (s:=.tmp 23) (x:=.tmp 24) rfl rfl rfl rfl Hr.out ?_))
  all_goals
   go_ret
   exact ⟨p',c',rfl,HE.out⟩
 ·have hlt:i < n:=(by omega);obtain ⟨g,rfl,hgb,hgl⟩:=hown.at (by omega);have hvw:=hown.view;have hold:Rd w (some ⟨g,0,none⟩) ((xs.take i).flatMap zD):=zBw zQ hvw.2.2.1 i
  have hsrc:∀ W:World,Only [] w W→∀ j v,((xs.drop i).flatMap zD)[j]?=some v→W.cell? ((⟨g,i * 5,none⟩:Addr).add j)=some v:=fun W ho j v hj=>by
   rw [← xU zD 5 zQ,List.getElem?_drop] at hj;have:=(hvw.2.2.1.zB ho).cells _ _ hj;rw [Addr.add_lit] at this ⊢;rw [Nat.zero_add] at this;exact this
  have hA:((xs.take i).flatMap zD).length=i * 5:=(by rw [qR zD 5 zQ,List.length_take];congr 1;omega);have hB:((xs.drop i).flatMap zD).length=(n - i) * 5:=(by rw [qR zD 5 zQ,List.length_drop,hl]);have hsz:(Tryz.prog.info? 60).map (·.size)=some 5:=(by kernel_rfl);have h1B:∀ v∈(xs.drop i).flatMap zD,v.oneCell'=true:=fun v hv=>vD zD xP hv;have hxl:=zQ x;have hgv:g≠vb:=fun e1=>hvp (by simp [blk,e1]);have hi0:¬ ((i:Int)=(n:Int)):=(by omega);have hq0:((i:Int) == (n:Int))=false:=beq_eq_false_iff_ne.2 hi0
  have hw1:IntKind.i64.wrap ((n:Int)+1)=(n:Int)+1:=(by rw [IntKind.wrap_i64];omega);have hw2:IntKind.i64.wrap ((i:Int)+1)=(i:Int)+1:=(by rw [IntKind.wrap_i64];omega);have hini:(i:Int)≤(n:Int):=(by omega);have hvsrc:∀ W:World,Row W vb 60 (zD x)→∀ j v,(zD x)[j]?=some v→W.cell? ((⟨vb,0,none⟩:Addr).add j)=some v:=fun W r j v hj=>by rw [Addr.add_lit,Nat.zero_add];exact r.cell hj
  by_cases hroom:n+1≤c
  ·-- room: in place
   obtain ⟨rest,hrow,hlen,hnc,hcm,hgB,hA0⟩:=hown.row;obtain ⟨L,hL⟩:∃ L,L=xs.flatMap zD ++ rest:=⟨_,rfl⟩;rw [← hL] at hrow hlen;have hAt:L.take (i * 5)=(xs.take i).flatMap zD:=(by rw [hL,List.take_append_of_le_length (by rw [hA0];exact Nat.mul_le_mul_right _ hin),yI zD 5 zQ]);have e1:(i+1) * 5=i * 5+5:=Nat.succ_mul i 5;have hnk:i * 5+5+(n - i) * 5=(n+1) * 5:=(by rw [← e1,← Nat.add_mul];congr 1;omega);have hcK:=Nat.mul_le_mul_right 5 hroom
   have hsrcL:∀ W:World,Row W g 60 L→∀ j v,((xs.drop i).flatMap zD)[j]?=some v→W.cell? ((⟨g,i * 5,none⟩:Addr).add j)=some v:=fun W r j v hj=>by
    rw [Addr.add_lit];refine r.cell ?_;have hj1:=(List.getElem?_eq_some_iff.1 hj).1;have hik:=Nat.mul_le_mul_right 5 hin;have hdd:i * 5+(n - i) * 5=n * 5:=(by rw [← Nat.add_mul];congr 1;omega);rw [hL,List.getElem?_append_left (by rw [hA0];omega),← List.getElem?_drop,xU zD 5 zQ];exact hj
   have hcp1:=fun (W:World) (r:Row W g 60 L) (ty:TypeId) (dl dc sl sc:Nat) (hm:Nat.min sl dl=n - i)=>yG (P:=Tryz.prog) (dT:=26) (sT:=26) (ty:=ty) W (dLen:=dl) (dCap:=dc) (sLen:=sl) (sCap:=sc) (m:=n - i) (o:=(i+1) * 5) (a:=⟨g,i * 5,none⟩) Tryz.underlying26 hsz r hm hB (hsrcL W r) (by rw [hB,hlen];omega) h1B;have hcp2:=fun (W:World) (r:Row W g 60 (L.take ((i+1) * 5) ++ (xs.drop i).flatMap zD ++ L.drop ((i+1) * 5+((xs.drop i).flatMap zD).length))) (rx:Row W vb 60 (zD x)) (ty:TypeId) (dl dc:Nat) (hm:Nat.min 1 dl=1)=>yG (P:=Tryz.prog) (dT:=26) (sT:=26) (ty:=ty) W (dLen:=dl) (dCap:=dc) (sLen:=1) (sCap:=1) (m:=1) (o:=i * 5) (a:=⟨vb,0,none⟩) Tryz.underlying26 hsz r hm (by rw [hxl]) (hvsrc W rx) (by rw [hxl];simp only [List.length_append,List.length_take,List.length_drop];omega) (xP x)
   have hfin:=zFA hA hxl hB (R:=L) (by rw [hlen];omega) hAt
   have hov:∀ lb cb,(callFunc 145 #[.slice (some ⟨vb,0,none⟩) 1 1,.slice (some ⟨g,(i+1) * 5,none⟩) lb cb]).run Tryz.prog w=.ok (.value (.bool false)) w:=fun lb cb=>by
    rw [run_callFunc_extern Tryz.func145 (by kernel_rfl) (by kernel_rfl) (by kernel_rfl) (e:=Extern.SlicesOverlaps.overlaps #[26,26] #[4]) (by kernel_rfl),
     Lib.run_overlaps_apart w 26 4 60 Tryz.underlying26 5 (fun w=>by unfold sizeOf typeInfo;obtain ⟨ii,hii,-,hs2,-⟩:=info_partsK Tryz.infoLB;simp [hii,hs2]) ⟨vb,0,none⟩ ⟨g,(i+1) * 5,none⟩ 1 1 lb cb (fun e'=>hgv e'.symm) 60 60 _ _ (vH hv) (vH hrow) (by rw [List.size_toArray,hlen];omega) (hv.free 0) (hv.free _)]
    rfl
   have Hcp1:=Lib.hid hcp1;have Hcp2:=Lib.hid hcp2;have HF:Hid (base≤g∧n+1≤c∧c≤9223372036854775807∧L.length=c * 5∧xs.length=n∧i * 5+5+(n - i) * 5=(n+1) * 5∧(n+1) * 5≤c * 5∧((xs.drop i).flatMap zD).length=(n - i) * 5∧((xs.take i).flatMap zD).length=i * 5):=Lib.hid ⟨hgB,hroom,hcm,hlen,hl,hnk,hcK,hB,hA⟩;have Hfin:=Lib.hid hfin;have HYS:=Lib.hid hYS;have Hr0:=Lib.hid hrow;have Hv0:=Lib.hid hv;have Hgv:=Lib.hid hgv;have hroomI:(n:Int)+1≤(c:Int):=(by omega);have hroomJ:¬ (c:Int) < (n:Int)+1:=by omega
   have htn:((i:Int)+1).toNat=i+1:=(by omega);have htn2:((n:Int)+1).toNat=n+1:=(by omega);have hc1:¬ c=i+1:=(by omega);have hc0:¬ c=i:=(by omega);have hi01:(0:Int)≤(i:Int)+1:=(by omega);have hin1:(i:Int)+1≤(n:Int)+1:=(by omega);have hin2:(i:Int)≤(n:Int)+1:=(by omega);have hn01:(0:Int)≤(n:Int)+1:=(by omega);clear hYS hcp1 hcp2 hfin hL hAt hA0 hgB hcm hlen hnk hcK hrow hsrcL hold hsrc hA hB hown hv hvsrc h1B hsz hxl e1 hvp hgv hvw
   go_enter Tryz.func127,Tryz.ntmps127
   go_upto_region 15 with (simp only [hov])
   clear hov;have hRr:∀ x,(Only [g]) x x:=fun x=>Only.refl _ _;have hRt:∀ x b e,(Only [g]) x b→(Only [g]) b e→(Only [g]) x e:=fun _ _ _ h k=>h.trans k (fun _ h _=>h);have hRd:(Only [g]) w w.drew:=(Only.drew _).mono (by simp)
   have hRs:∀ j w,zZ [(8,Only [g])] j w w:=zZ.refl (by
    intro x hx w;simp only [List.mem_cons,List.not_mem_nil,or_false] at hx
    rcases hx with rfl
    exact Only.refl _ _)
   have hC0:∀ d∈[8],(fun (_:Nat) (a:World)=>Row a g 60 L) d w.drew:=fun _ _=>Hr0.out.zB (Only.drew _);refine zU (Only [g]) (zZ [(8,Only [g])]) (fun (_:Nat) (a:World)=>Row a g 60 L) [8] [[(0,none)],[(1,none)],[(7,none)],[(70,some 1),(71,some 0)],[(69,some 3),(72,some 0)],[(0,none)],[(1,none)],[(74,some 1),(75,some 0)],[(73,some 3),(76,some 0)]] [] [0] [none,none,none,none,none,none,none,none,none,none,none,none,none,none,none,none,none,none,none,none,none,none,none,none,none,none,none,none,none,none,none,none,none,none,none,none,none,none,none,none,none,none,none,none,none,none,none,none,none,none,none,none,none,none,none,none,none,none,none,none,none,none,none,none,none,none,none,none,none,some 69,some 70,some 71,some 72,some 73,some 74,some 75,some 76,some 77,none,none,none,none,none,none,none,none,none,none,none,none,none,none,none,none,none] (by kernel_rfl) rfl (by kernel_rfl) hRr hRt hRs hRd hC0 (by kernel_rfl) (by kernel_rfl) ?_
   apply zF
   ·rintro a w hR hC ⟨(e0:_=_),-⟩;refine zA rfl fun K hK=>?_;go_simp;exact hK _ _ rfl ⟨hRr _,hRs _ _,fun _ _ _ _ h=>h⟩
   apply zF
   ·rintro a w hR hC ⟨(e1:_=_),-⟩;refine zA rfl fun K hK=>?_;go_simp;exact hK _ _ rfl ⟨hRr _,hRs _ _,fun _ _ _ _ h=>h⟩
   apply zF
   ·rintro a w hR hC ⟨(e7:_=_),-⟩;refine zA rfl fun K hK=>?_;go_simp;exact hK _ _ rfl ⟨hRr _,hRs _ _,fun _ _ _ _ h=>h⟩
   apply zF
   ·rintro a w hR hC ⟨(e70:_=_),(e71:_=_),-⟩;refine zA rfl fun K hK=>?_;go_simp;exact hK _ _ rfl ⟨hRr _,hRs _ _,fun _ _ _ _ h=>h⟩
   apply zF
   ·rintro a w hR hC ⟨(e69:_=_),(e72:_=_),-⟩;refine zA rfl fun K hK=>?_;go_simp;exact hK _ _ rfl ⟨hRr _,hRs _ _,fun _ _ _ _ h=>h⟩
   apply zF
   ·rintro a w hR hC ⟨(e0:_=_),-⟩;refine zA rfl fun K hK=>?_;go_simp;exact hK _ _ rfl ⟨hRr _,hRs _ _,fun _ _ _ _ h=>h⟩
   apply zF
   ·rintro a w hR hC ⟨(e1:_=_),-⟩;refine zA rfl fun K hK=>?_;go_simp;exact hK _ _ rfl ⟨hRr _,hRs _ _,fun _ _ _ _ h=>h⟩
   apply zF
   ·rintro a w hR hC ⟨(e74:_=_),(e75:_=_),-⟩;refine zA rfl fun K hK=>?_;go_simp;exact hK _ _ rfl ⟨hRr _,hRs _ _,fun _ _ _ _ h=>h⟩
   refine ⟨qH g 60 (L.take ((i+1) * 5) ++ (xs.drop i).flatMap zD ++ L.drop ((i+1) * 5+((xs.drop i).flatMap zD).length)),zL qH.stable (by intro x hx hk;simp only [List.mem_cons,List.not_mem_nil,or_false] at hx;rcases hx with rfl;exact Bool.noConfusion (hk.symm.trans (by kernel_rfl:_=true))),fun a w hR hC hf=>?_,?_⟩
   ·obtain ⟨e73,e76,-⟩:=hf;replace e73:a.tmps.getD 73 undef=_:=e73;replace e76:a.tmps.getD 76 undef=_:=e76;refine zA rfl fun K hK=>?_;have rz:Row w g 60 L:=hC 8 (by simp) (by kernel_rfl);have hst:=Only.setRow w g ((L.take ((i+1) * 5) ++ (xs.drop i).flatMap zD ++ L.drop ((i+1) * 5+((xs.drop i).flatMap zD).length))).toArray;refine yV (s:=.tmp 73) (x:=.tmp 76) rfl e73 e76 (Hcp1.out w rz _ _ _ _ _ (by simp only [Nat.min_def];split <;> omega)) ?_;exact hK _ _ (rz.setRow _) ⟨hst,hst,fun i hi hne ha hc=>absurd hi (by simp;omega)⟩
   intro f15 w15 hR15 hf hl15;dsimp only [qE];obtain ⟨l8,-⟩:=hl15;replace l8:∃ v,(qH g 60 (L.take ((i+1) * 5) ++ (xs.drop i).flatMap zD ++ L.drop ((i+1) * 5+((xs.drop i).flatMap zD).length))) v w15:=l8;have r1:Row w15 g 60 (L.take ((i+1) * 5) ++ (xs.drop i).flatMap zD ++ L.drop ((i+1) * 5+((xs.drop i).flatMap zD).length)):=(by obtain ⟨v,h⟩:=l8;exact h);have rx:=Hv0.out.only hR15 (by simpa using fun e=>Hgv.out e.symm);obtain ⟨h1,h2,h3,h4,h5,h6,h7,h8,h9⟩:=HF.out;obtain ⟨w4,hw4⟩:∃ w4,w4=w15.setRow g ((L.take ((i+1) * 5) ++ (xs.drop i).flatMap zD ++ L.drop ((i+1) * 5+((xs.drop i).flatMap zD).length)).take (i * 5) ++ zD x ++ (L.take ((i+1) * 5) ++ (xs.drop i).flatMap zD ++ L.drop ((i+1) * 5+((xs.drop i).flatMap zD).length)).drop (i * 5+(zD x).length)).toArray:=⟨_,rfl⟩
   have H2:=fun ty dl dc hm=>Hcp2.out w15 r1 rx ty dl dc hm;have o4:Only [g] w15 w4:=(by rw [hw4];exact Only.setRow _ _ _);have r4:=r1.setRow ((L.take ((i+1) * 5) ++ (xs.drop i).flatMap zD ++ L.drop ((i+1) * 5+((xs.drop i).flatMap zD).length)).take (i * 5) ++ zD x ++ (L.take ((i+1) * 5) ++ (xs.drop i).flatMap zD ++ L.drop ((i+1) * 5+((xs.drop i).flatMap zD).length)).drop (i * 5+(zD x).length));rw [← hw4] at r4 H2;have hxl:=zQ x;have e1:(i+1) * 5=i * 5+5:=Nat.succ_mul i 5;rw [e1,hxl,h8,Hfin.out] at r4
   have hE:zN w4 base 60 5 (.slice (some ⟨g,0,none⟩) (n+1) c) (n+1) (YS.flatMap zD):=zN.ofRow r4 h1 h2 h3 (by rw [List.length_append,List.length_append,List.length_append,List.length_drop,h9,h8,hxl,h4];omega) (by
    have hlen:((xs.take i).flatMap zD ++ zD x ++ (xs.drop i).flatMap zD).length=(n+1) * 5:=by rw [List.length_append,List.length_append,h9,h8,hxl];omega
    rw [← HYS.out,List.take_left' hlen,List.flatMap_append,List.flatMap_cons,List.append_assoc])
   have HE:Hid (zN w4 base 60 5 (.slice (some ⟨g,0,none⟩) (n+1) c) (n+1) (YS.flatMap zD)∧Only (blk (some (⟨g,0,none⟩:Addr))) w w4∧∀ z∈blk (some (⟨g,0,none⟩:Addr)),z∈blk (some (⟨g,0,none⟩:Addr))∨w.heap.size≤z):=Lib.hid ⟨hE,hR15.trans o4 (fun _ h _=>h),fun z hz=>.inl hz⟩;have H2h:=Lib.hid H2;clear r1 rx h1 h2 h3 h4 h5 h6 h7 h8 h9 H2 o4 r4 hxl e1 hE HF Hfin HYS Hcp1 Hcp2 Hr0 Hv0 Hgv hRr hRt hRd hRs hC0 l8 hw4
   go_upto_region 17 with (fail)
   rw [H2h.out _ _ _ (by simp only [Nat.min_def];split <;> omega)];go_wp2_with fail
   go_ret
   exact ⟨some ⟨g,0,none⟩,c,rfl,HE.out⟩
  ·-- a new block
   have hk:i+(n+1 - i)=n+1:=(by omega);obtain ⟨g2,c2,w2,rest,hr,r2,hrl,hc2,hcm,hg2,o2⟩:=zFa (P:=Tryz.prog) (tn:=3) (kn:=.i64) (kq:=.i64) (ty:=26) (cap:=c) (k:=n+1 - i) w Tryz.underlying26 Tryz.underlying3 Tryz.infoLB rfl (by omega) hold hA (by omega) (by omega) (by omega) (by omega);rw [hk] at hr hc2;have hRl:((xs.take i).flatMap zD ++ rest).length=c2 * 5:=(by rw [List.length_append,hA];omega);have hcp1:=fun ty dc=>yG (P:=Tryz.prog) (sT:=26) (ty:=ty) w2 (dLen:=n+1 - i) (dCap:=dc) (sLen:=1) (sCap:=1) (m:=1) (o:=i * 5) (a:=⟨vb,0,none⟩) Tryz.underlying26 hsz r2 (by simp only [Nat.min_def];split <;> omega) (by rw [hxl]) (hvsrc w2 (hv.zB o2)) (by rw [hxl,hRl];have:=Nat.mul_le_mul_right 5 hc2;omega) (xP x)
   obtain ⟨w3,hw3⟩:∃ w3,w3=w2.setRow g2 (((xs.take i).flatMap zD ++ rest).take (i * 5) ++ zD x ++ ((xs.take i).flatMap zD ++ rest).drop (i * 5+(zD x).length)).toArray:=⟨_,rfl⟩;have r3:=r2.setRow (((xs.take i).flatMap zD ++ rest).take (i * 5) ++ zD x ++ ((xs.take i).flatMap zD ++ rest).drop (i * 5+(zD x).length));have o3:Only [g2] w2 w3:=(by rw [hw3];exact Only.setRow _ _ _);rw [← hw3] at r3 hcp1;rw [hxl] at r3;have o13:Only [] w w3:=o2.zY o3 (by simpa using hg2);have e1:(i+1) * 5=i * 5+5:=Nat.succ_mul i 5;have hnk:(n - i) * 5+(i+1) * 5=(n+1) * 5:=by rw [← Nat.add_mul];congr 1;omega
   have hc2K:=Nat.mul_le_mul_right 5 hc2
   have hl3:(((xs.take i).flatMap zD ++ rest).take (i * 5) ++ zD x ++ ((xs.take i).flatMap zD ++ rest).drop (i * 5+5)).length=c2 * 5:=by
    rw [List.length_append,List.length_append,List.length_take,List.length_drop,hRl,hxl];omega
   obtain ⟨L3,hL3⟩:∃ L3,L3=((xs.take i).flatMap zD ++ rest).take (i * 5) ++ zD x ++ ((xs.take i).flatMap zD ++ rest).drop (i * 5+5):=⟨_,rfl⟩;rw [← hL3] at r3 hl3
   have hcp2:=fun (W:World) (ho:Only [g2] w3 W) (r:Row W g2 60 L3) (ty:TypeId) (dl dc sl sc:Nat) (hm:Nat.min sl dl=n - i)=>yG (P:=Tryz.prog) (dT:=26) (sT:=26) (ty:=ty) W (dLen:=dl) (dCap:=dc) (sLen:=sl) (sCap:=sc) (m:=n - i) (o:=(i+1) * 5) (a:=⟨g,i * 5,none⟩) Tryz.underlying26 hsz r hm hB (fun j v hj=>by
    have h:=hsrc w3 o13 j v hj;rw [Addr.add_lit] at h ⊢
    exact ho.cell h (by simp;omega)) (by rw [hB,hl3];omega) h1B
   have hfin:=zIZ hA hxl hB (R:=(xs.take i).flatMap zD ++ rest) (by rw [hRl];omega) (List.take_left' hA);rw [← hL3] at hfin;have HF:Hid (base≤g2∧n+1≤c2∧c2≤9223372036854775807∧((xs.take i).flatMap zD ++ rest).length=c2 * 5∧(n - i) * 5+(i+1) * 5=(n+1) * 5∧(n+1) * 5≤c2 * 5∧((xs.drop i).flatMap zD).length=(n - i) * 5∧((xs.take i).flatMap zD).length=i * 5∧w.heap.size≤g2):=Lib.hid ⟨by omega,hc2,hcm,hRl,hnk,hc2K,hB,hA,hg2⟩;have Hfin:=Lib.hid hfin;have HYS:=Lib.hid hYS;have HO13:=Lib.hid o13;have HR3:=Lib.hid r3
   have Hcp2:=Lib.hid hcp2;have Hr:=Lib.hid hr;have H1:=Lib.hid (hcp1 3);have hroomI:¬ ((n:Int)+1≤(c:Int)):=(by omega);have hroomJ:(c:Int) < (n:Int)+1:=(by omega);have hkz:IntKind.i64.wrap ((n:Int)+1 - (i:Int))=((n+1 - i:Nat):Int):=(by rw [IntKind.wrap_i64];omega);have hkz2:wrap64 ((n:Int)+1 - (i:Int))=((n+1 - i:Nat):Int):=(by rw [IntWalk.wrap64_in _ (by omega)];omega);have htn:((i:Int)+1).toNat=i+1:=(by omega);have hcb:¬ c2=i:=(by omega);have hcb1:¬ c2=i+1:=(by omega);have hcbi:¬ c=i:=by have:=hvw.2.2.2.2.1;omega
   have hic2:(i:Int)≤(c2:Int):=(by omega);have hi01:(0:Int)≤(i:Int)+1:=(by omega);have hin1:(i:Int)+1≤(n:Int)+1:=(by omega);have hci:(i:Int)≤(c:Int):=(by have:=hvw.2.2.2.2.1;omega);clear hYS hr hcp1 hcp2 hfin hL3 r2 r3 o2 o3 o13 hw3 hvw hold hsrc hA hB hRl hl3 hown hv hvsrc h1B hsz hxl hc2K hnk e1 hrl hvp
   go_enter Tryz.func127,Tryz.ntmps127
   go_upto_region 11 with (at_builtin;refine qP (s:=.tmp 34) (x:=.tmp 39) rfl rfl rfl rfl Hr.out ?_)
   have h1:=H1.out (c2 - i);rw [h1];clear h1
   go_upto_region 11 with (fail)
   have hRr:∀ x,(Only [g2]) x x:=fun x=>Only.refl _ _;have hRt:∀ x b e,(Only [g2]) x b→(Only [g2]) b e→(Only [g2]) x e:=fun _ _ _ h k=>h.trans k (fun _ h _=>h);have hRd:(Only [g2]) w3 w3.drew:=(Only.drew _).mono (by simp)
   have hRs:∀ j w,zZ [(8,Only [g2])] j w w:=zZ.refl (by
    intro x hx w;simp only [List.mem_cons,List.not_mem_nil,or_false] at hx
    rcases hx with rfl
    exact Only.refl _ _)
   have hC0:∀ d∈[8],(fun (_:Nat) (a:World)=>Row a g2 60 L3) d w3.drew:=fun _ _=>HR3.out.zB (Only.drew _);refine zU (Only [g2]) (zZ [(8,Only [g2])]) (fun (_:Nat) (a:World)=>Row a g2 60 L3) [8] [[(9,none)],[(1,none)],[(7,none)],[(47,some 1),(48,some 0)],[(46,some 3),(49,some 0)],[(0,none)],[(1,none)],[(51,some 1),(52,some 0)],[(50,some 3),(53,some 0)]] [] [0] [none,none,none,none,none,none,none,none,none,none,none,none,none,none,none,none,none,none,none,none,none,none,none,none,none,none,none,none,none,none,none,none,none,none,none,none,none,none,none,none,none,none,none,none,none,none,some 46,some 47,some 48,some 49,some 50,some 51,some 52,some 53,some 54,none,none,none,none,none,none,none,none,none,none,none,none,none,none,none,none,none,none,none,none,none,none,none,none,none,none,none,none,none,none,none,none,none,none,none,none,none,none,none,none] (by kernel_rfl) rfl (by kernel_rfl) hRr hRt hRs hRd hC0 (by kernel_rfl) (by kernel_rfl) ?_
   apply zF
   ·rintro a w hR hC ⟨(e9:_=_),-⟩;refine zA rfl fun K hK=>?_;go_simp;exact hK _ _ rfl ⟨hRr _,hRs _ _,fun _ _ _ _ h=>h⟩
   apply zF
   ·rintro a w hR hC ⟨(e1:_=_),-⟩;refine zA rfl fun K hK=>?_;go_simp;exact hK _ _ rfl ⟨hRr _,hRs _ _,fun _ _ _ _ h=>h⟩
   apply zF
   ·rintro a w hR hC ⟨(e7:_=_),-⟩;refine zA rfl fun K hK=>?_;go_simp;exact hK _ _ rfl ⟨hRr _,hRs _ _,fun _ _ _ _ h=>h⟩
   apply zF
   ·rintro a w hR hC ⟨(e47:_=_),(e48:_=_),-⟩;refine zA rfl fun K hK=>?_;go_simp;exact hK _ _ rfl ⟨hRr _,hRs _ _,fun _ _ _ _ h=>h⟩
   apply zF
   ·rintro a w hR hC ⟨(e46:_=_),(e49:_=_),-⟩;refine zA rfl fun K hK=>?_;go_simp;exact hK _ _ rfl ⟨hRr _,hRs _ _,fun _ _ _ _ h=>h⟩
   apply zF
   ·rintro a w hR hC ⟨(e0:_=_),-⟩;refine zA rfl fun K hK=>?_;go_simp;exact hK _ _ rfl ⟨hRr _,hRs _ _,fun _ _ _ _ h=>h⟩
   apply zF
   ·rintro a w hR hC ⟨(e1:_=_),-⟩;refine zA rfl fun K hK=>?_;go_simp;exact hK _ _ rfl ⟨hRr _,hRs _ _,fun _ _ _ _ h=>h⟩
   apply zF
   ·rintro a w hR hC ⟨(e51:_=_),(e52:_=_),-⟩;refine zA rfl fun K hK=>?_;go_simp;exact hK _ _ rfl ⟨hRr _,hRs _ _,fun _ _ _ _ h=>h⟩
   refine ⟨qH g2 60 (L3.take ((i+1) * 5) ++ (xs.drop i).flatMap zD ++ L3.drop ((i+1) * 5+((xs.drop i).flatMap zD).length)),zL qH.stable (by intro x hx hk;simp only [List.mem_cons,List.not_mem_nil,or_false] at hx;rcases hx with rfl;exact Bool.noConfusion (hk.symm.trans (by kernel_rfl:_=true))),fun a w hR hC hf=>?_,?_⟩
   ·obtain ⟨e50,e53,-⟩:=hf;replace e50:a.tmps.getD 50 undef=_:=e50;replace e53:a.tmps.getD 53 undef=_:=e53;refine zA rfl fun K hK=>?_;have rz:Row w g2 60 L3:=hC 8 (by simp) (by kernel_rfl);have hst:=Only.setRow w g2 ((L3.take ((i+1) * 5) ++ (xs.drop i).flatMap zD ++ L3.drop ((i+1) * 5+((xs.drop i).flatMap zD).length))).toArray;refine yV (s:=.tmp 50) (x:=.tmp 53) rfl e50 e53 (Hcp2.out w hR rz _ _ _ _ _ (by simp only [Nat.min_def];split <;> omega)) ?_;exact hK _ _ (rz.setRow _) ⟨hst,hst,fun i hi hne ha hc=>absurd hi (by simp;omega)⟩
   intro f11 w11 hR11 hf hl11;dsimp only [qE];obtain ⟨l8,-⟩:=hl11;replace l8:∃ v,(qH g2 60 (L3.take ((i+1) * 5) ++ (xs.drop i).flatMap zD ++ L3.drop ((i+1) * 5+((xs.drop i).flatMap zD).length))) v w11:=l8;have r4:Row w11 g2 60 (L3.take ((i+1) * 5) ++ (xs.drop i).flatMap zD ++ L3.drop ((i+1) * 5+((xs.drop i).flatMap zD).length)):=(by obtain ⟨v,h⟩:=l8;exact h);obtain ⟨h1,h2,h3,h4,h5,h6,h7,h8,h9⟩:=HF.out;have hxl:=zQ x;have e1:(i+1) * 5=i * 5+5:=Nat.succ_mul i 5;rw [e1,h7,Hfin.out] at r4
   have hE:zN w11 base 60 5 (.slice (some ⟨g2,0,none⟩) (n+1) c2) (n+1) (YS.flatMap zD):=zN.ofRow r4 h1 h2 h3 (by rw [List.length_append,List.length_append,List.length_append,List.length_drop,h8,h7,hxl,h4];omega) (by
    have hlen:((xs.take i).flatMap zD ++ zD x ++ (xs.drop i).flatMap zD).length=(n+1) * 5:=by rw [List.length_append,List.length_append,h8,h7,hxl];omega
    rw [← HYS.out,List.take_left' hlen,List.flatMap_append,List.flatMap_cons,List.append_assoc])
   have HE:Hid (zN w11 base 60 5 (.slice (some ⟨g2,0,none⟩) (n+1) c2) (n+1) (YS.flatMap zD)∧Only (blk (some (⟨g,0,none⟩:Addr))) w w11∧∀ z∈blk (some (⟨g2,0,none⟩:Addr)),z∈blk (some (⟨g,0,none⟩:Addr))∨w.heap.size≤z):=Lib.hid ⟨hE,((HO13.out.zY hR11 (by simpa using h9))).mono (by simp),fun z hz=>.inr (by simp [blk] at hz;omega)⟩;clear r4 h1 h2 h3 h4 h5 h6 h7 h8 h9 hxl e1 hE HF Hfin HYS HO13 HR3 Hcp2 hRr hRt hRd hRs hC0 l8;go_wp2_with fail
   go_ret
   exact ⟨some ⟨g2,0,none⟩,c2,rfl,HE.out⟩
end
section
open Go.RowKit
set_option maxHeartbeats 8000000 in
theorem zHL (p:Option Addr) (n c:Nat) (xs:List LBk) (k:Bs) (x:LBk) (base:Nat) (w0:World) (hn:xs.length=n) (hb:n≤100000) (hown:zN w0 base 60 5 (.slice p n c) n (xs.flatMap zD)) (hbase:base≤w0.heap.size) (hs:jD LBk.name lt xs) :
  Calls Tryz.prog 89 #[.slice p n c,.string (str k),.func (.func 55) #[] #[],lbV x] w0 fun e' w'=>∃ p' c',e'=.returned (.slice p' (jN LBk.name lt xs k x).length c')∧zN w' base 60 5 (.slice p' (jN LBk.name lt xs k x).length c') (jN LBk.name lt xs k x).length ((jN LBk.name lt xs k x).flatMap zD)∧Only (blk p) w0 w'∧∀ z∈blk p',z∈blk p∨w0.heap.size≤z:=by
 generalize hYS:jN LBk.name lt xs k x=YS;obtain ⟨i,hi⟩:∃ i,qV LBk.name lt xs k=i:=⟨_,rfl⟩;obtain ⟨b,hbt⟩:∃ b,qC LBk.name lt xs k=b:=⟨_,rfl⟩;have hile:i≤n:=(by rw [← hi,← hn];exact zAr _ _);obtain ⟨wb,hwb⟩:∃ wb,wb=w0.alloc (.cells #[.string (str x.name),.int .i64 x.time,.int .i64 x.days,.slice x.po x.os.length x.co,.slice x.pu x.us.length x.cu] 60):=⟨_,rfl⟩;have owb:Only [] w0 wb:=(by rw [hwb];exact Only.alloc _ _);have rb:Row wb w0.heap.size 60 [.string (str x.name),.int .i64 x.time,.int .i64 x.days,.slice x.po x.os.length x.co,.slice x.pu x.us.length x.cu]:=by rw [hwb];exact Row.zV _ _ _ _ rfl
 have hbs:=zDx p n c xs k wb hn (by omega) (fun h=>(hown.view.2.2.2.1 h).1) (hown.view.2.2.1.zB owb) hs;rw [hi,hbt] at hbs;have Hw:=Lib.hid hwb;have Ho:=Lib.hid owb;have Hrb:=Lib.hid rb;have Hb:=Lib.hid hbs;have hile2:(i:Int)≤(n:Int):=by omega
 cases b with
 | true =>
  have hput:YS=xs.set i x:=(by rw [← hYS];unfold jN;rw [hbt,if_pos rfl,hi]);obtain ⟨y,hy,-⟩:=jQ hbt;rw [hi] at hy;have hin:i < n:=(by have:=(List.getElem?_eq_some_iff.1 hy).1;omega);have hini:(i:Int) < (n:Int):=(by omega);obtain ⟨g,-,rfl,-,-⟩:=hown.rowOf (by omega);obtain ⟨rest,hrow,hlen,hnc,hcm,hgb,-⟩:=hown.row;have hYl:YS.length=n:=(by rw [hput,List.length_set,hn]);rw [hYl];have Hrow:=Lib.hid hrow;have HF:Hid (YS=xs.set i x∧xs[i]?=some y∧xs.length=n∧base≤g∧n≤c∧c≤9223372036854775807∧(xs.flatMap zD ++ rest).length=c * 5):=Lib.hid ⟨hput,hy,hn,hgb,hnc,hcm,hlen⟩
  clear hYS hi hbt hwb owb rb hbs hput hy hown hrow hlen hnc hcm hgb hYl hn hs;unfold lbV
  go_enter Tryz.func89,Tryz.ntmps89
  go_wp2_with fail;rw [← Hw.out];refine Hb.out.mono ?_;rintro e1 w1 ⟨rfl,o1⟩;have o01:Only [] w0 w1:=Ho.out.zC o1;have r1:=Hrow.out.zB o01;have rx:=Hrb.out.zB o1;obtain ⟨h1,hy,hn,hgb,hnc,hcm,hlen⟩:=HF.out;have hra:=jZ (rest:=rest) zQ hy;have x0:=hra.cell r1 (r:=0) rfl;have x1:=hra.cell r1 (r:=1) rfl;have x2:=hra.cell r1 (r:=2) rfl;have x3:=hra.cell r1 (r:=3) rfl;have x4:=hra.cell r1 (r:=4) rfl;rw [Nat.add_zero] at x0;have y0:=r1.free (i * 5);have y1:=r1.free (i * 5+1);have y2:=r1.free (i * 5+2);have y3:=r1.free (i * 5+3)
  have y4:=r1.free (i * 5+4);have a0:=rx.cell (i:=0) rfl;have a1:=rx.cell (i:=1) rfl;have a2:=rx.cell (i:=2) rfl;have a3:=rx.cell (i:=3) rfl;have a4:=rx.cell (i:=4) rfl;obtain ⟨wz,hwz⟩:∃ wz,wz=(((((w1.setCell ⟨g,i * 5,none⟩ (.string (str x.name))).setCell ⟨g,i * 5+1,none⟩ (.int .i64 x.time)).setCell ⟨g,i * 5+2,none⟩ (.int .i64 x.days)).setCell ⟨g,i * 5+3,none⟩ (.slice x.po x.os.length x.co)).setCell ⟨g,i * 5+4,none⟩ (.slice x.pu x.us.length x.cu)):=⟨_,rfl⟩;have ozz:Only [g] w1 wz:=by rw [hwz];exact (((((Only.setCell _ ⟨g,i * 5,none⟩ _).trans (Only.setCell _ ⟨g,i * 5+1,none⟩ _) (fun _ h _=>h)).trans (Only.setCell _ ⟨g,i * 5+2,none⟩ _) (fun _ h _=>h)).trans (Only.setCell _ ⟨g,i * 5+3,none⟩ _) (fun _ h _=>h)).trans (Only.setCell _ ⟨g,i * 5+4,none⟩ _) (fun _ h _=>h))
  have hra2:=(((((hra.set (i:=0) (.string (str x.name)) (by simp only [List.length_set,zQ];omega)).set (i:=1) (.int .i64 x.time) (by simp only [List.length_set,zQ];omega)).set (i:=2) (.int .i64 x.days) (by simp only [List.length_set,zQ];omega)).set (i:=3) (.slice x.po x.os.length x.co) (by simp only [List.length_set,zQ];omega)).set (i:=4) (.slice x.pu x.us.length x.cu) (by simp only [List.length_set,zQ];omega));have hrz:=(((((r1.setCell (i * 5) (.string (str x.name))).setCell (i * 5+1) (.int .i64 x.time)).setCell (i * 5+2) (.int .i64 x.days)).setCell (i * 5+3) (.slice x.po x.os.length x.co)).setCell (i * 5+4) (.slice x.pu x.us.length x.cu))
  rw [← hwz] at hrz;have hE:=zN.zAz (y:=x) (by omega) zQ hgb hn hin hnc hcm hlen hrz (((((Outside.set (i * 5) 5 _ (i:=i * 5) (.string (str x.name)) (by omega) (by omega)).trans (Outside.set (i * 5) 5 _ (i:=i * 5+1) (.int .i64 x.time) (by omega) (by omega))).trans (Outside.set (i * 5) 5 _ (i:=i * 5+2) (.int .i64 x.days) (by omega) (by omega))).trans (Outside.set (i * 5) 5 _ (i:=i * 5+3) (.slice x.po x.os.length x.co) (by omega) (by omega))).trans (Outside.set (i * 5) 5 _ (i:=i * 5+4) (.slice x.pu x.us.length x.cu) (by omega) (by omega))) hra2;rw [← h1] at hE
  have HE:Hid (zN wz base 60 5 (.slice (some ⟨g,0,none⟩) n c) n (YS.flatMap zD)∧Only (blk (some (⟨g,0,none⟩:Addr))) w0 wz):=Lib.hid ⟨hE,(o01.mono (fun _ h=>by cases h)).trans ozz (fun _ h _=>h)⟩;have Hz:=Lib.hid hwz;clear hwz ozz hra hra2 hrz hE r1 rx o1 o01 h1 hy hn hgb hnc hcm hlen HF Hrow Hrb Hb;go_wp2_with fail;rw [← Hz.out]
  go_ret
  exact ⟨_,_,rfl,HE.out.1,HE.out.2,fun z hz=>.inl hz⟩
 | false =>
  have hput:YS=xs.take i ++ x :: xs.drop i:=(by rw [← hYS];unfold jN;rw [hbt,if_neg (by simp),hi]);have hYl:YS.length=n+1:=(by rw [hput];simp;omega);rw [hYl];have HF:Hid (YS=xs.take i ++ x :: xs.drop i∧xs.length=n∧zN w0 base 60 5 (.slice p n c) n (xs.flatMap zD)):=Lib.hid ⟨hput,hn,hown⟩;clear hYS hi hbt hwb owb rb hbs hput hown hYl hn hs;unfold lbV
  go_enter Tryz.func89,Tryz.ntmps89
  go_wp2_with fail;rw [← Hw.out];refine Hb.out.mono ?_;rintro e1 w1 ⟨rfl,o1⟩;have o01:Only [] w0 w1:=Ho.out.zC o1;have rx:=Hrb.out.zB o1;obtain ⟨h1,hn,hown⟩:=HF.out;obtain ⟨wv,hwv⟩:∃ wv,wv=w1.alloc (.cells #[.string (str x.name),.int .i64 x.time,.int .i64 x.days,.slice x.po x.os.length x.co,.slice x.pu x.us.length x.cu] 60):=⟨_,rfl⟩;have ov:Only [] w1 wv:=(by rw [hwv];exact Only.alloc _ _);have rv:Row wv w1.heap.size 60 (zD x):=(by rw [hwv];exact Row.zV _ _ _ _ rfl);have hlo:=hown.view.2.2.2.2.2.2;have hsz:=o01.size;have hins:=zHd p n c xs x i w1.heap.size base wv (hown.zB (o01.zC ov)) (by have:=ov.size;omega) hn hile (by omega) rv (fun hm=>by have:=(hlo _ hm).2;omega)
  rw [← h1] at hins;have Hi:=Lib.hid hins;have Hv:=Lib.hid hwv;have Hov:Hid (Only [] w0 wv):=Lib.hid (o01.zC ov);have a0:=rx.cell (i:=0) rfl;have a1:=rx.cell (i:=1) rfl;have a2:=rx.cell (i:=2) rfl;have a3:=rx.cell (i:=3) rfl;have a4:=rx.cell (i:=4) rfl;clear hins hwv ov rv hlo rx o1 h1 hn hown HF Hrb Hb;go_wp2_with fail;rw [← Hv.out];refine Hi.out.mono ?_;rintro e2 w2 ⟨p',c',rfl,h1,h2,h3⟩;have HE:Hid (zN w2 base 60 5 (.slice p' (n+1) c') (n+1) (YS.flatMap zD)∧Only (blk p) w0 w2∧∀ z∈blk p',z∈blk p∨w0.heap.size≤z):=Lib.hid ⟨h1,(Hov.out.mono (fun _ h=>by cases h)).trans h2 (fun _ h _=>h),fun z hz=>(h3 z hz).imp id (fun h=>by have:=Hov.out.size;omega)⟩
  clear h1 h2 h3 Hi Hv Hov;go_wp2_with fail
  go_ret
  exact ⟨_,_,rfl,HE.out⟩
end
section
open Go.RowKit
def zGL (c:Cat) (x:Cmd):Cat × yA:=if qC jE.name lt c.qJ x.bucket=true then (c,⟨4,[]⟩) else if 16≤c.qJ.length then (c,⟨7,[]⟩) else ({ c with qJ:=jN jE.name lt c.qJ x.bucket ⟨x.bucket,x.time,0,[],[]⟩ },⟨0,[]⟩)
def zJq (L:qK) (B:Nat) (w0:World) (R:Cat × yA):Ending→World→Prop:=fun e w'=>∃ L' oc,e=.returned (.tuple #[lcV L',xM oc])∧qA w' B L'∧(L'.cat,oc)=R∧Only L.fp w0 w'
theorem yB (n:Int) (w0:World):Calls Tryz.prog 49 #[.int .i64 n] w0 fun e w'=>e=.returned (.agg #[.int .i64 n,.string (str [])])∧Only [] w0 w':=vM n w0
set_option maxHeartbeats 16000000 in
theorem zCv (L:qK) (m:zS) (B:Nat) (w0:World) (hown:qA w0 B L) (hB:B≤w0.heap.size) (hs:jD jE.name lt (L.bs.map LBk.b)) (hl:L.bs.length≤16) :
  Calls Tryz.prog 47 #[lcV L,lmV m] w0 (zJq L B w0 (zGL L.cat m.x)):=by
 obtain ⟨nb,hnb⟩:∃ n,L.bs.length=n:=⟨_,rfl⟩;obtain ⟨nf,hnf⟩:∃ n,L.fs.length=n:=⟨_,rfl⟩;obtain ⟨np,hnp⟩:∃ n,m.x.parts.length=n:=⟨_,rfl⟩;obtain ⟨w1,hw1⟩:∃ w1,w1=w0.alloc (.cells #[.slice L.pb nb L.cb,.slice L.pf nf L.cf] 29):=⟨_,rfl⟩;have o1:Only [] w0 w1:=(by rw [hw1];exact Only.alloc _ _);have s1:w1.heap.size=w0.heap.size+1:=(by rw [hw1];simp);have r1:Row w1 (w0.heap.size) 29 [.slice L.pb nb L.cb,.slice L.pf nf L.cf]:=(by rw [hw1];exact Row.zV _ _ _ _ rfl);obtain ⟨w2,hw2⟩:∃ w2,w2=w1.alloc (.cells #[.int .i64 m.x.kind,.int .i64 m.x.id.node,.int .i64 m.x.id.boot,.int .i64 m.x.id.seq,.string (str m.x.bucket),.string (str m.x.key),.int .i64 m.x.upload.node,.int .i64 m.x.upload.boot,.int .i64 m.x.upload.seq,.int .i64 m.x.piece.blob.node,.int .i64 m.x.piece.blob.boot,.int .i64 m.x.piece.blob.seq,.int .i64 m.x.piece.size,.string (str m.x.piece.etag),.int .i64 m.x.part,.slice m.p np m.c,.int .i64 m.x.time,.int .i64 m.x.days] 36):=⟨_,rfl⟩
 have o2:Only [] w1 w2:=(by rw [hw2];exact Only.alloc _ _);have s2:w2.heap.size=w0.heap.size+1+1:=(by rw [hw2];simp [s1]);have r2:Row w2 (w0.heap.size+1) 36 [.int .i64 m.x.kind,.int .i64 m.x.id.node,.int .i64 m.x.id.boot,.int .i64 m.x.id.seq,.string (str m.x.bucket),.string (str m.x.key),.int .i64 m.x.upload.node,.int .i64 m.x.upload.boot,.int .i64 m.x.upload.seq,.int .i64 m.x.piece.blob.node,.int .i64 m.x.piece.blob.boot,.int .i64 m.x.piece.blob.seq,.int .i64 m.x.piece.size,.string (str m.x.piece.etag),.int .i64 m.x.part,.slice m.p np m.c,.int .i64 m.x.time,.int .i64 m.x.days]:=by rw [← s1,hw2];exact Row.zV _ _ _ _ rfl
 obtain ⟨w3,hw3⟩:∃ w3,w3=w2.alloc (.cells #[.slice none 0 0,.slice none 0 0] 29):=⟨_,rfl⟩;have o3:Only [] w2 w3:=(by rw [hw3];exact Only.alloc _ _);have s3:w3.heap.size=w0.heap.size+1+1+1:=(by rw [hw3];simp [s2]);have r3:Row w3 (w0.heap.size+1+1) 29 [.slice none 0 0,.slice none 0 0]:=(by rw [← s2,hw3];exact Row.zV _ _ _ _ rfl);obtain ⟨w4,hw4⟩:∃ w4,w4=w3.alloc (.cells #[.int .i64 0,.string ⟨#[]⟩] 38):=⟨_,rfl⟩;have o4:Only [] w3 w4:=(by rw [hw4];exact Only.alloc _ _);have s4:w4.heap.size=w0.heap.size+1+1+1+1:=by rw [hw4];simp [s3]
 have r4:Row w4 (w0.heap.size+1+1+1) 38 [.int .i64 0,.string ⟨#[]⟩]:=(by rw [← s3,hw4];exact Row.zV _ _ _ _ rfl);replace r1:=r1.zB ((o2.zC o3).zC o4);replace r2:=r2.zB (o3.zC o4);replace r3:=r3.zB o4;have oAll:Only [] w0 w4:=(((o1.zC o2).zC o3).zC o4);rw [hw1] at hw2;rw [hw2] at hw3;rw [hw3] at hw4;have hss:jD LBk.name lt L.bs:=zAM (key:=LBk.name) LBk.b (fun _=>rfl) hs;obtain ⟨i,hi⟩:∃ i,qV LBk.name lt L.bs m.x.bucket=i:=⟨_,rfl⟩;obtain ⟨th,hth⟩:∃ th,qC LBk.name lt L.bs m.x.bucket=th:=⟨_,rfl⟩
 have hfind:=zDH L.pb nb L.cb L.bs m.x.bucket w4 hnb (by omega) (fun h0=>by rw [← hnb];exact (hown.sb.view.2.2.2.1 h0).1) (hown.sb.view.2.2.1.zB oAll) hss;rw [hi,hth] at hfind;have hset:=fun (W:World) (h:Only [] w0 W)=>zHL L.pb nb L.cb L.bs m.x.bucket (⟨m.x.bucket,m.x.time,0,[],none,0,[],none,0⟩:LBk) B W hnb (by omega) (by have h9:=hown.sb.zB h;rw [hnb] at h9;exact h9) (Nat.le_trans hB h.size) hss;obtain ⟨YS,hYS⟩:∃ YS,jN LBk.name lt L.bs m.x.bucket (⟨m.x.bucket,m.x.time,0,[],none,0,[],none,0⟩:LBk)=YS:=⟨_,rfl⟩;obtain ⟨ny,hny⟩:∃ ny,YS.length=ny:=⟨_,rfl⟩
 rw [hYS,hny] at hset;unfold lbV at hset;dsimp only at hset
 have hmk:zGL L.cat m.x=if th=true then (L.cat,⟨4,[]⟩) else if 16≤nb then (L.cat,⟨7,[]⟩) else (⟨YS.map LBk.b,L.fs⟩,⟨0,[]⟩):=by
  unfold zGL
  rw [show qC jE.name lt L.cat.qJ m.x.bucket=th from (zAs (key:=LBk.name) LBk.b (fun _=>rfl) L.bs m.x.bucket).trans hth,show L.cat.qJ.length=nb by show (L.bs.map LBk.b).length=nb;rw [List.length_map,hnb],
   show jN jE.name lt L.cat.qJ m.x.bucket ⟨m.x.bucket,m.x.time,0,[],[]⟩=YS.map LBk.b by rw [← hYS];exact (zDE (key:=LBk.name) (key':=jE.name) LBk.b (fun _=>rfl) L.bs m.x.bucket (⟨m.x.bucket,m.x.time,0,[],none,0,[],none,0⟩:LBk)).symm]
  rfl
 have HK:=Lib.hid hmk;have HF:=Lib.hid hfind;have HS:=Lib.hid hset;have HO:=Lib.hid oAll;have Hw:=Lib.hid hw4;have Hsz:Hid (w4.heap.size=w0.heap.size+1+1+1+1):=Lib.hid s4;have Hr1:=Lib.hid r1;have Hr2:=Lib.hid r2;have Hr3:=Lib.hid r3;have Hr4:=Lib.hid r4;have Hown:=Lib.hid hown;have HB:=Lib.hid hB;have HY:Hid (jN LBk.name lt L.bs m.x.bucket (⟨m.x.bucket,m.x.time,0,[],none,0,[],none,0⟩:LBk)=YS∧YS.length=ny∧L.bs.length=nb∧L.fs.length=nf):=Lib.hid ⟨hYS,hny,hnb,hnf⟩;have c0:=r1.cell (i:=0) rfl;have c1:=r1.cell (i:=1) rfl
 have m4:=r2.cell (i:=4) rfl;have m16:=r2.cell (i:=16) rfl;clear hfind hset oAll hw4 s4 s3 s2 s1 r1 r2 r3 r4 o1 o2 o3 o4 hw1 hYS hny hss hs hown hi hth hmk hB;rw [show lcV L=.agg #[.slice L.pb nb L.cb,.slice L.pf nf L.cf] by unfold lcV;rw [hnb,hnf],show lmV m=.agg #[.int .i64 m.x.kind,.int .i64 m.x.id.node,.int .i64 m.x.id.boot,.int .i64 m.x.id.seq,.string (str m.x.bucket),.string (str m.x.key),.int .i64 m.x.upload.node,.int .i64 m.x.upload.boot,.int .i64 m.x.upload.seq,.int .i64 m.x.piece.blob.node,.int .i64 m.x.piece.blob.boot,.int .i64 m.x.piece.blob.seq,.int .i64 m.x.piece.size,.string (str m.x.piece.etag),.int .i64 m.x.part,.slice m.p np m.c,.int .i64 m.x.time,.int .i64 m.x.days] by unfold lmV;rw [hnp]]
 clear hnb hnf hnp
 go_enter Tryz.func47,Tryz.ntmps47
 go_upto_region 1 with (fail)
 rw [← Hw.out];go_wp2_with fail;refine HF.out.mono ?_;rintro e w5 ⟨rfl,o5⟩;have HO5:=Lib.hid (HO.out.zC o5);have H45:=Lib.hid o5;clear o5 HF c0 c1 m4 m16;have hc5:=Hr1.out.zB H45.out;have hm5:=Hr2.out.zB H45.out;have c0:=hc5.cell (i:=0) rfl;have c1:=hc5.cell (i:=1) rfl;have m4:=hm5.cell (i:=4) rfl;have m16:=hm5.cell (i:=16) rfl
 cases th with
 | true =>
  have Hz3:=Lib.hid (Hr3.out.zB H45.out);have Hz4:=Lib.hid (Hr4.out.zB H45.out);have HB0:=Lib.hid hc5;have HX:Hid (qA w5 B L∧(∀ z∈L.fp,z < w0.heap.size∨w4.heap.size≤z)∧Only L.fp w0 w5):=Lib.hid ⟨Hown.out.zB HO5.out,fun z hz=>.inl (Hown.out.lo z hz).2,HO5.out.mono (by simp)⟩;have hsz4:=Hsz.out;clear hc5 hm5
  go_upto_region 3 with (fail)
  have hRr:∀ x,(Only [w0.heap.size+1+1,w0.heap.size+1+1+1]) x x:=fun x=>Only.refl _ _;have hRt:∀ x b e,(Only [w0.heap.size+1+1,w0.heap.size+1+1+1]) x b→(Only [w0.heap.size+1+1,w0.heap.size+1+1+1]) b e→(Only [w0.heap.size+1+1,w0.heap.size+1+1+1]) x e:=fun _ _ _ h k=>h.trans k (fun _ h _=>h);have hRd:(Only [w0.heap.size+1+1,w0.heap.size+1+1+1]) w5 w5.drew:=(Only.drew _).mono (by simp)
  have hRs:∀ j w,zZ [(2,Only [w0.heap.size+1+1]),(3,Only [w0.heap.size+1+1+1])] j w w:=zZ.refl (by
   intro x hx w;simp only [List.mem_cons,List.not_mem_nil,or_false] at hx
   rcases hx with rfl | rfl <;> exact Only.refl _ _)
  have hC0:∀ d∈[2,3],(fun (i:Nat) (a:World)=>(i=2→Row a (w0.heap.size+1+1) 29 [.slice none 0 0,.slice none 0 0])∧(i=3→Row a (w0.heap.size+1+1+1) 38 [.int .i64 0,.string ⟨#[]⟩])) d w5.drew:=fun _ _=>⟨fun _=>Hz3.out.zB (Only.drew _),fun _=>Hz4.out.zB (Only.drew _)⟩;refine zU (Only [w0.heap.size+1+1,w0.heap.size+1+1+1]) (zZ [(2,Only [w0.heap.size+1+1]),(3,Only [w0.heap.size+1+1+1])]) (fun (i:Nat) (a:World)=>(i=2→Row a (w0.heap.size+1+1) 29 [.slice none 0 0,.slice none 0 0])∧(i=3→Row a (w0.heap.size+1+1+1) 38 [.int .i64 0,.string ⟨#[]⟩])) [2,3] [[(2,none)],[],[(4,none),(17,some 1)],[(5,none),(18,some 1)]] [] [1,0] [none,none,none,none,none,none,none,none,none,none,none,none,none,none,none,none,none,some 17,some 18,none,none,none,none,none,none,none,none,none,none,none,none,none,none,none,none,none,none,none] (by kernel_rfl) rfl (by kernel_rfl) hRr hRt hRs hRd hC0 (by kernel_rfl) (by kernel_rfl) ?_
  apply zF
  ·rintro a w hR hC ⟨(e2:_=_),-⟩;refine zA rfl fun K hK=>?_;have hA:=HB0.out.only hR (by simp <;> omega);have g0:=hA.cell (i:=0) rfl;have g1:=hA.cell (i:=1) rfl;go_simp;exact hK _ _ rfl ⟨hRr _,hRs _ _,fun _ _ _ _ h=>h⟩
  apply zF
  ·intro a w hR hC hf;refine zA rfl fun K hK=>?_;go_simp;(with_reducible refine (yB 4 w).mono ?_);rintro e w' ⟨rfl,o'⟩;exact hK _ _ rfl ⟨o'.mono (by simp),o',fun i _ _ _ hc=>⟨fun e=>(hc.1 e).zB o',fun e=>(hc.2 e).zB o'⟩⟩
  refine ⟨qH (w0.heap.size+1+1) 29 [.slice L.pb nb L.cb,.slice L.pf nf L.cf],zL qH.stable (by intro x hx hk;simp only [List.mem_cons,List.not_mem_nil,or_false] at hx;rcases hx with rfl | rfl <;> first | (refine qH.jC ?_;simp <;> omega;done) | exact Bool.noConfusion (hk.symm.trans (by kernel_rfl:_=true))),fun a w hR hC hf=>?_,?_⟩
  ·obtain ⟨e4,e17,-⟩:=hf;replace e4:a.tmps.getD 4 undef=_:=e4;replace e17:a.tmps.getD 17 undef=_:=e17;refine zA rfl fun K hK=>?_;have rz:=(hC 2 (by simp) (by kernel_rfl)).1 rfl;have zc0:=rz.cell (i:=0) rfl;have zc1:=rz.cell (i:=1) rfl;have zf0:=rz.free 0;have zf1:=rz.free 1;go_simp;have hst:=qB w (w0.heap.size+1+1) (.slice L.pb nb L.cb) (.slice L.pf nf L.cf);refine hK undef _ (Row.set2 rz _ _) ⟨hst.mono (by simp),hst,fun i hi hne ha hc=>⟨fun e=>(hc.1 e).only hst (by first | exact absurd e hne | (simp <;> omega)),fun e=>(hc.2 e).only hst (by first | exact absurd e hne | (simp <;> omega))⟩⟩
  refine ⟨qH (w0.heap.size+1+1+1) 38 [.int .i64 4,.string (str [])],zL qH.stable (by intro x hx hk;simp only [List.mem_cons,List.not_mem_nil,or_false] at hx;rcases hx with rfl | rfl <;> first | (refine qH.jC ?_;simp <;> omega;done) | exact Bool.noConfusion (hk.symm.trans (by kernel_rfl:_=true))),fun a w hR hC hf=>?_,?_⟩
  ·obtain ⟨e5,e18,-⟩:=hf;replace e5:a.tmps.getD 5 undef=_:=e5;replace e18:a.tmps.getD 18 undef=_:=e18;refine zA rfl fun K hK=>?_;have rz:=(hC 3 (by simp) (by kernel_rfl)).2 rfl;have zc0:=rz.cell (i:=0) rfl;have zc1:=rz.cell (i:=1) rfl;have zf0:=rz.free 0;have zf1:=rz.free 1;go_simp;have hst:=qB w (w0.heap.size+1+1+1) (.int .i64 4) (.string (str []));refine hK undef _ (Row.set2 rz _ _) ⟨hst.mono (by simp),hst,fun i hi hne ha hc=>⟨fun e=>(hc.1 e).only hst (by first | exact absurd e hne | (simp <;> omega)),fun e=>(hc.2 e).only hst (by first | exact absurd e hne | (simp <;> omega))⟩⟩
  intro fMA wMA hRMA hf hlMA;dsimp only [qE];obtain ⟨l2,l3,-⟩:=hlMA;replace l2:∃ v,(qH (w0.heap.size+1+1) 29 [.slice L.pb nb L.cb,.slice L.pf nf L.cf]) v wMA:=l2;replace l3:∃ v,(qH (w0.heap.size+1+1+1) 38 [.int .i64 4,.string (str [])]) v wMA:=l3;obtain ⟨_,l2⟩:=l2;obtain ⟨_,l3⟩:=l3;replace l2:Row wMA (w0.heap.size+1+1) 29 [.slice L.pb nb L.cb,.slice L.pf nf L.cf]:=l2;replace l3:Row wMA (w0.heap.size+1+1+1) 38 [.int .i64 4,.string (str [])]:=l3;have oE:Only L.fp w0 wMA:=HX.out.2.2.zY hRMA (by simp;omega);have hE:=HX.out.1.only hRMA (fun z hz hm=>by have h9:=HX.out.2.1 z hz;simp only [List.mem_cons,List.not_mem_nil,or_false] at hm;omega)
  clear hRMA hRr hRt hRd hRs hC0;go_wp2_with fail;refine bodyPost_ret (xD rfl _ _ _ _ rfl rfl l2 l3 Tryz.underlying29 vL Tryz.underlying38 jH) rfl ⟨L,⟨4,[]⟩,?_,hE,?_,oE⟩
  ·unfold lcV xM;dsimp only;rw [HY.out.2.2.1,HY.out.2.2.2]
  ·rw [HK.out];rfl
 | false =>
  by_cases h16:16≤nb
  ·have h16i:(16:Int)≤(nb:Int):=(by omega);have Hz3:=Lib.hid (Hr3.out.zB H45.out);have Hz4:=Lib.hid (Hr4.out.zB H45.out);have HB0:=Lib.hid hc5;have HX:Hid (qA w5 B L∧(∀ z∈L.fp,z < w0.heap.size∨w4.heap.size≤z)∧Only L.fp w0 w5):=Lib.hid ⟨Hown.out.zB HO5.out,fun z hz=>.inl (Hown.out.lo z hz).2,HO5.out.mono (by simp)⟩;have hsz4:=Hsz.out;clear hc5 hm5
   go_upto_region 5 with (fail)
   have hRr:∀ x,(Only [w0.heap.size+1+1,w0.heap.size+1+1+1]) x x:=fun x=>Only.refl _ _;have hRt:∀ x b e,(Only [w0.heap.size+1+1,w0.heap.size+1+1+1]) x b→(Only [w0.heap.size+1+1,w0.heap.size+1+1+1]) b e→(Only [w0.heap.size+1+1,w0.heap.size+1+1+1]) x e:=fun _ _ _ h k=>h.trans k (fun _ h _=>h);have hRd:(Only [w0.heap.size+1+1,w0.heap.size+1+1+1]) w5 w5.drew:=(Only.drew _).mono (by simp)
   have hRs:∀ j w,zZ [(2,Only [w0.heap.size+1+1]),(3,Only [w0.heap.size+1+1+1])] j w w:=zZ.refl (by
    intro x hx w;simp only [List.mem_cons,List.not_mem_nil,or_false] at hx
    rcases hx with rfl | rfl <;> exact Only.refl _ _)
   have hC0:∀ d∈[2,3],(fun (i:Nat) (a:World)=>(i=2→Row a (w0.heap.size+1+1) 29 [.slice none 0 0,.slice none 0 0])∧(i=3→Row a (w0.heap.size+1+1+1) 38 [.int .i64 0,.string ⟨#[]⟩])) d w5.drew:=fun _ _=>⟨fun _=>Hz3.out.zB (Only.drew _),fun _=>Hz4.out.zB (Only.drew _)⟩;refine zU (Only [w0.heap.size+1+1,w0.heap.size+1+1+1]) (zZ [(2,Only [w0.heap.size+1+1]),(3,Only [w0.heap.size+1+1+1])]) (fun (i:Nat) (a:World)=>(i=2→Row a (w0.heap.size+1+1) 29 [.slice none 0 0,.slice none 0 0])∧(i=3→Row a (w0.heap.size+1+1+1) 38 [.int .i64 0,.string ⟨#[]⟩])) [2,3] [[(2,none)],[],[(4,none),(23,some 1)],[(5,none),(24,some 1)]] [] [1,0] [none,none,none,none,none,none,none,none,none,none,none,none,none,none,none,none,none,none,none,none,none,none,none,some 23,some 24,none,none,none,none,none,none,none,none,none,none,none,none,none] (by kernel_rfl) rfl (by kernel_rfl) hRr hRt hRs hRd hC0 (by kernel_rfl) (by kernel_rfl) ?_
   apply zF
   ·rintro a w hR hC ⟨(e2:_=_),-⟩;refine zA rfl fun K hK=>?_;have hA:=HB0.out.only hR (by simp <;> omega);have g0:=hA.cell (i:=0) rfl;have g1:=hA.cell (i:=1) rfl;go_simp;exact hK _ _ rfl ⟨hRr _,hRs _ _,fun _ _ _ _ h=>h⟩
   apply zF
   ·intro a w hR hC hf;refine zA rfl fun K hK=>?_;go_simp;(with_reducible refine (yB 7 w).mono ?_);rintro e w' ⟨rfl,o'⟩;exact hK _ _ rfl ⟨o'.mono (by simp),o',fun i _ _ _ hc=>⟨fun e=>(hc.1 e).zB o',fun e=>(hc.2 e).zB o'⟩⟩
   refine ⟨qH (w0.heap.size+1+1) 29 [.slice L.pb nb L.cb,.slice L.pf nf L.cf],zL qH.stable (by intro x hx hk;simp only [List.mem_cons,List.not_mem_nil,or_false] at hx;rcases hx with rfl | rfl <;> first | (refine qH.jC ?_;simp <;> omega;done) | exact Bool.noConfusion (hk.symm.trans (by kernel_rfl:_=true))),fun a w hR hC hf=>?_,?_⟩
   ·obtain ⟨e4,e23,-⟩:=hf;replace e4:a.tmps.getD 4 undef=_:=e4;replace e23:a.tmps.getD 23 undef=_:=e23;refine zA rfl fun K hK=>?_;have rz:=(hC 2 (by simp) (by kernel_rfl)).1 rfl;have zc0:=rz.cell (i:=0) rfl;have zc1:=rz.cell (i:=1) rfl;have zf0:=rz.free 0;have zf1:=rz.free 1;go_simp;have hst:=qB w (w0.heap.size+1+1) (.slice L.pb nb L.cb) (.slice L.pf nf L.cf);refine hK undef _ (Row.set2 rz _ _) ⟨hst.mono (by simp),hst,fun i hi hne ha hc=>⟨fun e=>(hc.1 e).only hst (by first | exact absurd e hne | (simp <;> omega)),fun e=>(hc.2 e).only hst (by first | exact absurd e hne | (simp <;> omega))⟩⟩
   refine ⟨qH (w0.heap.size+1+1+1) 38 [.int .i64 7,.string (str [])],zL qH.stable (by intro x hx hk;simp only [List.mem_cons,List.not_mem_nil,or_false] at hx;rcases hx with rfl | rfl <;> first | (refine qH.jC ?_;simp <;> omega;done) | exact Bool.noConfusion (hk.symm.trans (by kernel_rfl:_=true))),fun a w hR hC hf=>?_,?_⟩
   ·obtain ⟨e5,e24,-⟩:=hf;replace e5:a.tmps.getD 5 undef=_:=e5;replace e24:a.tmps.getD 24 undef=_:=e24;refine zA rfl fun K hK=>?_;have rz:=(hC 3 (by simp) (by kernel_rfl)).2 rfl;have zc0:=rz.cell (i:=0) rfl;have zc1:=rz.cell (i:=1) rfl;have zf0:=rz.free 0;have zf1:=rz.free 1;go_simp;have hst:=qB w (w0.heap.size+1+1+1) (.int .i64 7) (.string (str []));refine hK undef _ (Row.set2 rz _ _) ⟨hst.mono (by simp),hst,fun i hi hne ha hc=>⟨fun e=>(hc.1 e).only hst (by first | exact absurd e hne | (simp <;> omega)),fun e=>(hc.2 e).only hst (by first | exact absurd e hne | (simp <;> omega))⟩⟩
   intro fMB wMB hRMB hf hlMB;dsimp only [qE];obtain ⟨l2,l3,-⟩:=hlMB;replace l2:∃ v,(qH (w0.heap.size+1+1) 29 [.slice L.pb nb L.cb,.slice L.pf nf L.cf]) v wMB:=l2;replace l3:∃ v,(qH (w0.heap.size+1+1+1) 38 [.int .i64 7,.string (str [])]) v wMB:=l3;obtain ⟨_,l2⟩:=l2;obtain ⟨_,l3⟩:=l3;replace l2:Row wMB (w0.heap.size+1+1) 29 [.slice L.pb nb L.cb,.slice L.pf nf L.cf]:=l2;replace l3:Row wMB (w0.heap.size+1+1+1) 38 [.int .i64 7,.string (str [])]:=l3;have oE:Only L.fp w0 wMB:=HX.out.2.2.zY hRMB (by simp;omega);have hE:=HX.out.1.only hRMB (fun z hz hm=>by have h9:=HX.out.2.1 z hz;simp only [List.mem_cons,List.not_mem_nil,or_false] at hm;omega)
   clear hRMB hRr hRt hRd hRs hC0;go_wp2_with fail;refine bodyPost_ret (xD rfl _ _ _ _ rfl rfl l2 l3 Tryz.underlying29 vL Tryz.underlying38 jH) rfl ⟨L,⟨7,[]⟩,?_,hE,?_,oE⟩
   ·unfold lcV xM;dsimp only;rw [HY.out.2.2.1,HY.out.2.2.2]
   ·rw [HK.out];rw [if_neg (by simp),if_pos h16]
  ·have h16i:¬ (16:Int)≤(nb:Int):=(by omega);go_wp2_with fail;refine (HS.out w5 HO5.out).mono ?_;rintro e w6 ⟨p',c',rfl,h1,h2,h3⟩;have ho6:Only (blk L.pb) w0 w6:=(HO5.out.mono (by simp)).trans h2 (fun _ h _=>h);have hlo:=Hown.out.lo;have hblk:∀ z∈blk L.pb,z < w0.heap.size:=fun z hz=>(hlo z (by unfold qK.fp;exact List.mem_append_left _ hz)).2;obtain ⟨hYS,hny,-,-⟩:=HY.out;rw [← hny] at h1;have hown5:=Hown.out.zB HO5.out
   have hcb:qA w6 B { L with bs:=YS,pb:=p',cb:=c' }:=hown5.qJ h2 h1 (fun y hy=>by
    rw [← hYS] at hy
    rcases put_mem hy with rfl | h
    ·exact .inr ⟨⟨zN.nil _ _ _ _,zN.nil _ _ _ _,(fun x hx=>by simp at hx),(fun x hx=>by simp at hx),by simp [LBk.fp,blk]⟩,by simp [LBk.fp,blk]⟩
    ·exact .inl h) h3 (by
    obtain ⟨sub,k1,k2⟩:=zBy (key:=LBk.name) (l:=lt) LBk.fp L.bs m.x.bucket (⟨m.x.bucket,m.x.time,0,[],none,0,[],none,0⟩:LBk);rw [hYS] at k1
    exact ⟨sub,by simpa [LBk.fp,blk] using k1,k2⟩)
   have hX2:∀ z∈({ L with bs:=YS,pb:=p',cb:=c' }:qK).fp,z < w0.heap.size∨w4.heap.size≤z:=fun z hz=>by
    have h9:=hcb.lo z hz;have hz':z∈blk p' ++ (blk L.pf ++ YS.flatMap LBk.fp):=hz
    rcases List.mem_append.1 hz' with k | k
    ·rcases h3 z k with k | k
     ·exact .inl (hblk z k)
     ·exact .inr (Nat.le_trans H45.out.size k)
    ·rcases List.mem_append.1 k with k | k
     ·exact .inl (hlo z (by unfold qK.fp;exact List.mem_append_right _ (List.mem_append_left _ k))).2
     ·obtain ⟨y,hy,hzy⟩:=List.mem_flatMap.1 k;rw [← hYS] at hy
      rcases put_mem hy with rfl | h
      ·simp [LBk.fp,blk] at hzy
      ·exact .inl (hlo z (by unfold qK.fp;exact List.mem_append_right _ (List.mem_append_right _ (List.mem_flatMap.2 ⟨y,h,hzy⟩)))).2
   have hc6:=hc5.only h2 (fun h=>by have:=hblk _ h;omega);have hr3:=(Hr3.out.zB H45.out).only h2 (fun h=>by have:=hblk _ h;omega);have hr4:=(Hr4.out.zB H45.out).only h2 (fun h=>by have:=hblk _ h;omega);have k0:=hc6.cell (i:=0) rfl;have k1:=hc6.cell (i:=1) rfl;have f0:=hc6.free 0;obtain ⟨wz,hwz⟩:∃ wz,wz=w6.setCell ⟨w0.heap.size,0,none⟩ (.slice p' ny c'):=⟨_,rfl⟩;have ozz:Only [w0.heap.size] w6 wz:=(by rw [hwz];exact Only.setCell _ ⟨w0.heap.size,0,none⟩ _);have hcz:=hc6.setCell 0 (.slice p' ny c');rw [← hwz] at hcz;have hsz4:=Hsz.out
   have HB0:Hid (Row wz (w0.heap.size) 29 [.slice p' ny c',.slice L.pf nf L.cf]):=Lib.hid hcz;have Hz3:=Lib.hid (hr3.only ozz (by simp <;> omega));have Hz4:=Lib.hid (hr4.only ozz (by simp <;> omega));have HX:Hid (qA wz B { L with bs:=YS,pb:=p',cb:=c' }∧(∀ z∈({ L with bs:=YS,pb:=p',cb:=c' }:qK).fp,z < w0.heap.size∨w4.heap.size≤z)∧Only L.fp w0 wz):=Lib.hid ⟨hcb.only ozz (fun z hz hm=>by have h9:=hX2 z hz;have:=List.mem_singleton.1 hm;omega),hX2,(ho6.zY ozz (by simp)).mono (fun z hz=>by unfold qK.fp;exact List.mem_append_left _ hz)⟩
   have Hwz:=Lib.hid hwz;clear h1 h2 h3 ho6 hlo hblk hYS hny hown5 hcb hX2 hc6 hr3 hr4 hwz ozz hcz hc5 hm5
   go_upto_region 7 with (fail)
   rw [← Hwz.out];clear Hwz k0 k1 f0;have hRr:∀ x,(Only [w0.heap.size+1+1,w0.heap.size+1+1+1]) x x:=fun x=>Only.refl _ _;have hRt:∀ x b e,(Only [w0.heap.size+1+1,w0.heap.size+1+1+1]) x b→(Only [w0.heap.size+1+1,w0.heap.size+1+1+1]) b e→(Only [w0.heap.size+1+1,w0.heap.size+1+1+1]) x e:=fun _ _ _ h k=>h.trans k (fun _ h _=>h);have hRd:(Only [w0.heap.size+1+1,w0.heap.size+1+1+1]) wz wz.drew:=(Only.drew _).mono (by simp)
   have hRs:∀ j w,zZ [(2,Only [w0.heap.size+1+1]),(3,Only [w0.heap.size+1+1+1])] j w w:=zZ.refl (by
    intro x hx w;simp only [List.mem_cons,List.not_mem_nil,or_false] at hx
    rcases hx with rfl | rfl <;> exact Only.refl _ _)
   have hC0:∀ d∈[2,3],(fun (i:Nat) (a:World)=>(i=2→Row a (w0.heap.size+1+1) 29 [.slice none 0 0,.slice none 0 0])∧(i=3→Row a (w0.heap.size+1+1+1) 38 [.int .i64 0,.string ⟨#[]⟩])) d wz.drew:=fun _ _=>⟨fun _=>Hz3.out.zB (Only.drew _),fun _=>Hz4.out.zB (Only.drew _)⟩;refine zU (Only [w0.heap.size+1+1,w0.heap.size+1+1+1]) (zZ [(2,Only [w0.heap.size+1+1]),(3,Only [w0.heap.size+1+1+1])]) (fun (i:Nat) (a:World)=>(i=2→Row a (w0.heap.size+1+1) 29 [.slice none 0 0,.slice none 0 0])∧(i=3→Row a (w0.heap.size+1+1+1) 38 [.int .i64 0,.string ⟨#[]⟩])) [2,3] [[(2,none)],[],[(4,none),(36,some 1)],[(5,none),(37,some 1)]] [] [1,0] [none,none,none,none,none,none,none,none,none,none,none,none,none,none,none,none,none,none,none,none,none,none,none,none,none,none,none,none,none,none,none,none,none,none,none,none,some 36,some 37] (by kernel_rfl) rfl (by kernel_rfl) hRr hRt hRs hRd hC0 (by kernel_rfl) (by kernel_rfl) ?_
   apply zF
   ·rintro a w hR hC ⟨(e2:_=_),-⟩;refine zA rfl fun K hK=>?_;have hA:=HB0.out.only hR (by simp <;> omega);have g0:=hA.cell (i:=0) rfl;have g1:=hA.cell (i:=1) rfl;go_simp;exact hK _ _ rfl ⟨hRr _,hRs _ _,fun _ _ _ _ h=>h⟩
   apply zF
   ·intro a w hR hC hf;refine zA rfl fun K hK=>?_;go_simp;(with_reducible refine (yB 0 w).mono ?_);rintro e w' ⟨rfl,o'⟩;exact hK _ _ rfl ⟨o'.mono (by simp),o',fun i _ _ _ hc=>⟨fun e=>(hc.1 e).zB o',fun e=>(hc.2 e).zB o'⟩⟩
   refine ⟨qH (w0.heap.size+1+1) 29 [(.slice p' ny c'),.slice L.pf nf L.cf],zL qH.stable (by intro x hx hk;simp only [List.mem_cons,List.not_mem_nil,or_false] at hx;rcases hx with rfl | rfl <;> first | (refine qH.jC ?_;simp <;> omega;done) | exact Bool.noConfusion (hk.symm.trans (by kernel_rfl:_=true))),fun a w hR hC hf=>?_,?_⟩
   ·obtain ⟨e4,e36,-⟩:=hf;replace e4:a.tmps.getD 4 undef=_:=e4;replace e36:a.tmps.getD 36 undef=_:=e36;refine zA rfl fun K hK=>?_;have rz:=(hC 2 (by simp) (by kernel_rfl)).1 rfl;have zc0:=rz.cell (i:=0) rfl;have zc1:=rz.cell (i:=1) rfl;have zf0:=rz.free 0;have zf1:=rz.free 1;go_simp;have hst:=qB w (w0.heap.size+1+1) ((.slice p' ny c')) (.slice L.pf nf L.cf);refine hK undef _ (Row.set2 rz _ _) ⟨hst.mono (by simp),hst,fun i hi hne ha hc=>⟨fun e=>(hc.1 e).only hst (by first | exact absurd e hne | (simp <;> omega)),fun e=>(hc.2 e).only hst (by first | exact absurd e hne | (simp <;> omega))⟩⟩
   refine ⟨qH (w0.heap.size+1+1+1) 38 [.int .i64 0,.string (str [])],zL qH.stable (by intro x hx hk;simp only [List.mem_cons,List.not_mem_nil,or_false] at hx;rcases hx with rfl | rfl <;> first | (refine qH.jC ?_;simp <;> omega;done) | exact Bool.noConfusion (hk.symm.trans (by kernel_rfl:_=true))),fun a w hR hC hf=>?_,?_⟩
   ·obtain ⟨e5,e37,-⟩:=hf;replace e5:a.tmps.getD 5 undef=_:=e5;replace e37:a.tmps.getD 37 undef=_:=e37;refine zA rfl fun K hK=>?_;have rz:=(hC 3 (by simp) (by kernel_rfl)).2 rfl;have zc0:=rz.cell (i:=0) rfl;have zc1:=rz.cell (i:=1) rfl;have zf0:=rz.free 0;have zf1:=rz.free 1;go_simp;have hst:=qB w (w0.heap.size+1+1+1) (.int .i64 0) (.string (str []));refine hK undef _ (Row.set2 rz _ _) ⟨hst.mono (by simp),hst,fun i hi hne ha hc=>⟨fun e=>(hc.1 e).only hst (by first | exact absurd e hne | (simp <;> omega)),fun e=>(hc.2 e).only hst (by first | exact absurd e hne | (simp <;> omega))⟩⟩
   intro fMC wMC hRMC hf hlMC;dsimp only [qE];obtain ⟨l2,l3,-⟩:=hlMC;replace l2:∃ v,(qH (w0.heap.size+1+1) 29 [(.slice p' ny c'),.slice L.pf nf L.cf]) v wMC:=l2;replace l3:∃ v,(qH (w0.heap.size+1+1+1) 38 [.int .i64 0,.string (str [])]) v wMC:=l3;obtain ⟨_,l2⟩:=l2;obtain ⟨_,l3⟩:=l3;replace l2:Row wMC (w0.heap.size+1+1) 29 [(.slice p' ny c'),.slice L.pf nf L.cf]:=l2;replace l3:Row wMC (w0.heap.size+1+1+1) 38 [.int .i64 0,.string (str [])]:=l3;have oE:Only L.fp w0 wMC:=HX.out.2.2.zY hRMC (by simp;omega);have hE:=HX.out.1.only hRMC (fun z hz hm=>by have h9:=HX.out.2.1 z hz;simp only [List.mem_cons,List.not_mem_nil,or_false] at hm;omega)
   clear hRMC hRr hRt hRd hRs hC0;go_wp2_with fail;refine bodyPost_ret (xD rfl _ _ _ _ rfl rfl l2 l3 Tryz.underlying29 vL Tryz.underlying38 jH) rfl ⟨{ L with bs:=YS,pb:=p',cb:=c' },⟨0,[]⟩,?_,hE,?_,oE⟩
   ·unfold lcV xM;dsimp only;rw [HY.out.2.1,HY.out.2.2.2]
   ·rw [HK.out];rw [if_neg (by simp),if_neg h16];rfl
end
section
open Go.RowKit
set_option maxHeartbeats 4000000 in

theorem zIK (x:qG) (g o kb kn:Nat) (days now:Int) (w0:World) (hb:Row w0 kb 106 [.pointer (some ⟨g,o,none⟩)]) (hn:Row w0 kn 3 [.int .i64 now]) (hd:w0.cell? ⟨g,o+2,none⟩=some (.int .i64 days)) :
  Calls Tryz.prog 91 #[loV x,.pointer (some ⟨kb,0,none⟩),.pointer (some ⟨kn,0,none⟩)] w0 fun e w'=>e=.returned (.bool (decide (wrap64 (x.o.time+days)≤now)))∧Only [] w0 w':=by
 obtain ⟨w1,hw1⟩:∃ w1,w1=w0.alloc (.cells #[.string (str x.o.key),.int .i64 x.o.size,.string (str x.o.etag),.int .i64 x.o.time,.slice x.q x.o.pcs.length x.c] 48):=⟨_,rfl⟩;have o1:Only [] w0 w1:=(by rw [hw1];exact Only.alloc _ _);have r1:Row w1 w0.heap.size 48 (zH x):=(by rw [hw1];exact Row.zV _ _ _ _ rfl);have c3:=r1.cell (i:=3) rfl;have b0:=(hb.zB o1).cell (i:=0) rfl;have n0:=(hn.zB o1).cell (i:=0) rfl;have d0:=o1.cell hd (by simp);obtain ⟨s,hs⟩:∃ s,wrap64 (x.o.time+days)=s:=⟨_,rfl⟩;rw [hs];have Ho:=Lib.hid o1;have Hw:=Lib.hid hw1
 unfold loV;clear hw1 o1 r1 hb hn hd
 go_enter Tryz.func91,Tryz.ntmps91
 go_upto_region 1 with (fail)
 rw [← Hw.out]
 go_quiet (fail)
 go_wp2_with fail
 go_ret
 exact ⟨rfl,Ho.out.zC (Only.drewN _ _)⟩
structure zCg (L:qK) (B:Nat) (now:Int) (w3:World) (i:Nat) (bs:List LBk) (wl:World):Prop where
 len:bs.length=L.bs.length
 val:bs.map LBk.b=(L.bs.take i).map (fun b=>vT now b.b) ++ (L.bs.drop i).map LBk.b
 own:qA wl B { L with bs:=bs }
 fp:∀ z∈({ L with bs:=bs }:qK).fp,z∈L.fp∨w3.heap.size≤z
 only:Only L.fp w3 wl
theorem zCg.same {L:qK} {B:Nat} {now:Int} {w3 wl wl':World} {i:Nat} {bs:List LBk} {b:LBk} (h:zCg L B now w3 i bs wl) (hb:L.bs[i]?=some b) (hd:vT now b.b=b.b) (ho:Only [] wl wl'):zCg L B now w3 (i+1) bs wl':=by
 refine ⟨h.len,?_,h.own.zB ho,h.fp,h.only.zC ho⟩;obtain ⟨hi,he⟩:=List.getElem?_eq_some_iff.1 hb;rw [h.val,List.drop_eq_getElem_cons hi,he,List.take_add_one,hb]
 simp [hd]
theorem zCg.at {L:qK} {B:Nat} {now:Int} {w3 wl:World} {i:Nat} {bs:List LBk} {b:LBk} (h:zCg L B now w3 i bs wl) (hb:L.bs[i]?=some b):∃ b',bs[i]?=some b'∧b'.b=b.b:=by
 obtain ⟨hi,he⟩:=List.getElem?_eq_some_iff.1 hb
 have h1:(bs.map LBk.b)[i]?=some b.b:=by
  rw [h.val,List.getElem?_append_right (by rw [List.length_map,List.length_take];omega),List.length_map,List.length_take,Nat.min_eq_left (by omega),Nat.sub_self,List.drop_eq_getElem_cons hi,he]
  rfl
 rw [List.getElem?_map] at h1
 cases h2:bs[i]? with
 | none=>rw [h2] at h1;cases h1
 | some b'=>rw [h2] at h1;exact ⟨b',rfl,by simpa using h1⟩
theorem zCg.more {L:qK} {B:Nat} {now:Int} {w3 wl wl':World} {i:Nat} {bs:List LBk} {b b':LBk} (h:zCg L B now w3 i bs wl) (hb:L.bs[i]?=some b) (hv:b'.b=vT now b.b) (hown:qA wl' B { L with bs:=bs.set i b' }) (hfp:∀ z∈({ L with bs:=bs.set i b' }:qK).fp,z∈L.fp∨w3.heap.size≤z) {S:List Nat} (ho:Only S wl wl') (hS:∀ z∈S,z∈L.fp∨w3.heap.size≤z):zCg L B now w3 (i+1) (bs.set i b') wl':=by
 refine ⟨by rw [List.length_set,h.len],?_,hown,hfp,h.only.trans ho (fun z hz hl=>(hS z hz).elim id (fun h=>absurd hl (by omega)))⟩;obtain ⟨hi,he⟩:=List.getElem?_eq_some_iff.1 hb;rw [List.map_set,h.val,List.set_append_right _ _ (by rw [List.length_map,List.length_take];omega),List.length_map,List.length_take,Nat.min_eq_left (by omega),Nat.sub_self,List.drop_eq_getElem_cons hi,he,List.map_cons,List.set_cons_zero,List.take_add_one,hb]
 simp [hv]
set_option maxHeartbeats 16000000 in
theorem zGK (L:qK) (now:Int) (B:Nat) (w0:World) (hown:qA w0 B L) (hB:B≤w0.heap.size) (hok:xS L.cat) :
  Calls Tryz.prog 48 #[lcV L,.int .i64 now] w0 fun e w'=>∃ L',e=.returned (lcV L')∧qA w' B L'∧L'.cat=⟨L.cat.qJ.map (vT now),L.cat.zAW⟩∧Only L.fp w0 w':=by
 obtain ⟨nb,hnb⟩:∃ n,L.bs.length=n:=⟨_,rfl⟩;obtain ⟨nf,hnf⟩:∃ n,L.fs.length=n:=⟨_,rfl⟩;obtain ⟨lpb,hpb⟩:∃ p,L.pb=p:=⟨_,rfl⟩;have hnb16:nb≤16:=(by have:=hok.bl;rw [show L.cat.qJ.length=L.bs.length from List.length_map ..] at this;omega);obtain ⟨w1,hw1⟩:∃ w1,w1=w0.alloc (.cells #[.slice lpb nb L.cb,.slice L.pf nf L.cf] 29):=⟨_,rfl⟩;have o1:Only [] w0 w1:=(by rw [hw1];exact Only.alloc _ _);have s1:w1.heap.size=w0.heap.size+1:=(by rw [hw1];simp);have r1:Row w1 (w0.heap.size) 29 [.slice lpb nb L.cb,.slice L.pf nf L.cf]:=by rw [hw1];exact Row.zV _ _ _ _ rfl
 obtain ⟨w2,hw2⟩:∃ w2,w2=w1.alloc (.cells #[.int .i64 now] 3):=⟨_,rfl⟩;have o2:Only [] w1 w2:=(by rw [hw2];exact Only.alloc _ _);have s2:w2.heap.size=w0.heap.size+1+1:=(by rw [hw2];simp [s1]);have r2:Row w2 (w0.heap.size+1) 3 [.int .i64 now]:=(by rw [← s1,hw2];exact Row.zV _ _ _ _ rfl);obtain ⟨w3,hw3⟩:∃ w3,w3=w2.alloc (.cells #[.slice none 0 0,.slice none 0 0] 29):=⟨_,rfl⟩;have o3:Only [] w2 w3:=(by rw [hw3];exact Only.alloc _ _);have s3:w3.heap.size=w0.heap.size+1+1+1:=(by rw [hw3];simp [s2]);have r3:Row w3 (w0.heap.size+1+1) 29 [.slice none 0 0,.slice none 0 0]:=by rw [← s2,hw3];exact Row.zV _ _ _ _ rfl
 replace r1:=r1.zB (o2.zC o3);replace r2:=r2.zB o3;have oAll:Only [] w0 w3:=((o1.zC o2).zC o3);rw [hw1] at hw2;rw [hw2] at hw3;have hlo:=hown.lo;have HI0:Hid (zCg L B now w3 0 L.bs w3):=Lib.hid ⟨rfl,by simp,hown.zB oAll,fun z hz=>.inl hz,Only.refl _ _⟩;have Hr1:=Lib.hid r1;have Hr2:=Lib.hid r2;have Hr3:=Lib.hid r3;have HO:=Lib.hid oAll;have Hw:=Lib.hid hw3;have Hsz:Hid (w3.heap.size=w0.heap.size+1+1+1):=Lib.hid s3;have HH:Hid (L.bs.length=nb∧L.fs.length=nf∧L.pb=lpb∧xS L.cat∧(∀ z∈L.fp,B≤z∧z < w0.heap.size)∧B≤w0.heap.size):=Lib.hid ⟨hnb,hnf,hpb,hok,hlo,hB⟩
 rw [show lcV L=.agg #[.slice lpb nb L.cb,.slice L.pf nf L.cf] by unfold lcV;rw [hnb,hnf,hpb]];have c0:=r1.cell (i:=0) rfl;clear hnb hnf hpb hlo hown hok hB r1 r2 r3 oAll hw3 s3 s2 s1 o1 o2 o3 hw1 hw2
 go_enter Tryz.func48,Tryz.ntmps48
 go_upto_region 1 with (fail)
 rw [← Hw.out];go_wp2_with fail;clear c0
 go_loopw [10] (fun a wl=>∃ (i:Nat) (bs:List LBk),a=.int .i64 (i:Int)∧i≤nb∧Hid (zCg L B now w3 i bs wl)) (fun a _=>nb - (intOf a).toNat)
 case atStart=>exact ⟨0,L.bs,rfl,Nat.zero_le _,HI0⟩
 case round =>
  clear HI0;obtain ⟨i,bs,rfl,hi,HI⟩:=hrel;have hnx:∀ z,w0.heap.size≤z→z ∉ L.fp:=fun z hz hm=>(by have:=(HH.out.2.2.2.2.1 z hm).2;omega);have hc:=Hr1.out.only HI.out.only (hnx _ (by omega));have hn1:=Hr2.out.only HI.out.only (hnx _ (by omega))
  by_cases hlt:i < nb
  ·obtain ⟨b0,hb0⟩:∃ b,L.bs[i]?=some b:=⟨_,List.getElem?_eq_getElem (by rw [HH.out.1];exact hlt)⟩;obtain ⟨b,hb,hbb⟩:=HI.out.at hb0;have hbk:yO b.b:=(by rw [hbb];exact HH.out.2.2.2.1.bk _ (List.mem_map_of_mem (List.mem_of_getElem? hb0)));obtain ⟨g,-,hg,-,-⟩:=HI.out.own.sb.rowOf (by rw [HI.out.len,HH.out.1];omega);obtain rfl:=HH.out.2.2.1.symm.trans hg;have hsb:zN wr B 60 5 (.slice (some ⟨g,0,none⟩) bs.length L.cb) bs.length (bs.flatMap zD):=(by have h:=HI.out.own.sb;rw [hg] at h;exact h);obtain ⟨rest,hrw,hrl,hnc,hcm,hgb,-⟩:=hsb.row;have hra:=jZ (rest:=rest) zQ hb
   obtain ⟨U,hU⟩:∃ U,U=bs.flatMap zD ++ rest:=⟨_,rfl⟩;rw [← hU] at hrw hrl hra;have hbm:=List.mem_of_getElem? hb;have hbo:=HI.out.own.bk b hbm
   have hgfp:g ∉ b.fp:=fun h=>by
    have h5:=HI.out.own.nd;unfold qK.fp at h5;rw [show ({ L with bs:=bs }:qK).pb=some ⟨g,0,none⟩ from hg] at h5;exact (List.nodup_append.1 h5).2.2 g (by simp [blk]) g (List.mem_append_right _ (List.mem_flatMap.2 ⟨b,hbm,h⟩)) rfl
   have hbfp:∀ z∈b.fp,z∈L.fp∨w3.heap.size≤z:=fun z hz=>HI.out.fp z (by unfold qK.fp;exact List.mem_append_right _ (List.mem_append_right _ (List.mem_flatMap.2 ⟨b,hbm,hz⟩)));have hgL:g∈L.fp:=(by unfold qK.fp;rw [hg];simp [blk]);obtain ⟨no,hno⟩:∃ n,b.os.length=n:=⟨_,rfl⟩;obtain ⟨nu,hnu⟩:∃ n,b.us.length=n:=⟨_,rfl⟩;have hatc:=hra;unfold zD at hatc;rw [hno,hnu] at hatc;obtain ⟨wt,hwt⟩:∃ wt,wt=wr.alloc (.cells #[.pointer (some ⟨g,i * 5,none⟩)] 106):=⟨_,rfl⟩;have ot:Only [] wr wt:=(by rw [hwt];exact Only.alloc _ _);have rt:Row wt wr.heap.size 106 [.pointer (some ⟨g,i * 5,none⟩)]:=by rw [hwt];exact Row.zV _ _ _ _ rfl
   have c0:=hc.cell (i:=0) rfl;have y2:=hatc.cell (hrw.zB ot) (r:=2) rfl;have t0:=rt.cell (i:=0) rfl;have hii:(i:Int) < (nb:Int):=(by omega);have Hwt:=Lib.hid hwt;have HG:Hid (L.bs[i]?=some b0∧bs[i]?=some b∧b.b=b0.b∧yO b.b∧L.pb=some ⟨g,0,none⟩∧U=bs.flatMap zD ++ rest∧U.length=L.cb * 5∧jF (i * 5) U (zD b)∧qZ wr B b∧g ∉ b.fp∧(∀ z∈b.fp,z∈L.fp∨w3.heap.size≤z)∧g∈L.fp∧b.os.length=no∧b.us.length=nu∧Row wr g 60 U):=Lib.hid ⟨hb0,hb,hbb,hbk,hg,hU,hrl,hra,hbo,hgfp,hbfp,hgL,hno,hnu,hrw⟩;have Hot:=Lib.hid ot
   have Hrt:=Lib.hid rt;have Hat:=Lib.hid hatc;have Hn1:=Lib.hid (hn1.zB ot);have Hrw:=Lib.hid (hrw.zB ot);have hrlt:w0.heap.size+1 < wr.heap.size:=hn1.lt;clear hb0 hb hbb hbk hg hsb hrw hrl hnc hcm hgb hra hU hbm hbo hgfp hbfp hgL hno hnu hatc hwt ot rt hc hn1 hnx
   go_upto_region 5 with (fail)
   rw [← Hwt.out];clear Hwt c0
   by_cases hd0:b.days=0
   ·have HI2:Hid (zCg L B now w3 (i+1) bs wt):=Lib.hid (HI.out.same HG.out.1 (by unfold vT;rw [if_pos (by rw [← HG.out.2.2.1];exact hd0)]) Hot.out);rw [hd0] at y2;clear hd0 HG HI Hot Hrt Hat Hn1 Hrw;go_wp2_with fail;refine ⟨⟨i+1,bs,by go_num,by omega,HI2⟩,?_⟩
    simp [intOf];omega
   ·have hq:(b.days == (0:Int))=false:=beq_eq_false_iff_ne.2 hd0;obtain ⟨OS,hOS⟩:∃ OS,b.os.filter (fun x=>!decide (wrap64 (x.o.time+b.days)≤now))=OS:=⟨_,rfl⟩;obtain ⟨ny,hny⟩:∃ ny,OS.length=ny:=⟨_,rfl⟩;have hgpo:g ∉ blk b.po:=fun h=>HG.out.2.2.2.2.2.2.2.2.2.1 (by unfold LBk.fp;exact List.mem_append_left _ h)
    have hpl:∀ z∈blk b.po,z≠w0.heap.size+1∧z < wr.heap.size:=fun z hz=>⟨fun e=>by
     rcases HG.out.2.2.2.2.2.2.2.2.2.2.1 z (by unfold LBk.fp;exact List.mem_append_left _ hz) with h | h
     ·have:=(HH.out.2.2.2.2.1 z h).2;omega
     ·have:=Hsz.out;omega,(HG.out.2.2.2.2.2.2.2.2.1.lo z (by unfold LBk.fp;exact List.mem_append_left _ hz)).2⟩
    have hdel:∀ (W:World),Only [] wt W→Calls Tryz.prog 90 #[.slice b.po no b.co,.func (.func 91) #[] #[.pointer (some ⟨wr.heap.size,0,none⟩),.pointer (some ⟨w0.heap.size+1,0,none⟩)]] W fun e' w'=>e'=.returned (.slice b.po ny b.co)∧zN w' B 48 5 (.slice b.po ny b.co) ny (OS.flatMap zH)∧Only (blk b.po) W w':=fun W hW=>by
     have h9:=HG.out.2.2.2.2.2.2.2.2.1.so.zB (Hot.out.zC hW);rw [HG.out.2.2.2.2.2.2.2.2.2.2.2.2.1] at h9
     have h:=zEr b.po no b.co B b.os (fun x=>decide (wrap64 (x.o.time+b.days)≤now)) (.pointer (some ⟨wr.heap.size,0,none⟩)) (.pointer (some ⟨w0.heap.size+1,0,none⟩)) W HG.out.2.2.2.2.2.2.2.2.2.2.2.2.1 (by have h8:=HG.out.2.2.2.1.ol;rw [show b.b.vC.length=b.os.length from List.length_map ..,HG.out.2.2.2.2.2.2.2.2.2.2.2.2.1] at h8;omega) h9 (fun x W2 h2=>by
      have hrt2:=(Hrt.out.zB hW).only h2 (fun hm=>by have:=(hpl _ hm).2;omega);have hn2:=(Hn1.out.zB hW).only h2 (fun hm=>by have:=(hpl _ hm).1;omega);have hd2:=h2.cell (Hat.out.cell (Hrw.out.zB hW) (r:=2) rfl) hgpo
      exact zIK x g (i * 5) wr.heap.size (w0.heap.size+1) b.days now W2 hrt2 hn2 hd2)
     rw [hOS,hny] at h;exact h
    have HD:=Lib.hid hdel;have HY:Hid (b.os.filter (fun x=>!decide (wrap64 (x.o.time+b.days)≤now))=OS∧OS.length=ny∧¬ b.days=0):=Lib.hid ⟨hOS,hny,hd0⟩;clear hdel hOS hny hd0
    go_upto_region 6 with (fail)
    clear y2 t0;have HatL:=Hat.out;have hgp:g ∉ blk b.po:=hgpo;have hgN:g < wt.heap.size:=Hrw.out.lt
    have hnP:wr.heap.size ∉ g :: blk b.po:=fun hm=>by
     rcases List.mem_cons.1 hm with h | h
     ·have:=(HH.out.2.2.2.2.1 g HG.out.2.2.2.2.2.2.2.2.2.2.2.1).2;omega
     ·have:=(hpl _ h).2;omega
    have HSO:∀ z∈[g],z < wt.heap.size∧z ∉ blk b.po:=fun z hz=>(by rw [List.mem_singleton.1 hz];exact ⟨hgN,hgp⟩);have hRr:∀ x,(Only (g :: blk b.po)) x x:=fun x=>Only.refl _ _;have hRt:∀ x y z,(Only (g :: blk b.po)) x y→(Only (g :: blk b.po)) y z→(Only (g :: blk b.po)) x z:=fun _ _ _ h k=>h.trans k (fun _ h _=>h);have hRd:(Only (g :: blk b.po)) wt wt.drew:=(Only.drew _).mono (by simp)
    have hRs:∀ j w,zZ [(6,Only (blk b.po)),(9,Only [g])] j w w:=zZ.refl (by
     intro x hx w;simp only [List.mem_cons,List.not_mem_nil,or_false] at hx
     rcases hx with rfl | rfl <;> exact Only.refl _ _)
    have hC0:∀ d∈[6,9],(fun (i:Nat) (a:World)=>(i=6→Only [] wt a)∧(i=9→Row a g 60 U)) d wt.drew:=fun _ _=>⟨fun _=>Only.drew _,fun _=>Hrw.out.zB (Only.drew _)⟩;refine zU (Only (g :: blk b.po)) (zZ [(6,Only (blk b.po)),(9,Only [g])]) (fun (i:Nat) (a:World)=>(i=6→Only [] wt a)∧(i=9→Row a g 60 U)) [6,9] [[(6,none)],[(6,none)],[(23,some 0)],[(24,some 0)],[(25,some 0)],[(6,none),(3,none)],[(26,some 1),(27,some 0)],[(22,some 6)],[(29,some 0)],[(30,some 0),(28,some 2)]] [] [0] [none,none,none,none,none,none,none,none,none,none,none,none,none,none,none,none,none,none,none,none,none,none,some 22,some 23,some 24,some 25,some 26,some 27,some 28,some 29,some 30,none,none] (by kernel_rfl) rfl (by kernel_rfl) hRr hRt hRs hRd hC0 (by kernel_rfl) (by kernel_rfl) ?_
    apply zF
    ·rintro a w hR hC ⟨(e6:_=_),-⟩;refine zA rfl fun K hK=>?_;have gp:=hR.cell (Hrt.out.cell (i:=0) rfl) hnP;go_simp;exact hK _ _ rfl ⟨hRr _,hRs _ _,fun _ _ _ _ h=>h⟩
    apply zF
    ·rintro a w hR hC ⟨(e6:_=_),-⟩;refine zA rfl fun K hK=>?_;have gp:=hR.cell (Hrt.out.cell (i:=0) rfl) hnP;go_simp;exact hK _ _ rfl ⟨hRr _,hRs _ _,fun _ _ _ _ h=>h⟩
    apply zF
    ·rintro a w hR hC ⟨(e23:_=_),-⟩;refine zA rfl fun K hK=>?_;go_simp;exact hK _ _ rfl ⟨hRr _,hRs _ _,fun _ _ _ _ h=>h⟩
    apply zF
    ·rintro a w hR hC ⟨(e24:_=_),-⟩;refine zA rfl fun K hK=>?_;go_simp;exact hK _ _ rfl ⟨hRr _,hRs _ _,fun _ _ _ _ h=>h⟩
    apply zF
    ·rintro a w hR hC ⟨(e25:_=_),-⟩;refine zA rfl fun K hK=>?_;have rz:=(hC 9 (by simp) (by kernel_rfl)).2 rfl;have z3:=HatL.cell rz (r:=3) rfl;go_simp;exact hK _ _ rfl ⟨hRr _,hRs _ _,fun _ _ _ _ h=>h⟩
    apply zF
    ·rintro a w hR hC ⟨(e6:_=_),(e3:_=_),-⟩;refine zA rfl fun K hK=>?_;go_simp;exact hK _ _ rfl ⟨hRr _,hRs _ _,fun _ _ _ _ h=>h⟩
    refine ⟨SlP zH 48 5 B b.po wt.heap.size ny OS,zL SlP.stable (by intro x hx hk;simp only [List.mem_cons,List.not_mem_nil,or_false] at hx;rcases hx with rfl | rfl <;> first | exact Bool.noConfusion (hk.symm.trans (by kernel_rfl:_=true)) | (refine SlP.jC ?_;exact HSO;done)),fun a w hR hC hf=>?_,?_⟩
    ·obtain ⟨e26,e27,-⟩:=hf;replace e26:a.tmps.getD 26 undef=_:=e26;replace e27:a.tmps.getD 27 undef=_:=e27;refine zA rfl fun K hK=>?_;have hC5:=(hC 6 (by simp) (by kernel_rfl)).1 rfl;go_simp;(with_reducible refine (HD.out w hC5).mono ?_);rintro e w' ⟨rfl,h1,h2⟩;have h3:∀ z∈blk b.po,z∈blk b.po∨wt.heap.size≤z:=fun z hz=>.inl hz;exact hK _ _ ⟨_,_,rfl,h1,h3⟩ ⟨h2.mono (fun x hx=>List.mem_cons_of_mem _ hx),h2,fun i hi hne ha hc=>⟨fun e=>absurd e hne,fun e=>(hc.2 e).only h2 hgp⟩⟩
    apply zF
    ·rintro a w hR hC ⟨(e22:_=_),-⟩;refine zA rfl fun K hK=>?_;go_simp;exact hK _ _ rfl ⟨hRr _,hRs _ _,fun _ _ _ _ h=>h⟩
    apply zF
    ·rintro a w hR hC ⟨(e29:_=_),-⟩;refine zA rfl fun K hK=>?_;go_simp;exact hK _ _ rfl ⟨hRr _,hRs _ _,fun _ _ _ _ h=>h⟩
    refine ⟨SlR zH 48 5 B b.po wt.heap.size ny OS (g) 60 U (i * 5+3),zL SlR.stable (by intro x hx hk;simp only [List.mem_cons,List.not_mem_nil,or_false] at hx;rcases hx with rfl | rfl <;> exact Bool.noConfusion (hk.symm.trans (by kernel_rfl:_=true))),fun a w hR hC hf=>?_,?_⟩
    ·obtain ⟨e30,e28,-⟩:=hf;replace e30:a.tmps.getD 30 undef=_:=e30;replace e28:SlP zH 48 5 B b.po wt.heap.size ny OS (a.tmps.getD 28 undef) w:=e28;refine zA rfl fun K hK=>?_;obtain ⟨p',c',e28,hown',hb'⟩:=e28;have rz:=(hC 9 (by simp) (by kernel_rfl)).2 rfl;have zc:=HatL.cell rz (r:=3) rfl;have zf:=rz.free (i * 5+3);go_simp;have hst:=Only.setCell w ⟨g,i * 5+3,none⟩ (.slice p' (ny) c');refine hK undef _ ⟨p',c',hown'.jL hst (fun z hz hm=>?_),hb',rz.setCell (i * 5+3) _⟩ ⟨hst.mono (by simp),hst,fun i hi hne ha hc=>?_⟩
     ·rcases hb' z hz with h4 | h4
      ·exact (HSO z hm).2 h4
      ·have:=(HSO z hm).1;omega
     ·simp only [List.mem_cons,List.not_mem_nil,or_false] at hi
      rcases hi with rfl | rfl
      ·exact Bool.noConfusion (ha.symm.trans (by kernel_rfl:_=true))
      ·exact absurd rfl hne
    intro fb wb hRb hf hlb;dsimp only [qE];obtain ⟨l9,-⟩:=hlb;replace l9:∃ v,(SlR zH 48 5 B b.po wt.heap.size ny OS (g) 60 U (i * 5+3)) v wb:=l9;obtain ⟨_,p',c',h1,h2,h3⟩:=l9;obtain ⟨hb0,hb,hbb,hbk,hg,hU,hrl,hra,hbo,hgfp,hbfp,hgL,hno,hnu,hrw⟩:=HG.out;obtain ⟨hOS,hny,hd0⟩:=HY.out;have hbt:=hbo.zB Hot.out
    have hbo':=hbt.vC (S:=g :: blk b.po) (os':=OS) (p':=p') (c':=c') (new:=[]) hRb (fun z hz=>by
     rcases List.mem_cons.1 hz with rfl | hz
     ·exact .inr ⟨hgfp,by simp⟩
     ·exact .inl hz) (by rw [hny];exact h1) (fun y hy=>.inl (by rw [← hOS] at hy;exact (List.mem_filter.1 hy).1)) h2 ⟨_,List.Perm.refl _,zAQ (by rw [← hOS];exact List.filter_sublist)⟩ List.nodup_nil (by simp)
    obtain ⟨hb1,hb2⟩:=hbo'
    have hrc:jF (i * 5) (U.set (i * 5+3) (.slice p' ny c')) (zD { b with os:=OS,po:=p',co:=c' }):=by
     have h9:=hra.set (i:=3) (.slice p' ny c') (by rw [zQ];omega);rw [← hny] at h9 ⊢;exact h9
    have hset:=qA.zJV (rest:=rest) (b':={ b with os:=OS,po:=p',co:=c' }) (HI.out.own.zB Hot.out) hg hb (hRb.mono (fun z hz=>by
     rcases List.mem_cons.1 hz with rfl | hz
     ·exact List.mem_cons_self ..
     ·exact List.mem_cons_of_mem _ (by unfold LBk.fp;exact List.mem_append_left _ hz))) (by rw [← hU];exact hrl) h3 (by rw [← hU];exact Outside.set (i * 5) 5 U _ (by omega) (by omega)) hrc hb1 (fun z hz=>(hb2 z hz).elim .inl (fun h=>h.elim (fun h=>by cases h) .inr))
    have hval:({ b with os:=OS,po:=p',co:=c' }:LBk).b=vT now b0.b:=by
     rw [← hbb];unfold vT;rw [if_neg (show ¬ b.b.days=0 from hd0)];show jE.mk b.name b.time b.days (OS.map qG.o) (b.us.map qN.u)=_;rw [← hOS];show _=jE.mk b.name b.time b.days ((b.os.map qG.o).filter _) (b.us.map qN.u);rw [List.filter_map]
     congr 2
     refine List.filter_congr (fun x hx=>?_);have hxo:=hbk.ob x.o (List.mem_map_of_mem hx);have hw:wrap64 (x.o.time+b.days)=x.o.time+b.days:=IntWalk.wrap64_in _ (by have h1:=hxo.lo;have h2:=hxo.hi;have h3:0≤b.days:=hbk.dlo;have h4:b.days≤1099511627776:=hbk.dhi;omega);rw [hw]
     rfl
    have HI2:Hid (zCg L B now w3 (i+1) (bs.set i { b with os:=OS,po:=p',co:=c' }) wb):=Lib.hid (HI.out.more hb0 hval hset (fun z hz=>by
     have h9:z∈blk L.pb ++ (blk L.pf ++ (bs.set i { b with os:=OS,po:=p',co:=c' }).flatMap LBk.fp):=hz
     rcases List.mem_append.1 h9 with k | k
     ·exact .inl (by unfold qK.fp;exact List.mem_append_left _ k)
     ·rcases List.mem_append.1 k with k | k
      ·exact .inl (by unfold qK.fp;exact List.mem_append_right _ (List.mem_append_left _ k))
      ·obtain ⟨y,hy,hzy⟩:=List.mem_flatMap.1 k
       rcases List.mem_or_eq_of_mem_set hy with hy | rfl
       ·exact HI.out.fp z (by unfold qK.fp;exact List.mem_append_right _ (List.mem_append_right _ (List.mem_flatMap.2 ⟨y,hy,hzy⟩)))
       ·rcases hb2 z hzy with k | k | k
        ·exact hbfp z k
        ·cases k
        ·exact .inr (by have:=HI.out.only.size;have:=Hot.out.size;omega)) (Only.trans (Hot.out.mono (fun _ h=>by cases h)) hRb (fun _ h _=>h)) (fun z hz=>by
     rcases List.mem_cons.1 hz with rfl | hz
     ·exact .inl hgL
     ·exact hbfp z (by unfold LBk.fp;exact List.mem_append_left _ hz)))
    clear hb0 hb hbb hbk hg hU hrl hra hbo hgfp hbfp hgL hno hnu hrw hOS hny hd0 hbt hb1 hb2 hrc hset hval h1 h2 h3 hRb hRr hRt hRd hRs hC0 HSO HatL hgp hgN hnP hpl hgpo HG HY HD HI Hot Hrt Hat Hn1 Hrw;go_wp2_with fail;refine ⟨⟨i+1,bs.set i { b with os:=OS,po:=p',co:=c' },by go_num,by omega,HI2⟩,?_⟩
    simp [intOf];omega
  ·obtain rfl:i=nb:=(by omega);have hr3:=Hr3.out.only HI.out.only (hnx _ (by omega));have c0:=hc.cell (i:=0) rfl;have c1:=hc.cell (i:=1) rfl;have e0:=hr3.cell (i:=0) rfl;have e1:=hr3.cell (i:=1) rfl;have f0:=hr3.free 0;have f1:=hr3.free 1;have hrz:=hr3.set2 (.slice lpb i L.cb) (.slice L.pf nf L.cf);have hst:=qB wr (w0.heap.size+1+1) (.slice lpb i L.cb) (.slice L.pf nf L.cf);obtain ⟨wz,hwz⟩:∃ wz,wz=(wr.setCell ⟨w0.heap.size+1+1,0,none⟩ (.slice lpb i L.cb)).setCell ⟨w0.heap.size+1+1,1,none⟩ (.slice L.pf nf L.cf):=⟨_,rfl⟩;rw [← hwz] at hrz hst
   have hA2:w0.heap.size+1+1 ∉ ({ L with bs:=bs }:qK).fp:=fun hm=>by
    rcases HI.out.fp _ hm with h | h
    ·exact hnx _ (by omega) h
    ·have:=Hsz.out;omega
   have HE:Hid (qA wz B { L with bs:=bs }∧bs.map LBk.b=(L.bs.map LBk.b).map (vT now)∧Only L.fp w0 wz∧bs.length=i∧L.fs.length=nf∧L.pb=lpb):=Lib.hid ⟨HI.out.own.only hst (fun z hz hm=>hA2 (by rw [← List.mem_singleton.1 hm];exact hz)),by
    have h:=HI.out.val;rw [List.take_of_length_le (by rw [HH.out.1];exact Nat.le_refl _),List.drop_eq_nil_of_le (by rw [HH.out.1];exact Nat.le_refl _)] at h
    rw [h,List.map_map];simp [Function.comp],((HO.out.mono (fun _ h=>by cases h)).trans HI.out.only (fun _ h _=>h)).zY hst (fun z hz=>by rw [List.mem_singleton.1 hz];omega),by rw [HI.out.len,HH.out.1],HH.out.2.1,HH.out.2.2.1⟩
   have Hrz:=Lib.hid hrz;have Hwz:=Lib.hid hwz;clear hr3 hrz hst hwz hA2 hnx hc hn1 HI;go_wp2_with fail;rw [← Hwz.out];refine bodyPost_ret (qO rfl _ _ _ rfl Hrz.out Tryz.underlying29 vL) rfl ⟨{ L with bs:=bs },?_,HE.out.1,?_,HE.out.2.2.1⟩
   ·unfold lcV;dsimp only;rw [HE.out.2.2.2.1,HE.out.2.2.2.2.1,HE.out.2.2.2.2.2]
   ·show Cat.mk (bs.map LBk.b) L.fs=_;rw [HE.out.2.1];rfl
end
end Go.Proofs.YtfeglnpmpgipiaaGreatDoor
