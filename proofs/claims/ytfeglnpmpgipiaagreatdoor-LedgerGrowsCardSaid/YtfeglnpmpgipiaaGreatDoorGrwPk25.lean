/- GrwPk, part 25: InsIdW, SetIdW, InsObW, SetObW, InsUpW. -/
import Derived.Test.YtfeglnpmpgipiaaGreatDoorGrwPk09
import Derived.Test.YtfeglnpmpgipiaaGreatDoorGrwPk11
import Derived.Test.YtfeglnpmpgipiaaGreatDoorGrwPk12
import Derived.Test.YtfeglnpmpgipiaaGreatDoorGrwPk13
import Derived.Test.YtfeglnpmpgipiaaGreatDoorGrwPk15
import Derived.Lib.Overlaps
set_option linter.unusedVariables false
set_option maxRecDepth 100000
set_option linter.unusedSimpArgs false
namespace Go.Proofs.YtfeglnpmpgipiaaGreatDoor
section
open Go.RowKit
set_option maxHeartbeats 8000000 in
theorem zGj (p:Option Addr) (n c:Nat) (xs:List Cid) (x:Cid) (i vb base:Nat) (w:World) (hown:zN w base 31 3 (.slice p n c) n (xs.flatMap zI)) (hbase:base≤w.heap.size) (hl:xs.length=n) (hin:i≤n) (hnb:n≤1000000) (hv:Row w vb 31 (zI x)) (hvp:vb ∉ blk p) :
  Calls Tryz.prog 95 #[.slice p n c,.int .i64 (i:Int),.slice (some ⟨vb,0,none⟩) 1 1] w fun e' w'=>∃ p' c',e'=.returned (.slice p' (n+1) c')∧zN w' base 31 3 (.slice p' (n+1) c') (n+1) ((xs.take i ++ x :: xs.drop i).flatMap zI)∧Only (blk p) w w'∧∀ z∈blk p',z∈blk p∨w.heap.size≤z:=by
 generalize hYS:xs.take i ++ x :: xs.drop i=YS
 by_cases hi:i=n
 ·subst hi;obtain ⟨p',c',w2,hr,o2,h2⟩:=xN (P:=Tryz.prog) (t:=27) (ty:=27) (m:=1) (c:=1) (q:=some ⟨vb,0,none⟩) (news:=zI x) w Tryz.underlying27 Tryz.infoId rfl (by omega) hown hv.rd0 (by rw [qD]) (by simp) (vP x) (by omega) (by omega) hbase;have hat:=xR (P:=Tryz.prog) (t:=27) (ty:=27) (m:=1) (c:=1) (q:=some ⟨vb,0,none⟩) (news:=zI x) w Tryz.underlying27 Tryz.infoId rfl (by omega) hown hv.rd0 (by rw [qD]) (by simp) (vP x) (by omega) (by omega) hr;have Hr:=Lib.hid hr
  have HE:Hid (zN w2 base 31 3 (.slice p' (i+1) c') (i+1) (YS.flatMap zI)∧Only (blk p) w w2∧∀ z∈blk p',z∈blk p∨w.heap.size≤z):=Lib.hid ⟨by
   rw [← hYS,List.take_of_length_le (by omega),List.drop_eq_nil_of_le (by omega),List.flatMap_append,List.flatMap_cons,List.flatMap_nil,List.append_nil];exact o2,h2,fun z hz=>by
   rcases hat with rfl | ⟨g,rfl,hg⟩
   ·exact .inl hz
   ·simp [blk] at hz;subst hz;exact .inr hg⟩
  clear hr o2 h2 hat hown hv hvp hbase hYS
  go_enter Tryz.func95,Tryz.ntmps95
  go_wp2_with (first | (at_builtin;refine qP (s:=.tmp 23) (x:=.tmp 24) rfl rfl rfl rfl Hr.out ?_))
  all_goals
   go_ret
   exact ⟨p',c',rfl,HE.out⟩
 ·have hlt:i < n:=(by omega);obtain ⟨g,rfl,hgb,hgl⟩:=hown.at (by omega);have hvw:=hown.view;have hold:Rd w (some ⟨g,0,none⟩) ((xs.take i).flatMap zI):=zBw qD hvw.2.2.1 i
  have hsrc:∀ W:World,Only [] w W→∀ j v,((xs.drop i).flatMap zI)[j]?=some v→W.cell? ((⟨g,i * 3,none⟩:Addr).add j)=some v:=fun W ho j v hj=>by
   rw [← xU zI 3 qD,List.getElem?_drop] at hj;have:=(hvw.2.2.1.zB ho).cells _ _ hj;rw [Addr.add_lit] at this ⊢;rw [Nat.zero_add] at this;exact this
  have hA:((xs.take i).flatMap zI).length=i * 3:=(by rw [qR zI 3 qD,List.length_take];congr 1;omega);have hB:((xs.drop i).flatMap zI).length=(n - i) * 3:=(by rw [qR zI 3 qD,List.length_drop,hl]);have hsz:(Tryz.prog.info? 31).map (·.size)=some 3:=(by kernel_rfl);have h1B:∀ v∈(xs.drop i).flatMap zI,v.oneCell'=true:=fun v hv=>vD zI vP hv;have hxl:=qD x;have hgv:g≠vb:=fun e1=>hvp (by simp [blk,e1]);have hi0:¬ ((i:Int)=(n:Int)):=(by omega);have hq0:((i:Int) == (n:Int))=false:=beq_eq_false_iff_ne.2 hi0
  have hw1:IntKind.i64.wrap ((n:Int)+1)=(n:Int)+1:=(by rw [IntKind.wrap_i64];omega);have hw2:IntKind.i64.wrap ((i:Int)+1)=(i:Int)+1:=(by rw [IntKind.wrap_i64];omega);have hini:(i:Int)≤(n:Int):=(by omega);have hvsrc:∀ W:World,Row W vb 31 (zI x)→∀ j v,(zI x)[j]?=some v→W.cell? ((⟨vb,0,none⟩:Addr).add j)=some v:=fun W r j v hj=>by rw [Addr.add_lit,Nat.zero_add];exact r.cell hj
  by_cases hroom:n+1≤c
  ·-- room: in place
   obtain ⟨rest,hrow,hlen,hnc,hcm,hgB,hA0⟩:=hown.row;obtain ⟨L,hL⟩:∃ L,L=xs.flatMap zI ++ rest:=⟨_,rfl⟩;rw [← hL] at hrow hlen;have hAt:L.take (i * 3)=(xs.take i).flatMap zI:=(by rw [hL,List.take_append_of_le_length (by rw [hA0];exact Nat.mul_le_mul_right _ hin),yI zI 3 qD]);have e1:(i+1) * 3=i * 3+3:=Nat.succ_mul i 3;have hnk:i * 3+3+(n - i) * 3=(n+1) * 3:=(by rw [← e1,← Nat.add_mul];congr 1;omega);have hcK:=Nat.mul_le_mul_right 3 hroom
   have hsrcL:∀ W:World,Row W g 31 L→∀ j v,((xs.drop i).flatMap zI)[j]?=some v→W.cell? ((⟨g,i * 3,none⟩:Addr).add j)=some v:=fun W r j v hj=>by
    rw [Addr.add_lit];refine r.cell ?_;have hj1:=(List.getElem?_eq_some_iff.1 hj).1;have hik:=Nat.mul_le_mul_right 3 hin;have hdd:i * 3+(n - i) * 3=n * 3:=(by rw [← Nat.add_mul];congr 1;omega);rw [hL,List.getElem?_append_left (by rw [hA0];omega),← List.getElem?_drop,xU zI 3 qD];exact hj
   have hcp1:=fun (W:World) (r:Row W g 31 L) (ty:TypeId) (dl dc sl sc:Nat) (hm:Nat.min sl dl=n - i)=>yG (P:=Tryz.prog) (dT:=27) (sT:=27) (ty:=ty) W (dLen:=dl) (dCap:=dc) (sLen:=sl) (sCap:=sc) (m:=n - i) (o:=(i+1) * 3) (a:=⟨g,i * 3,none⟩) Tryz.underlying27 hsz r hm hB (hsrcL W r) (by rw [hB,hlen];omega) h1B;have hcp2:=fun (W:World) (r:Row W g 31 (L.take ((i+1) * 3) ++ (xs.drop i).flatMap zI ++ L.drop ((i+1) * 3+((xs.drop i).flatMap zI).length))) (rx:Row W vb 31 (zI x)) (ty:TypeId) (dl dc:Nat) (hm:Nat.min 1 dl=1)=>yG (P:=Tryz.prog) (dT:=27) (sT:=27) (ty:=ty) W (dLen:=dl) (dCap:=dc) (sLen:=1) (sCap:=1) (m:=1) (o:=i * 3) (a:=⟨vb,0,none⟩) Tryz.underlying27 hsz r hm (by rw [hxl]) (hvsrc W rx) (by rw [hxl];simp only [List.length_append,List.length_take,List.length_drop];omega) (vP x)
   have hfin:=zFA hA hxl hB (R:=L) (by rw [hlen];omega) hAt
   have hov:∀ lb cb,(callFunc 130 #[.slice (some ⟨vb,0,none⟩) 1 1,.slice (some ⟨g,(i+1) * 3,none⟩) lb cb]).run Tryz.prog w=.ok (.value (.bool false)) w:=fun lb cb=>by
    rw [run_callFunc_extern Tryz.func130 (by kernel_rfl) (by kernel_rfl) (by kernel_rfl) (e:=Extern.SlicesOverlaps.overlaps #[27,27] #[4]) (by kernel_rfl),
     Lib.run_overlaps_apart w 27 4 31 Tryz.underlying27 3 (fun w=>by unfold sizeOf typeInfo;obtain ⟨ii,hii,-,hs2,-⟩:=info_partsK Tryz.infoId;simp [hii,hs2]) ⟨vb,0,none⟩ ⟨g,(i+1) * 3,none⟩ 1 1 lb cb (fun e'=>hgv e'.symm) 31 31 _ _ (vH hv) (vH hrow) (by rw [List.size_toArray,hlen];omega) (hv.free 0) (hv.free _)]
    rfl
   have Hcp1:=Lib.hid hcp1;have Hcp2:=Lib.hid hcp2;have HF:Hid (base≤g∧n+1≤c∧c≤9223372036854775807∧L.length=c * 3∧xs.length=n∧i * 3+3+(n - i) * 3=(n+1) * 3∧(n+1) * 3≤c * 3∧((xs.drop i).flatMap zI).length=(n - i) * 3∧((xs.take i).flatMap zI).length=i * 3):=Lib.hid ⟨hgB,hroom,hcm,hlen,hl,hnk,hcK,hB,hA⟩;have Hfin:=Lib.hid hfin;have HYS:=Lib.hid hYS;have Hr0:=Lib.hid hrow;have Hv0:=Lib.hid hv;have Hgv:=Lib.hid hgv;have hroomI:(n:Int)+1≤(c:Int):=(by omega);have hroomJ:¬ (c:Int) < (n:Int)+1:=by omega
   have htn:((i:Int)+1).toNat=i+1:=(by omega);have htn2:((n:Int)+1).toNat=n+1:=(by omega);have hc1:¬ c=i+1:=(by omega);have hc0:¬ c=i:=(by omega);have hi01:(0:Int)≤(i:Int)+1:=(by omega);have hin1:(i:Int)+1≤(n:Int)+1:=(by omega);have hin2:(i:Int)≤(n:Int)+1:=(by omega);have hn01:(0:Int)≤(n:Int)+1:=(by omega);clear hYS hcp1 hcp2 hfin hL hAt hA0 hgB hcm hlen hnk hcK hrow hsrcL hold hsrc hA hB hown hv hvsrc h1B hsz hxl e1 hvp hgv hvw
   go_enter Tryz.func95,Tryz.ntmps95
   go_upto_region 15 with (simp only [hov])
   clear hov;have hRr:∀ x,(Only [g]) x x:=fun x=>Only.refl _ _;have hRt:∀ x b e,(Only [g]) x b→(Only [g]) b e→(Only [g]) x e:=fun _ _ _ h k=>h.trans k (fun _ h _=>h);have hRd:(Only [g]) w w.drew:=(Only.drew _).mono (by simp)
   have hRs:∀ j w,zZ [(8,Only [g])] j w w:=zZ.refl (by
    intro x hx w;simp only [List.mem_cons,List.not_mem_nil,or_false] at hx
    rcases hx with rfl
    exact Only.refl _ _)
   have hC0:∀ d∈[8],(fun (_:Nat) (a:World)=>Row a g 31 L) d w.drew:=fun _ _=>Hr0.out.zB (Only.drew _);refine zU (Only [g]) (zZ [(8,Only [g])]) (fun (_:Nat) (a:World)=>Row a g 31 L) [8] [[(0,none)],[(1,none)],[(7,none)],[(70,some 1),(71,some 0)],[(69,some 3),(72,some 0)],[(0,none)],[(1,none)],[(74,some 1),(75,some 0)],[(73,some 3),(76,some 0)]] [] [0] [none,none,none,none,none,none,none,none,none,none,none,none,none,none,none,none,none,none,none,none,none,none,none,none,none,none,none,none,none,none,none,none,none,none,none,none,none,none,none,none,none,none,none,none,none,none,none,none,none,none,none,none,none,none,none,none,none,none,none,none,none,none,none,none,none,none,none,none,none,some 69,some 70,some 71,some 72,some 73,some 74,some 75,some 76,some 77,none,none,none,none,none,none,none,none,none,none,none,none,none,none,none,none,none] (by kernel_rfl) rfl (by kernel_rfl) hRr hRt hRs hRd hC0 (by kernel_rfl) (by kernel_rfl) ?_
   apply zF
   ·rintro a w hR hC ⟨(e0:_=_),-⟩;refine zA rfl fun K hK=>?_;go_simp;exact hK _ _ rfl ⟨hRr _,hRs _ _,fun _ _ _ _ h=>h⟩
   apply zF
   ·rintro a w hR hC ⟨(e1:_=_),-⟩;refine zA rfl fun K hK=>?_;go_simp;exact hK _ _ rfl ⟨hRr _,hRs _ _,fun _ _ _ _ h=>h⟩
   apply zF
   ·rintro a w hR hC ⟨(e7:_=_),-⟩;refine zA rfl fun K hK=>?_;go_simp;exact hK _ _ rfl ⟨hRr _,hRs _ _,fun _ _ _ _ h=>h⟩
   apply zF
   ·rintro a w hR hC ⟨(e70:_=_),(e71:_=_),-⟩;refine zA rfl fun K hK=>?_;go_simp;exact hK _ _ rfl ⟨hRr _,hRs _ _,fun _ _ _ _ h=>h⟩
   apply zF
   ·rintro a w hR hC ⟨(e69:_=_),(e72:_=_),-⟩;refine zA rfl fun K hK=>?_;go_simp;exact hK _ _ rfl ⟨hRr _,hRs _ _,fun _ _ _ _ h=>h⟩
   apply zF
   ·rintro a w hR hC ⟨(e0:_=_),-⟩;refine zA rfl fun K hK=>?_;go_simp;exact hK _ _ rfl ⟨hRr _,hRs _ _,fun _ _ _ _ h=>h⟩
   apply zF
   ·rintro a w hR hC ⟨(e1:_=_),-⟩;refine zA rfl fun K hK=>?_;go_simp;exact hK _ _ rfl ⟨hRr _,hRs _ _,fun _ _ _ _ h=>h⟩
   apply zF
   ·rintro a w hR hC ⟨(e74:_=_),(e75:_=_),-⟩;refine zA rfl fun K hK=>?_;go_simp;exact hK _ _ rfl ⟨hRr _,hRs _ _,fun _ _ _ _ h=>h⟩
   refine ⟨qH g 31 (L.take ((i+1) * 3) ++ (xs.drop i).flatMap zI ++ L.drop ((i+1) * 3+((xs.drop i).flatMap zI).length)),zL qH.stable (by intro x hx hk;simp only [List.mem_cons,List.not_mem_nil,or_false] at hx;rcases hx with rfl;exact Bool.noConfusion (hk.symm.trans (by kernel_rfl:_=true))),fun a w hR hC hf=>?_,?_⟩
   ·obtain ⟨e73,e76,-⟩:=hf;replace e73:a.tmps.getD 73 undef=_:=e73;replace e76:a.tmps.getD 76 undef=_:=e76;refine zA rfl fun K hK=>?_;have rz:Row w g 31 L:=hC 8 (by simp) (by kernel_rfl);have hst:=Only.setRow w g ((L.take ((i+1) * 3) ++ (xs.drop i).flatMap zI ++ L.drop ((i+1) * 3+((xs.drop i).flatMap zI).length))).toArray;refine yV (s:=.tmp 73) (x:=.tmp 76) rfl e73 e76 (Hcp1.out w rz _ _ _ _ _ (by simp only [Nat.min_def];split <;> omega)) ?_;exact hK _ _ (rz.setRow _) ⟨hst,hst,fun i hi hne ha hc=>absurd hi (by simp;omega)⟩
   intro f15 w15 hR15 hf hl15;dsimp only [qE];obtain ⟨l8,-⟩:=hl15;replace l8:∃ v,(qH g 31 (L.take ((i+1) * 3) ++ (xs.drop i).flatMap zI ++ L.drop ((i+1) * 3+((xs.drop i).flatMap zI).length))) v w15:=l8;have r1:Row w15 g 31 (L.take ((i+1) * 3) ++ (xs.drop i).flatMap zI ++ L.drop ((i+1) * 3+((xs.drop i).flatMap zI).length)):=(by obtain ⟨v,h⟩:=l8;exact h);have rx:=Hv0.out.only hR15 (by simpa using fun e=>Hgv.out e.symm);obtain ⟨h1,h2,h3,h4,h5,h6,h7,h8,h9⟩:=HF.out;obtain ⟨w4,hw4⟩:∃ w4,w4=w15.setRow g ((L.take ((i+1) * 3) ++ (xs.drop i).flatMap zI ++ L.drop ((i+1) * 3+((xs.drop i).flatMap zI).length)).take (i * 3) ++ zI x ++ (L.take ((i+1) * 3) ++ (xs.drop i).flatMap zI ++ L.drop ((i+1) * 3+((xs.drop i).flatMap zI).length)).drop (i * 3+(zI x).length)).toArray:=⟨_,rfl⟩
   have H2:=fun ty dl dc hm=>Hcp2.out w15 r1 rx ty dl dc hm;have o4:Only [g] w15 w4:=(by rw [hw4];exact Only.setRow _ _ _);have r4:=r1.setRow ((L.take ((i+1) * 3) ++ (xs.drop i).flatMap zI ++ L.drop ((i+1) * 3+((xs.drop i).flatMap zI).length)).take (i * 3) ++ zI x ++ (L.take ((i+1) * 3) ++ (xs.drop i).flatMap zI ++ L.drop ((i+1) * 3+((xs.drop i).flatMap zI).length)).drop (i * 3+(zI x).length));rw [← hw4] at r4 H2;have hxl:=qD x;have e1:(i+1) * 3=i * 3+3:=Nat.succ_mul i 3;rw [e1,hxl,h8,Hfin.out] at r4
   have hE:zN w4 base 31 3 (.slice (some ⟨g,0,none⟩) (n+1) c) (n+1) (YS.flatMap zI):=zN.ofRow r4 h1 h2 h3 (by rw [List.length_append,List.length_append,List.length_append,List.length_drop,h9,h8,hxl,h4];omega) (by
    have hlen:((xs.take i).flatMap zI ++ zI x ++ (xs.drop i).flatMap zI).length=(n+1) * 3:=by rw [List.length_append,List.length_append,h9,h8,hxl];omega
    rw [← HYS.out,List.take_left' hlen,List.flatMap_append,List.flatMap_cons,List.append_assoc])
   have HE:Hid (zN w4 base 31 3 (.slice (some ⟨g,0,none⟩) (n+1) c) (n+1) (YS.flatMap zI)∧Only (blk (some (⟨g,0,none⟩:Addr))) w w4∧∀ z∈blk (some (⟨g,0,none⟩:Addr)),z∈blk (some (⟨g,0,none⟩:Addr))∨w.heap.size≤z):=Lib.hid ⟨hE,hR15.trans o4 (fun _ h _=>h),fun z hz=>.inl hz⟩;have H2h:=Lib.hid H2;clear r1 rx h1 h2 h3 h4 h5 h6 h7 h8 h9 H2 o4 r4 hxl e1 hE HF Hfin HYS Hcp1 Hcp2 Hr0 Hv0 Hgv hRr hRt hRd hRs hC0 l8 hw4
   go_upto_region 17 with (fail)
   rw [H2h.out _ _ _ (by simp only [Nat.min_def];split <;> omega)];go_wp2_with fail
   go_ret
   exact ⟨some ⟨g,0,none⟩,c,rfl,HE.out⟩
  ·-- a new block
   have hk:i+(n+1 - i)=n+1:=(by omega);obtain ⟨g2,c2,w2,rest,hr,r2,hrl,hc2,hcm,hg2,o2⟩:=zFa (P:=Tryz.prog) (tn:=3) (kn:=.i64) (kq:=.i64) (ty:=27) (cap:=c) (k:=n+1 - i) w Tryz.underlying27 Tryz.underlying3 Tryz.infoId rfl (by omega) hold hA (by omega) (by omega) (by omega) (by omega);rw [hk] at hr hc2;have hRl:((xs.take i).flatMap zI ++ rest).length=c2 * 3:=(by rw [List.length_append,hA];omega);have hcp1:=fun ty dc=>yG (P:=Tryz.prog) (sT:=27) (ty:=ty) w2 (dLen:=n+1 - i) (dCap:=dc) (sLen:=1) (sCap:=1) (m:=1) (o:=i * 3) (a:=⟨vb,0,none⟩) Tryz.underlying27 hsz r2 (by simp only [Nat.min_def];split <;> omega) (by rw [hxl]) (hvsrc w2 (hv.zB o2)) (by rw [hxl,hRl];have:=Nat.mul_le_mul_right 3 hc2;omega) (vP x)
   obtain ⟨w3,hw3⟩:∃ w3,w3=w2.setRow g2 (((xs.take i).flatMap zI ++ rest).take (i * 3) ++ zI x ++ ((xs.take i).flatMap zI ++ rest).drop (i * 3+(zI x).length)).toArray:=⟨_,rfl⟩;have r3:=r2.setRow (((xs.take i).flatMap zI ++ rest).take (i * 3) ++ zI x ++ ((xs.take i).flatMap zI ++ rest).drop (i * 3+(zI x).length));have o3:Only [g2] w2 w3:=(by rw [hw3];exact Only.setRow _ _ _);rw [← hw3] at r3 hcp1;rw [hxl] at r3;have o13:Only [] w w3:=o2.zY o3 (by simpa using hg2);have e1:(i+1) * 3=i * 3+3:=Nat.succ_mul i 3;have hnk:(n - i) * 3+(i+1) * 3=(n+1) * 3:=by rw [← Nat.add_mul];congr 1;omega
   have hc2K:=Nat.mul_le_mul_right 3 hc2
   have hl3:(((xs.take i).flatMap zI ++ rest).take (i * 3) ++ zI x ++ ((xs.take i).flatMap zI ++ rest).drop (i * 3+3)).length=c2 * 3:=by
    rw [List.length_append,List.length_append,List.length_take,List.length_drop,hRl,hxl];omega
   obtain ⟨L3,hL3⟩:∃ L3,L3=((xs.take i).flatMap zI ++ rest).take (i * 3) ++ zI x ++ ((xs.take i).flatMap zI ++ rest).drop (i * 3+3):=⟨_,rfl⟩;rw [← hL3] at r3 hl3
   have hcp2:=fun (W:World) (ho:Only [g2] w3 W) (r:Row W g2 31 L3) (ty:TypeId) (dl dc sl sc:Nat) (hm:Nat.min sl dl=n - i)=>yG (P:=Tryz.prog) (dT:=27) (sT:=27) (ty:=ty) W (dLen:=dl) (dCap:=dc) (sLen:=sl) (sCap:=sc) (m:=n - i) (o:=(i+1) * 3) (a:=⟨g,i * 3,none⟩) Tryz.underlying27 hsz r hm hB (fun j v hj=>by
    have h:=hsrc w3 o13 j v hj;rw [Addr.add_lit] at h ⊢
    exact ho.cell h (by simp;omega)) (by rw [hB,hl3];omega) h1B
   have hfin:=zIZ hA hxl hB (R:=(xs.take i).flatMap zI ++ rest) (by rw [hRl];omega) (List.take_left' hA);rw [← hL3] at hfin;have HF:Hid (base≤g2∧n+1≤c2∧c2≤9223372036854775807∧((xs.take i).flatMap zI ++ rest).length=c2 * 3∧(n - i) * 3+(i+1) * 3=(n+1) * 3∧(n+1) * 3≤c2 * 3∧((xs.drop i).flatMap zI).length=(n - i) * 3∧((xs.take i).flatMap zI).length=i * 3∧w.heap.size≤g2):=Lib.hid ⟨by omega,hc2,hcm,hRl,hnk,hc2K,hB,hA,hg2⟩;have Hfin:=Lib.hid hfin;have HYS:=Lib.hid hYS;have HO13:=Lib.hid o13;have HR3:=Lib.hid r3
   have Hcp2:=Lib.hid hcp2;have Hr:=Lib.hid hr;have H1:=Lib.hid (hcp1 3);have hroomI:¬ ((n:Int)+1≤(c:Int)):=(by omega);have hroomJ:(c:Int) < (n:Int)+1:=(by omega);have hkz:IntKind.i64.wrap ((n:Int)+1 - (i:Int))=((n+1 - i:Nat):Int):=(by rw [IntKind.wrap_i64];omega);have hkz2:wrap64 ((n:Int)+1 - (i:Int))=((n+1 - i:Nat):Int):=(by rw [IntWalk.wrap64_in _ (by omega)];omega);have htn:((i:Int)+1).toNat=i+1:=(by omega);have hcb:¬ c2=i:=(by omega);have hcb1:¬ c2=i+1:=(by omega);have hcbi:¬ c=i:=by have:=hvw.2.2.2.2.1;omega
   have hic2:(i:Int)≤(c2:Int):=(by omega);have hi01:(0:Int)≤(i:Int)+1:=(by omega);have hin1:(i:Int)+1≤(n:Int)+1:=(by omega);have hci:(i:Int)≤(c:Int):=(by have:=hvw.2.2.2.2.1;omega);clear hYS hr hcp1 hcp2 hfin hL3 r2 r3 o2 o3 o13 hw3 hvw hold hsrc hA hB hRl hl3 hown hv hvsrc h1B hsz hxl hc2K hnk e1 hrl hvp
   go_enter Tryz.func95,Tryz.ntmps95
   go_upto_region 11 with (at_builtin;refine qP (s:=.tmp 34) (x:=.tmp 39) rfl rfl rfl rfl Hr.out ?_)
   have h1:=H1.out (c2 - i);rw [h1];clear h1
   go_upto_region 11 with (fail)
   have hRr:∀ x,(Only [g2]) x x:=fun x=>Only.refl _ _;have hRt:∀ x b e,(Only [g2]) x b→(Only [g2]) b e→(Only [g2]) x e:=fun _ _ _ h k=>h.trans k (fun _ h _=>h);have hRd:(Only [g2]) w3 w3.drew:=(Only.drew _).mono (by simp)
   have hRs:∀ j w,zZ [(8,Only [g2])] j w w:=zZ.refl (by
    intro x hx w;simp only [List.mem_cons,List.not_mem_nil,or_false] at hx
    rcases hx with rfl
    exact Only.refl _ _)
   have hC0:∀ d∈[8],(fun (_:Nat) (a:World)=>Row a g2 31 L3) d w3.drew:=fun _ _=>HR3.out.zB (Only.drew _);refine zU (Only [g2]) (zZ [(8,Only [g2])]) (fun (_:Nat) (a:World)=>Row a g2 31 L3) [8] [[(9,none)],[(1,none)],[(7,none)],[(47,some 1),(48,some 0)],[(46,some 3),(49,some 0)],[(0,none)],[(1,none)],[(51,some 1),(52,some 0)],[(50,some 3),(53,some 0)]] [] [0] [none,none,none,none,none,none,none,none,none,none,none,none,none,none,none,none,none,none,none,none,none,none,none,none,none,none,none,none,none,none,none,none,none,none,none,none,none,none,none,none,none,none,none,none,none,none,some 46,some 47,some 48,some 49,some 50,some 51,some 52,some 53,some 54,none,none,none,none,none,none,none,none,none,none,none,none,none,none,none,none,none,none,none,none,none,none,none,none,none,none,none,none,none,none,none,none,none,none,none,none,none,none,none,none] (by kernel_rfl) rfl (by kernel_rfl) hRr hRt hRs hRd hC0 (by kernel_rfl) (by kernel_rfl) ?_
   apply zF
   ·rintro a w hR hC ⟨(e9:_=_),-⟩;refine zA rfl fun K hK=>?_;go_simp;exact hK _ _ rfl ⟨hRr _,hRs _ _,fun _ _ _ _ h=>h⟩
   apply zF
   ·rintro a w hR hC ⟨(e1:_=_),-⟩;refine zA rfl fun K hK=>?_;go_simp;exact hK _ _ rfl ⟨hRr _,hRs _ _,fun _ _ _ _ h=>h⟩
   apply zF
   ·rintro a w hR hC ⟨(e7:_=_),-⟩;refine zA rfl fun K hK=>?_;go_simp;exact hK _ _ rfl ⟨hRr _,hRs _ _,fun _ _ _ _ h=>h⟩
   apply zF
   ·rintro a w hR hC ⟨(e47:_=_),(e48:_=_),-⟩;refine zA rfl fun K hK=>?_;go_simp;exact hK _ _ rfl ⟨hRr _,hRs _ _,fun _ _ _ _ h=>h⟩
   apply zF
   ·rintro a w hR hC ⟨(e46:_=_),(e49:_=_),-⟩;refine zA rfl fun K hK=>?_;go_simp;exact hK _ _ rfl ⟨hRr _,hRs _ _,fun _ _ _ _ h=>h⟩
   apply zF
   ·rintro a w hR hC ⟨(e0:_=_),-⟩;refine zA rfl fun K hK=>?_;go_simp;exact hK _ _ rfl ⟨hRr _,hRs _ _,fun _ _ _ _ h=>h⟩
   apply zF
   ·rintro a w hR hC ⟨(e1:_=_),-⟩;refine zA rfl fun K hK=>?_;go_simp;exact hK _ _ rfl ⟨hRr _,hRs _ _,fun _ _ _ _ h=>h⟩
   apply zF
   ·rintro a w hR hC ⟨(e51:_=_),(e52:_=_),-⟩;refine zA rfl fun K hK=>?_;go_simp;exact hK _ _ rfl ⟨hRr _,hRs _ _,fun _ _ _ _ h=>h⟩
   refine ⟨qH g2 31 (L3.take ((i+1) * 3) ++ (xs.drop i).flatMap zI ++ L3.drop ((i+1) * 3+((xs.drop i).flatMap zI).length)),zL qH.stable (by intro x hx hk;simp only [List.mem_cons,List.not_mem_nil,or_false] at hx;rcases hx with rfl;exact Bool.noConfusion (hk.symm.trans (by kernel_rfl:_=true))),fun a w hR hC hf=>?_,?_⟩
   ·obtain ⟨e50,e53,-⟩:=hf;replace e50:a.tmps.getD 50 undef=_:=e50;replace e53:a.tmps.getD 53 undef=_:=e53;refine zA rfl fun K hK=>?_;have rz:Row w g2 31 L3:=hC 8 (by simp) (by kernel_rfl);have hst:=Only.setRow w g2 ((L3.take ((i+1) * 3) ++ (xs.drop i).flatMap zI ++ L3.drop ((i+1) * 3+((xs.drop i).flatMap zI).length))).toArray;refine yV (s:=.tmp 50) (x:=.tmp 53) rfl e50 e53 (Hcp2.out w hR rz _ _ _ _ _ (by simp only [Nat.min_def];split <;> omega)) ?_;exact hK _ _ (rz.setRow _) ⟨hst,hst,fun i hi hne ha hc=>absurd hi (by simp;omega)⟩
   intro f11 w11 hR11 hf hl11;dsimp only [qE];obtain ⟨l8,-⟩:=hl11;replace l8:∃ v,(qH g2 31 (L3.take ((i+1) * 3) ++ (xs.drop i).flatMap zI ++ L3.drop ((i+1) * 3+((xs.drop i).flatMap zI).length))) v w11:=l8;have r4:Row w11 g2 31 (L3.take ((i+1) * 3) ++ (xs.drop i).flatMap zI ++ L3.drop ((i+1) * 3+((xs.drop i).flatMap zI).length)):=(by obtain ⟨v,h⟩:=l8;exact h);obtain ⟨h1,h2,h3,h4,h5,h6,h7,h8,h9⟩:=HF.out;have hxl:=qD x;have e1:(i+1) * 3=i * 3+3:=Nat.succ_mul i 3;rw [e1,h7,Hfin.out] at r4
   have hE:zN w11 base 31 3 (.slice (some ⟨g2,0,none⟩) (n+1) c2) (n+1) (YS.flatMap zI):=zN.ofRow r4 h1 h2 h3 (by rw [List.length_append,List.length_append,List.length_append,List.length_drop,h8,h7,hxl,h4];omega) (by
    have hlen:((xs.take i).flatMap zI ++ zI x ++ (xs.drop i).flatMap zI).length=(n+1) * 3:=by rw [List.length_append,List.length_append,h8,h7,hxl];omega
    rw [← HYS.out,List.take_left' hlen,List.flatMap_append,List.flatMap_cons,List.append_assoc])
   have HE:Hid (zN w11 base 31 3 (.slice (some ⟨g2,0,none⟩) (n+1) c2) (n+1) (YS.flatMap zI)∧Only (blk (some (⟨g,0,none⟩:Addr))) w w11∧∀ z∈blk (some (⟨g2,0,none⟩:Addr)),z∈blk (some (⟨g,0,none⟩:Addr))∨w.heap.size≤z):=Lib.hid ⟨hE,((HO13.out.zY hR11 (by simpa using h9))).mono (by simp),fun z hz=>.inr (by simp [blk] at hz;omega)⟩;clear r4 h1 h2 h3 h4 h5 h6 h7 h8 h9 hxl e1 hE HF Hfin HYS HO13 HR3 Hcp2 hRr hRt hRd hRs hC0 l8;go_wp2_with fail
   go_ret
   exact ⟨some ⟨g2,0,none⟩,c2,rfl,HE.out⟩
end
section
open Go.RowKit
set_option maxHeartbeats 8000000 in
theorem zHI (p:Option Addr) (n c:Nat) (xs:List Cid) (k:Int) (x:Cid) (base:Nat) (w0:World) (hn:xs.length=n) (hb:n≤100000) (hown:zN w0 base 31 3 (.slice p n c) n (xs.flatMap zI)) (hbase:base≤w0.heap.size) (hs:jD Cid.node ltZ xs) :
  Calls Tryz.prog 53 #[.slice p n c,.int .i64 k,.func (.func 51) #[] #[],idV x] w0 fun e' w'=>∃ p' c',e'=.returned (.slice p' (jN Cid.node ltZ xs k x).length c')∧zN w' base 31 3 (.slice p' (jN Cid.node ltZ xs k x).length c') (jN Cid.node ltZ xs k x).length ((jN Cid.node ltZ xs k x).flatMap zI)∧Only (blk p) w0 w'∧∀ z∈blk p',z∈blk p∨w0.heap.size≤z:=by
 generalize hYS:jN Cid.node ltZ xs k x=YS;obtain ⟨i,hi⟩:∃ i,qV Cid.node ltZ xs k=i:=⟨_,rfl⟩;obtain ⟨b,hbt⟩:∃ b,qC Cid.node ltZ xs k=b:=⟨_,rfl⟩;have hile:i≤n:=(by rw [← hi,← hn];exact zAr _ _);obtain ⟨wb,hwb⟩:∃ wb,wb=w0.alloc (.cells #[.int .i64 x.node,.int .i64 x.boot,.int .i64 x.seq] 31):=⟨_,rfl⟩;have owb:Only [] w0 wb:=(by rw [hwb];exact Only.alloc _ _);have rb:Row wb w0.heap.size 31 [.int .i64 x.node,.int .i64 x.boot,.int .i64 x.seq]:=(by rw [hwb];exact Row.zV _ _ _ _ rfl);have hbs:=zEM p n c xs k wb hn (by omega) (fun h=>(hown.view.2.2.2.1 h).1) (hown.view.2.2.1.zB owb) hs
 rw [hi,hbt] at hbs;have Hw:=Lib.hid hwb;have Ho:=Lib.hid owb;have Hrb:=Lib.hid rb;have Hb:=Lib.hid hbs;have hile2:(i:Int)≤(n:Int):=by omega
 cases b with
 | true =>
  have hput:YS=xs.set i x:=(by rw [← hYS];unfold jN;rw [hbt,if_pos rfl,hi]);obtain ⟨y,hy,-⟩:=jQ hbt;rw [hi] at hy;have hin:i < n:=(by have:=(List.getElem?_eq_some_iff.1 hy).1;omega);have hini:(i:Int) < (n:Int):=(by omega);obtain ⟨g,-,rfl,-,-⟩:=hown.rowOf (by omega);obtain ⟨rest,hrow,hlen,hnc,hcm,hgb,-⟩:=hown.row;have hYl:YS.length=n:=(by rw [hput,List.length_set,hn]);rw [hYl];have Hrow:=Lib.hid hrow;have HF:Hid (YS=xs.set i x∧xs[i]?=some y∧xs.length=n∧base≤g∧n≤c∧c≤9223372036854775807∧(xs.flatMap zI ++ rest).length=c * 3):=Lib.hid ⟨hput,hy,hn,hgb,hnc,hcm,hlen⟩
  clear hYS hi hbt hwb owb rb hbs hput hy hown hrow hlen hnc hcm hgb hYl hn hs;unfold idV
  go_enter Tryz.func53,Tryz.ntmps53
  go_wp2_with fail;rw [← Hw.out];refine Hb.out.mono ?_;rintro e1 w1 ⟨rfl,o1⟩;have o01:Only [] w0 w1:=Ho.out.zC o1;have r1:=Hrow.out.zB o01;have rx:=Hrb.out.zB o1;obtain ⟨h1,hy,hn,hgb,hnc,hcm,hlen⟩:=HF.out;have hra:=jZ (rest:=rest) qD hy;have x0:=hra.cell r1 (r:=0) rfl;have x1:=hra.cell r1 (r:=1) rfl;have x2:=hra.cell r1 (r:=2) rfl;rw [Nat.add_zero] at x0;have y0:=r1.free (i * 3);have y1:=r1.free (i * 3+1);have y2:=r1.free (i * 3+2);have a0:=rx.cell (i:=0) rfl;have a1:=rx.cell (i:=1) rfl;have a2:=rx.cell (i:=2) rfl
  obtain ⟨wz,hwz⟩:∃ wz,wz=(((w1.setCell ⟨g,i * 3,none⟩ (.int .i64 x.node)).setCell ⟨g,i * 3+1,none⟩ (.int .i64 x.boot)).setCell ⟨g,i * 3+2,none⟩ (.int .i64 x.seq)):=⟨_,rfl⟩;have ozz:Only [g] w1 wz:=(by rw [hwz];exact (((Only.setCell _ ⟨g,i * 3,none⟩ _).trans (Only.setCell _ ⟨g,i * 3+1,none⟩ _) (fun _ h _=>h)).trans (Only.setCell _ ⟨g,i * 3+2,none⟩ _) (fun _ h _=>h)));have hra2:=(((hra.set (i:=0) (.int .i64 x.node) (by simp only [List.length_set,qD];omega)).set (i:=1) (.int .i64 x.boot) (by simp only [List.length_set,qD];omega)).set (i:=2) (.int .i64 x.seq) (by simp only [List.length_set,qD];omega))
  have hrz:=(((r1.setCell (i * 3) (.int .i64 x.node)).setCell (i * 3+1) (.int .i64 x.boot)).setCell (i * 3+2) (.int .i64 x.seq));rw [← hwz] at hrz;have hE:=zN.zAz (y:=x) (by omega) qD hgb hn hin hnc hcm hlen hrz (((Outside.set (i * 3) 3 _ (i:=i * 3) (.int .i64 x.node) (by omega) (by omega)).trans (Outside.set (i * 3) 3 _ (i:=i * 3+1) (.int .i64 x.boot) (by omega) (by omega))).trans (Outside.set (i * 3) 3 _ (i:=i * 3+2) (.int .i64 x.seq) (by omega) (by omega))) hra2;rw [← h1] at hE;have HE:Hid (zN wz base 31 3 (.slice (some ⟨g,0,none⟩) n c) n (YS.flatMap zI)∧Only (blk (some (⟨g,0,none⟩:Addr))) w0 wz):=Lib.hid ⟨hE,(o01.mono (fun _ h=>by cases h)).trans ozz (fun _ h _=>h)⟩
  have Hz:=Lib.hid hwz;clear hwz ozz hra hra2 hrz hE r1 rx o1 o01 h1 hy hn hgb hnc hcm hlen HF Hrow Hrb Hb;go_wp2_with fail;rw [← Hz.out]
  go_ret
  exact ⟨_,_,rfl,HE.out.1,HE.out.2,fun z hz=>.inl hz⟩
 | false =>
  have hput:YS=xs.take i ++ x :: xs.drop i:=(by rw [← hYS];unfold jN;rw [hbt,if_neg (by simp),hi]);have hYl:YS.length=n+1:=(by rw [hput];simp;omega);rw [hYl];have HF:Hid (YS=xs.take i ++ x :: xs.drop i∧xs.length=n∧zN w0 base 31 3 (.slice p n c) n (xs.flatMap zI)):=Lib.hid ⟨hput,hn,hown⟩;clear hYS hi hbt hwb owb rb hbs hput hown hYl hn hs;unfold idV
  go_enter Tryz.func53,Tryz.ntmps53
  go_wp2_with fail;rw [← Hw.out];refine Hb.out.mono ?_;rintro e1 w1 ⟨rfl,o1⟩;have o01:Only [] w0 w1:=Ho.out.zC o1;have rx:=Hrb.out.zB o1;obtain ⟨h1,hn,hown⟩:=HF.out;obtain ⟨wv,hwv⟩:∃ wv,wv=w1.alloc (.cells #[.int .i64 x.node,.int .i64 x.boot,.int .i64 x.seq] 31):=⟨_,rfl⟩;have ov:Only [] w1 wv:=(by rw [hwv];exact Only.alloc _ _);have rv:Row wv w1.heap.size 31 (zI x):=(by rw [hwv];exact Row.zV _ _ _ _ rfl);have hlo:=hown.view.2.2.2.2.2.2;have hsz:=o01.size;have hins:=zGj p n c xs x i w1.heap.size base wv (hown.zB (o01.zC ov)) (by have:=ov.size;omega) hn hile (by omega) rv (fun hm=>by have:=(hlo _ hm).2;omega)
  rw [← h1] at hins;have Hi:=Lib.hid hins;have Hv:=Lib.hid hwv;have Hov:Hid (Only [] w0 wv):=Lib.hid (o01.zC ov);have a0:=rx.cell (i:=0) rfl;have a1:=rx.cell (i:=1) rfl;have a2:=rx.cell (i:=2) rfl;clear hins hwv ov rv hlo rx o1 h1 hn hown HF Hrb Hb;go_wp2_with fail;rw [← Hv.out];refine Hi.out.mono ?_;rintro e2 w2 ⟨p',c',rfl,h1,h2,h3⟩;have HE:Hid (zN w2 base 31 3 (.slice p' (n+1) c') (n+1) (YS.flatMap zI)∧Only (blk p) w0 w2∧∀ z∈blk p',z∈blk p∨w0.heap.size≤z):=Lib.hid ⟨h1,(Hov.out.mono (fun _ h=>by cases h)).trans h2 (fun _ h _=>h),fun z hz=>(h3 z hz).imp id (fun h=>by have:=Hov.out.size;omega)⟩
  clear h1 h2 h3 Hi Hv Hov;go_wp2_with fail
  go_ret
  exact ⟨_,_,rfl,HE.out⟩
end
section
open Go.RowKit
set_option maxHeartbeats 8000000 in
theorem zHM (p:Option Addr) (n c:Nat) (xs:List qG) (x:qG) (i vb base:Nat) (w:World) (hown:zN w base 48 5 (.slice p n c) n (xs.flatMap zH)) (hbase:base≤w.heap.size) (hl:xs.length=n) (hin:i≤n) (hnb:n≤1000000) (hv:Row w vb 48 (zH x)) (hvp:vb ∉ blk p) :
  Calls Tryz.prog 148 #[.slice p n c,.int .i64 (i:Int),.slice (some ⟨vb,0,none⟩) 1 1] w fun e' w'=>∃ p' c',e'=.returned (.slice p' (n+1) c')∧zN w' base 48 5 (.slice p' (n+1) c') (n+1) ((xs.take i ++ x :: xs.drop i).flatMap zH)∧Only (blk p) w w'∧∀ z∈blk p',z∈blk p∨w.heap.size≤z:=by
 generalize hYS:xs.take i ++ x :: xs.drop i=YS
 by_cases hi:i=n
 ·subst hi;obtain ⟨p',c',w2,hr,o2,h2⟩:=xN (P:=Tryz.prog) (t:=57) (ty:=57) (m:=1) (c:=1) (q:=some ⟨vb,0,none⟩) (news:=zH x) w Tryz.underlying57 Tryz.infoLO rfl (by omega) hown hv.rd0 (by rw [zO]) (by simp) (xY x) (by omega) (by omega) hbase;have hat:=xR (P:=Tryz.prog) (t:=57) (ty:=57) (m:=1) (c:=1) (q:=some ⟨vb,0,none⟩) (news:=zH x) w Tryz.underlying57 Tryz.infoLO rfl (by omega) hown hv.rd0 (by rw [zO]) (by simp) (xY x) (by omega) (by omega) hr;have Hr:=Lib.hid hr
  have HE:Hid (zN w2 base 48 5 (.slice p' (i+1) c') (i+1) (YS.flatMap zH)∧Only (blk p) w w2∧∀ z∈blk p',z∈blk p∨w.heap.size≤z):=Lib.hid ⟨by
   rw [← hYS,List.take_of_length_le (by omega),List.drop_eq_nil_of_le (by omega),List.flatMap_append,List.flatMap_cons,List.flatMap_nil,List.append_nil];exact o2,h2,fun z hz=>by
   rcases hat with rfl | ⟨g,rfl,hg⟩
   ·exact .inl hz
   ·simp [blk] at hz;subst hz;exact .inr hg⟩
  clear hr o2 h2 hat hown hv hvp hbase hYS
  go_enter Tryz.func148,Tryz.ntmps148
  go_wp2_with (first | (at_builtin;refine qP (s:=.tmp 23) (x:=.tmp 24) rfl rfl rfl rfl Hr.out ?_))
  all_goals
   go_ret
   exact ⟨p',c',rfl,HE.out⟩
 ·have hlt:i < n:=(by omega);obtain ⟨g,rfl,hgb,hgl⟩:=hown.at (by omega);have hvw:=hown.view;have hold:Rd w (some ⟨g,0,none⟩) ((xs.take i).flatMap zH):=zBw zO hvw.2.2.1 i
  have hsrc:∀ W:World,Only [] w W→∀ j v,((xs.drop i).flatMap zH)[j]?=some v→W.cell? ((⟨g,i * 5,none⟩:Addr).add j)=some v:=fun W ho j v hj=>by
   rw [← xU zH 5 zO,List.getElem?_drop] at hj;have:=(hvw.2.2.1.zB ho).cells _ _ hj;rw [Addr.add_lit] at this ⊢;rw [Nat.zero_add] at this;exact this
  have hA:((xs.take i).flatMap zH).length=i * 5:=(by rw [qR zH 5 zO,List.length_take];congr 1;omega);have hB:((xs.drop i).flatMap zH).length=(n - i) * 5:=(by rw [qR zH 5 zO,List.length_drop,hl]);have hsz:(Tryz.prog.info? 48).map (·.size)=some 5:=(by kernel_rfl);have h1B:∀ v∈(xs.drop i).flatMap zH,v.oneCell'=true:=fun v hv=>vD zH xY hv;have hxl:=zO x;have hgv:g≠vb:=fun e1=>hvp (by simp [blk,e1]);have hi0:¬ ((i:Int)=(n:Int)):=(by omega);have hq0:((i:Int) == (n:Int))=false:=beq_eq_false_iff_ne.2 hi0
  have hw1:IntKind.i64.wrap ((n:Int)+1)=(n:Int)+1:=(by rw [IntKind.wrap_i64];omega);have hw2:IntKind.i64.wrap ((i:Int)+1)=(i:Int)+1:=(by rw [IntKind.wrap_i64];omega);have hini:(i:Int)≤(n:Int):=(by omega);have hvsrc:∀ W:World,Row W vb 48 (zH x)→∀ j v,(zH x)[j]?=some v→W.cell? ((⟨vb,0,none⟩:Addr).add j)=some v:=fun W r j v hj=>by rw [Addr.add_lit,Nat.zero_add];exact r.cell hj
  by_cases hroom:n+1≤c
  ·-- room: in place
   obtain ⟨rest,hrow,hlen,hnc,hcm,hgB,hA0⟩:=hown.row;obtain ⟨L,hL⟩:∃ L,L=xs.flatMap zH ++ rest:=⟨_,rfl⟩;rw [← hL] at hrow hlen;have hAt:L.take (i * 5)=(xs.take i).flatMap zH:=(by rw [hL,List.take_append_of_le_length (by rw [hA0];exact Nat.mul_le_mul_right _ hin),yI zH 5 zO]);have e1:(i+1) * 5=i * 5+5:=Nat.succ_mul i 5;have hnk:i * 5+5+(n - i) * 5=(n+1) * 5:=(by rw [← e1,← Nat.add_mul];congr 1;omega);have hcK:=Nat.mul_le_mul_right 5 hroom
   have hsrcL:∀ W:World,Row W g 48 L→∀ j v,((xs.drop i).flatMap zH)[j]?=some v→W.cell? ((⟨g,i * 5,none⟩:Addr).add j)=some v:=fun W r j v hj=>by
    rw [Addr.add_lit];refine r.cell ?_;have hj1:=(List.getElem?_eq_some_iff.1 hj).1;have hik:=Nat.mul_le_mul_right 5 hin;have hdd:i * 5+(n - i) * 5=n * 5:=(by rw [← Nat.add_mul];congr 1;omega);rw [hL,List.getElem?_append_left (by rw [hA0];omega),← List.getElem?_drop,xU zH 5 zO];exact hj
   have hcp1:=fun (W:World) (r:Row W g 48 L) (ty:TypeId) (dl dc sl sc:Nat) (hm:Nat.min sl dl=n - i)=>yG (P:=Tryz.prog) (dT:=57) (sT:=57) (ty:=ty) W (dLen:=dl) (dCap:=dc) (sLen:=sl) (sCap:=sc) (m:=n - i) (o:=(i+1) * 5) (a:=⟨g,i * 5,none⟩) Tryz.underlying57 hsz r hm hB (hsrcL W r) (by rw [hB,hlen];omega) h1B;have hcp2:=fun (W:World) (r:Row W g 48 (L.take ((i+1) * 5) ++ (xs.drop i).flatMap zH ++ L.drop ((i+1) * 5+((xs.drop i).flatMap zH).length))) (rx:Row W vb 48 (zH x)) (ty:TypeId) (dl dc:Nat) (hm:Nat.min 1 dl=1)=>yG (P:=Tryz.prog) (dT:=57) (sT:=57) (ty:=ty) W (dLen:=dl) (dCap:=dc) (sLen:=1) (sCap:=1) (m:=1) (o:=i * 5) (a:=⟨vb,0,none⟩) Tryz.underlying57 hsz r hm (by rw [hxl]) (hvsrc W rx) (by rw [hxl];simp only [List.length_append,List.length_take,List.length_drop];omega) (xY x)
   have hfin:=zFA hA hxl hB (R:=L) (by rw [hlen];omega) hAt
   have hov:∀ lb cb,(callFunc 161 #[.slice (some ⟨vb,0,none⟩) 1 1,.slice (some ⟨g,(i+1) * 5,none⟩) lb cb]).run Tryz.prog w=.ok (.value (.bool false)) w:=fun lb cb=>by
    rw [run_callFunc_extern Tryz.func161 (by kernel_rfl) (by kernel_rfl) (by kernel_rfl) (e:=Extern.SlicesOverlaps.overlaps #[57,57] #[4]) (by kernel_rfl),
     Lib.run_overlaps_apart w 57 4 48 Tryz.underlying57 5 (fun w=>by unfold sizeOf typeInfo;obtain ⟨ii,hii,-,hs2,-⟩:=info_partsK Tryz.infoLO;simp [hii,hs2]) ⟨vb,0,none⟩ ⟨g,(i+1) * 5,none⟩ 1 1 lb cb (fun e'=>hgv e'.symm) 48 48 _ _ (vH hv) (vH hrow) (by rw [List.size_toArray,hlen];omega) (hv.free 0) (hv.free _)]
    rfl
   have Hcp1:=Lib.hid hcp1;have Hcp2:=Lib.hid hcp2;have HF:Hid (base≤g∧n+1≤c∧c≤9223372036854775807∧L.length=c * 5∧xs.length=n∧i * 5+5+(n - i) * 5=(n+1) * 5∧(n+1) * 5≤c * 5∧((xs.drop i).flatMap zH).length=(n - i) * 5∧((xs.take i).flatMap zH).length=i * 5):=Lib.hid ⟨hgB,hroom,hcm,hlen,hl,hnk,hcK,hB,hA⟩;have Hfin:=Lib.hid hfin;have HYS:=Lib.hid hYS;have Hr0:=Lib.hid hrow;have Hv0:=Lib.hid hv;have Hgv:=Lib.hid hgv;have hroomI:(n:Int)+1≤(c:Int):=(by omega);have hroomJ:¬ (c:Int) < (n:Int)+1:=by omega
   have htn:((i:Int)+1).toNat=i+1:=(by omega);have htn2:((n:Int)+1).toNat=n+1:=(by omega);have hc1:¬ c=i+1:=(by omega);have hc0:¬ c=i:=(by omega);have hi01:(0:Int)≤(i:Int)+1:=(by omega);have hin1:(i:Int)+1≤(n:Int)+1:=(by omega);have hin2:(i:Int)≤(n:Int)+1:=(by omega);have hn01:(0:Int)≤(n:Int)+1:=(by omega);clear hYS hcp1 hcp2 hfin hL hAt hA0 hgB hcm hlen hnk hcK hrow hsrcL hold hsrc hA hB hown hv hvsrc h1B hsz hxl e1 hvp hgv hvw
   go_enter Tryz.func148,Tryz.ntmps148
   go_upto_region 15 with (simp only [hov])
   clear hov;have hRr:∀ x,(Only [g]) x x:=fun x=>Only.refl _ _;have hRt:∀ x b e,(Only [g]) x b→(Only [g]) b e→(Only [g]) x e:=fun _ _ _ h k=>h.trans k (fun _ h _=>h);have hRd:(Only [g]) w w.drew:=(Only.drew _).mono (by simp)
   have hRs:∀ j w,zZ [(8,Only [g])] j w w:=zZ.refl (by
    intro x hx w;simp only [List.mem_cons,List.not_mem_nil,or_false] at hx
    rcases hx with rfl
    exact Only.refl _ _)
   have hC0:∀ d∈[8],(fun (_:Nat) (a:World)=>Row a g 48 L) d w.drew:=fun _ _=>Hr0.out.zB (Only.drew _);refine zU (Only [g]) (zZ [(8,Only [g])]) (fun (_:Nat) (a:World)=>Row a g 48 L) [8] [[(0,none)],[(1,none)],[(7,none)],[(70,some 1),(71,some 0)],[(69,some 3),(72,some 0)],[(0,none)],[(1,none)],[(74,some 1),(75,some 0)],[(73,some 3),(76,some 0)]] [] [0] [none,none,none,none,none,none,none,none,none,none,none,none,none,none,none,none,none,none,none,none,none,none,none,none,none,none,none,none,none,none,none,none,none,none,none,none,none,none,none,none,none,none,none,none,none,none,none,none,none,none,none,none,none,none,none,none,none,none,none,none,none,none,none,none,none,none,none,none,none,some 69,some 70,some 71,some 72,some 73,some 74,some 75,some 76,some 77,none,none,none,none,none,none,none,none,none,none,none,none,none,none,none,none,none] (by kernel_rfl) rfl (by kernel_rfl) hRr hRt hRs hRd hC0 (by kernel_rfl) (by kernel_rfl) ?_
   apply zF
   ·rintro a w hR hC ⟨(e0:_=_),-⟩;refine zA rfl fun K hK=>?_;go_simp;exact hK _ _ rfl ⟨hRr _,hRs _ _,fun _ _ _ _ h=>h⟩
   apply zF
   ·rintro a w hR hC ⟨(e1:_=_),-⟩;refine zA rfl fun K hK=>?_;go_simp;exact hK _ _ rfl ⟨hRr _,hRs _ _,fun _ _ _ _ h=>h⟩
   apply zF
   ·rintro a w hR hC ⟨(e7:_=_),-⟩;refine zA rfl fun K hK=>?_;go_simp;exact hK _ _ rfl ⟨hRr _,hRs _ _,fun _ _ _ _ h=>h⟩
   apply zF
   ·rintro a w hR hC ⟨(e70:_=_),(e71:_=_),-⟩;refine zA rfl fun K hK=>?_;go_simp;exact hK _ _ rfl ⟨hRr _,hRs _ _,fun _ _ _ _ h=>h⟩
   apply zF
   ·rintro a w hR hC ⟨(e69:_=_),(e72:_=_),-⟩;refine zA rfl fun K hK=>?_;go_simp;exact hK _ _ rfl ⟨hRr _,hRs _ _,fun _ _ _ _ h=>h⟩
   apply zF
   ·rintro a w hR hC ⟨(e0:_=_),-⟩;refine zA rfl fun K hK=>?_;go_simp;exact hK _ _ rfl ⟨hRr _,hRs _ _,fun _ _ _ _ h=>h⟩
   apply zF
   ·rintro a w hR hC ⟨(e1:_=_),-⟩;refine zA rfl fun K hK=>?_;go_simp;exact hK _ _ rfl ⟨hRr _,hRs _ _,fun _ _ _ _ h=>h⟩
   apply zF
   ·rintro a w hR hC ⟨(e74:_=_),(e75:_=_),-⟩;refine zA rfl fun K hK=>?_;go_simp;exact hK _ _ rfl ⟨hRr _,hRs _ _,fun _ _ _ _ h=>h⟩
   refine ⟨qH g 48 (L.take ((i+1) * 5) ++ (xs.drop i).flatMap zH ++ L.drop ((i+1) * 5+((xs.drop i).flatMap zH).length)),zL qH.stable (by intro x hx hk;simp only [List.mem_cons,List.not_mem_nil,or_false] at hx;rcases hx with rfl;exact Bool.noConfusion (hk.symm.trans (by kernel_rfl:_=true))),fun a w hR hC hf=>?_,?_⟩
   ·obtain ⟨e73,e76,-⟩:=hf;replace e73:a.tmps.getD 73 undef=_:=e73;replace e76:a.tmps.getD 76 undef=_:=e76;refine zA rfl fun K hK=>?_;have rz:Row w g 48 L:=hC 8 (by simp) (by kernel_rfl);have hst:=Only.setRow w g ((L.take ((i+1) * 5) ++ (xs.drop i).flatMap zH ++ L.drop ((i+1) * 5+((xs.drop i).flatMap zH).length))).toArray;refine yV (s:=.tmp 73) (x:=.tmp 76) rfl e73 e76 (Hcp1.out w rz _ _ _ _ _ (by simp only [Nat.min_def];split <;> omega)) ?_;exact hK _ _ (rz.setRow _) ⟨hst,hst,fun i hi hne ha hc=>absurd hi (by simp;omega)⟩
   intro f15 w15 hR15 hf hl15;dsimp only [qE];obtain ⟨l8,-⟩:=hl15;replace l8:∃ v,(qH g 48 (L.take ((i+1) * 5) ++ (xs.drop i).flatMap zH ++ L.drop ((i+1) * 5+((xs.drop i).flatMap zH).length))) v w15:=l8;have r1:Row w15 g 48 (L.take ((i+1) * 5) ++ (xs.drop i).flatMap zH ++ L.drop ((i+1) * 5+((xs.drop i).flatMap zH).length)):=(by obtain ⟨v,h⟩:=l8;exact h);have rx:=Hv0.out.only hR15 (by simpa using fun e=>Hgv.out e.symm);obtain ⟨h1,h2,h3,h4,h5,h6,h7,h8,h9⟩:=HF.out;obtain ⟨w4,hw4⟩:∃ w4,w4=w15.setRow g ((L.take ((i+1) * 5) ++ (xs.drop i).flatMap zH ++ L.drop ((i+1) * 5+((xs.drop i).flatMap zH).length)).take (i * 5) ++ zH x ++ (L.take ((i+1) * 5) ++ (xs.drop i).flatMap zH ++ L.drop ((i+1) * 5+((xs.drop i).flatMap zH).length)).drop (i * 5+(zH x).length)).toArray:=⟨_,rfl⟩
   have H2:=fun ty dl dc hm=>Hcp2.out w15 r1 rx ty dl dc hm;have o4:Only [g] w15 w4:=(by rw [hw4];exact Only.setRow _ _ _);have r4:=r1.setRow ((L.take ((i+1) * 5) ++ (xs.drop i).flatMap zH ++ L.drop ((i+1) * 5+((xs.drop i).flatMap zH).length)).take (i * 5) ++ zH x ++ (L.take ((i+1) * 5) ++ (xs.drop i).flatMap zH ++ L.drop ((i+1) * 5+((xs.drop i).flatMap zH).length)).drop (i * 5+(zH x).length));rw [← hw4] at r4 H2;have hxl:=zO x;have e1:(i+1) * 5=i * 5+5:=Nat.succ_mul i 5;rw [e1,hxl,h8,Hfin.out] at r4
   have hE:zN w4 base 48 5 (.slice (some ⟨g,0,none⟩) (n+1) c) (n+1) (YS.flatMap zH):=zN.ofRow r4 h1 h2 h3 (by rw [List.length_append,List.length_append,List.length_append,List.length_drop,h9,h8,hxl,h4];omega) (by
    have hlen:((xs.take i).flatMap zH ++ zH x ++ (xs.drop i).flatMap zH).length=(n+1) * 5:=by rw [List.length_append,List.length_append,h9,h8,hxl];omega
    rw [← HYS.out,List.take_left' hlen,List.flatMap_append,List.flatMap_cons,List.append_assoc])
   have HE:Hid (zN w4 base 48 5 (.slice (some ⟨g,0,none⟩) (n+1) c) (n+1) (YS.flatMap zH)∧Only (blk (some (⟨g,0,none⟩:Addr))) w w4∧∀ z∈blk (some (⟨g,0,none⟩:Addr)),z∈blk (some (⟨g,0,none⟩:Addr))∨w.heap.size≤z):=Lib.hid ⟨hE,hR15.trans o4 (fun _ h _=>h),fun z hz=>.inl hz⟩;have H2h:=Lib.hid H2;clear r1 rx h1 h2 h3 h4 h5 h6 h7 h8 h9 H2 o4 r4 hxl e1 hE HF Hfin HYS Hcp1 Hcp2 Hr0 Hv0 Hgv hRr hRt hRd hRs hC0 l8 hw4
   go_upto_region 17 with (fail)
   rw [H2h.out _ _ _ (by simp only [Nat.min_def];split <;> omega)];go_wp2_with fail
   go_ret
   exact ⟨some ⟨g,0,none⟩,c,rfl,HE.out⟩
  ·-- a new block
   have hk:i+(n+1 - i)=n+1:=(by omega);obtain ⟨g2,c2,w2,rest,hr,r2,hrl,hc2,hcm,hg2,o2⟩:=zFa (P:=Tryz.prog) (tn:=3) (kn:=.i64) (kq:=.i64) (ty:=57) (cap:=c) (k:=n+1 - i) w Tryz.underlying57 Tryz.underlying3 Tryz.infoLO rfl (by omega) hold hA (by omega) (by omega) (by omega) (by omega);rw [hk] at hr hc2;have hRl:((xs.take i).flatMap zH ++ rest).length=c2 * 5:=(by rw [List.length_append,hA];omega);have hcp1:=fun ty dc=>yG (P:=Tryz.prog) (sT:=57) (ty:=ty) w2 (dLen:=n+1 - i) (dCap:=dc) (sLen:=1) (sCap:=1) (m:=1) (o:=i * 5) (a:=⟨vb,0,none⟩) Tryz.underlying57 hsz r2 (by simp only [Nat.min_def];split <;> omega) (by rw [hxl]) (hvsrc w2 (hv.zB o2)) (by rw [hxl,hRl];have:=Nat.mul_le_mul_right 5 hc2;omega) (xY x)
   obtain ⟨w3,hw3⟩:∃ w3,w3=w2.setRow g2 (((xs.take i).flatMap zH ++ rest).take (i * 5) ++ zH x ++ ((xs.take i).flatMap zH ++ rest).drop (i * 5+(zH x).length)).toArray:=⟨_,rfl⟩;have r3:=r2.setRow (((xs.take i).flatMap zH ++ rest).take (i * 5) ++ zH x ++ ((xs.take i).flatMap zH ++ rest).drop (i * 5+(zH x).length));have o3:Only [g2] w2 w3:=(by rw [hw3];exact Only.setRow _ _ _);rw [← hw3] at r3 hcp1;rw [hxl] at r3;have o13:Only [] w w3:=o2.zY o3 (by simpa using hg2);have e1:(i+1) * 5=i * 5+5:=Nat.succ_mul i 5;have hnk:(n - i) * 5+(i+1) * 5=(n+1) * 5:=by rw [← Nat.add_mul];congr 1;omega
   have hc2K:=Nat.mul_le_mul_right 5 hc2
   have hl3:(((xs.take i).flatMap zH ++ rest).take (i * 5) ++ zH x ++ ((xs.take i).flatMap zH ++ rest).drop (i * 5+5)).length=c2 * 5:=by
    rw [List.length_append,List.length_append,List.length_take,List.length_drop,hRl,hxl];omega
   obtain ⟨L3,hL3⟩:∃ L3,L3=((xs.take i).flatMap zH ++ rest).take (i * 5) ++ zH x ++ ((xs.take i).flatMap zH ++ rest).drop (i * 5+5):=⟨_,rfl⟩;rw [← hL3] at r3 hl3
   have hcp2:=fun (W:World) (ho:Only [g2] w3 W) (r:Row W g2 48 L3) (ty:TypeId) (dl dc sl sc:Nat) (hm:Nat.min sl dl=n - i)=>yG (P:=Tryz.prog) (dT:=57) (sT:=57) (ty:=ty) W (dLen:=dl) (dCap:=dc) (sLen:=sl) (sCap:=sc) (m:=n - i) (o:=(i+1) * 5) (a:=⟨g,i * 5,none⟩) Tryz.underlying57 hsz r hm hB (fun j v hj=>by
    have h:=hsrc w3 o13 j v hj;rw [Addr.add_lit] at h ⊢
    exact ho.cell h (by simp;omega)) (by rw [hB,hl3];omega) h1B
   have hfin:=zIZ hA hxl hB (R:=(xs.take i).flatMap zH ++ rest) (by rw [hRl];omega) (List.take_left' hA);rw [← hL3] at hfin;have HF:Hid (base≤g2∧n+1≤c2∧c2≤9223372036854775807∧((xs.take i).flatMap zH ++ rest).length=c2 * 5∧(n - i) * 5+(i+1) * 5=(n+1) * 5∧(n+1) * 5≤c2 * 5∧((xs.drop i).flatMap zH).length=(n - i) * 5∧((xs.take i).flatMap zH).length=i * 5∧w.heap.size≤g2):=Lib.hid ⟨by omega,hc2,hcm,hRl,hnk,hc2K,hB,hA,hg2⟩;have Hfin:=Lib.hid hfin;have HYS:=Lib.hid hYS;have HO13:=Lib.hid o13;have HR3:=Lib.hid r3
   have Hcp2:=Lib.hid hcp2;have Hr:=Lib.hid hr;have H1:=Lib.hid (hcp1 3);have hroomI:¬ ((n:Int)+1≤(c:Int)):=(by omega);have hroomJ:(c:Int) < (n:Int)+1:=(by omega);have hkz:IntKind.i64.wrap ((n:Int)+1 - (i:Int))=((n+1 - i:Nat):Int):=(by rw [IntKind.wrap_i64];omega);have hkz2:wrap64 ((n:Int)+1 - (i:Int))=((n+1 - i:Nat):Int):=(by rw [IntWalk.wrap64_in _ (by omega)];omega);have htn:((i:Int)+1).toNat=i+1:=(by omega);have hcb:¬ c2=i:=(by omega);have hcb1:¬ c2=i+1:=(by omega);have hcbi:¬ c=i:=by have:=hvw.2.2.2.2.1;omega
   have hic2:(i:Int)≤(c2:Int):=(by omega);have hi01:(0:Int)≤(i:Int)+1:=(by omega);have hin1:(i:Int)+1≤(n:Int)+1:=(by omega);have hci:(i:Int)≤(c:Int):=(by have:=hvw.2.2.2.2.1;omega);clear hYS hr hcp1 hcp2 hfin hL3 r2 r3 o2 o3 o13 hw3 hvw hold hsrc hA hB hRl hl3 hown hv hvsrc h1B hsz hxl hc2K hnk e1 hrl hvp
   go_enter Tryz.func148,Tryz.ntmps148
   go_upto_region 11 with (at_builtin;refine qP (s:=.tmp 34) (x:=.tmp 39) rfl rfl rfl rfl Hr.out ?_)
   have h1:=H1.out (c2 - i);rw [h1];clear h1
   go_upto_region 11 with (fail)
   have hRr:∀ x,(Only [g2]) x x:=fun x=>Only.refl _ _;have hRt:∀ x b e,(Only [g2]) x b→(Only [g2]) b e→(Only [g2]) x e:=fun _ _ _ h k=>h.trans k (fun _ h _=>h);have hRd:(Only [g2]) w3 w3.drew:=(Only.drew _).mono (by simp)
   have hRs:∀ j w,zZ [(8,Only [g2])] j w w:=zZ.refl (by
    intro x hx w;simp only [List.mem_cons,List.not_mem_nil,or_false] at hx
    rcases hx with rfl
    exact Only.refl _ _)
   have hC0:∀ d∈[8],(fun (_:Nat) (a:World)=>Row a g2 48 L3) d w3.drew:=fun _ _=>HR3.out.zB (Only.drew _);refine zU (Only [g2]) (zZ [(8,Only [g2])]) (fun (_:Nat) (a:World)=>Row a g2 48 L3) [8] [[(9,none)],[(1,none)],[(7,none)],[(47,some 1),(48,some 0)],[(46,some 3),(49,some 0)],[(0,none)],[(1,none)],[(51,some 1),(52,some 0)],[(50,some 3),(53,some 0)]] [] [0] [none,none,none,none,none,none,none,none,none,none,none,none,none,none,none,none,none,none,none,none,none,none,none,none,none,none,none,none,none,none,none,none,none,none,none,none,none,none,none,none,none,none,none,none,none,none,some 46,some 47,some 48,some 49,some 50,some 51,some 52,some 53,some 54,none,none,none,none,none,none,none,none,none,none,none,none,none,none,none,none,none,none,none,none,none,none,none,none,none,none,none,none,none,none,none,none,none,none,none,none,none,none,none,none] (by kernel_rfl) rfl (by kernel_rfl) hRr hRt hRs hRd hC0 (by kernel_rfl) (by kernel_rfl) ?_
   apply zF
   ·rintro a w hR hC ⟨(e9:_=_),-⟩;refine zA rfl fun K hK=>?_;go_simp;exact hK _ _ rfl ⟨hRr _,hRs _ _,fun _ _ _ _ h=>h⟩
   apply zF
   ·rintro a w hR hC ⟨(e1:_=_),-⟩;refine zA rfl fun K hK=>?_;go_simp;exact hK _ _ rfl ⟨hRr _,hRs _ _,fun _ _ _ _ h=>h⟩
   apply zF
   ·rintro a w hR hC ⟨(e7:_=_),-⟩;refine zA rfl fun K hK=>?_;go_simp;exact hK _ _ rfl ⟨hRr _,hRs _ _,fun _ _ _ _ h=>h⟩
   apply zF
   ·rintro a w hR hC ⟨(e47:_=_),(e48:_=_),-⟩;refine zA rfl fun K hK=>?_;go_simp;exact hK _ _ rfl ⟨hRr _,hRs _ _,fun _ _ _ _ h=>h⟩
   apply zF
   ·rintro a w hR hC ⟨(e46:_=_),(e49:_=_),-⟩;refine zA rfl fun K hK=>?_;go_simp;exact hK _ _ rfl ⟨hRr _,hRs _ _,fun _ _ _ _ h=>h⟩
   apply zF
   ·rintro a w hR hC ⟨(e0:_=_),-⟩;refine zA rfl fun K hK=>?_;go_simp;exact hK _ _ rfl ⟨hRr _,hRs _ _,fun _ _ _ _ h=>h⟩
   apply zF
   ·rintro a w hR hC ⟨(e1:_=_),-⟩;refine zA rfl fun K hK=>?_;go_simp;exact hK _ _ rfl ⟨hRr _,hRs _ _,fun _ _ _ _ h=>h⟩
   apply zF
   ·rintro a w hR hC ⟨(e51:_=_),(e52:_=_),-⟩;refine zA rfl fun K hK=>?_;go_simp;exact hK _ _ rfl ⟨hRr _,hRs _ _,fun _ _ _ _ h=>h⟩
   refine ⟨qH g2 48 (L3.take ((i+1) * 5) ++ (xs.drop i).flatMap zH ++ L3.drop ((i+1) * 5+((xs.drop i).flatMap zH).length)),zL qH.stable (by intro x hx hk;simp only [List.mem_cons,List.not_mem_nil,or_false] at hx;rcases hx with rfl;exact Bool.noConfusion (hk.symm.trans (by kernel_rfl:_=true))),fun a w hR hC hf=>?_,?_⟩
   ·obtain ⟨e50,e53,-⟩:=hf;replace e50:a.tmps.getD 50 undef=_:=e50;replace e53:a.tmps.getD 53 undef=_:=e53;refine zA rfl fun K hK=>?_;have rz:Row w g2 48 L3:=hC 8 (by simp) (by kernel_rfl);have hst:=Only.setRow w g2 ((L3.take ((i+1) * 5) ++ (xs.drop i).flatMap zH ++ L3.drop ((i+1) * 5+((xs.drop i).flatMap zH).length))).toArray;refine yV (s:=.tmp 50) (x:=.tmp 53) rfl e50 e53 (Hcp2.out w hR rz _ _ _ _ _ (by simp only [Nat.min_def];split <;> omega)) ?_;exact hK _ _ (rz.setRow _) ⟨hst,hst,fun i hi hne ha hc=>absurd hi (by simp;omega)⟩
   intro f11 w11 hR11 hf hl11;dsimp only [qE];obtain ⟨l8,-⟩:=hl11;replace l8:∃ v,(qH g2 48 (L3.take ((i+1) * 5) ++ (xs.drop i).flatMap zH ++ L3.drop ((i+1) * 5+((xs.drop i).flatMap zH).length))) v w11:=l8;have r4:Row w11 g2 48 (L3.take ((i+1) * 5) ++ (xs.drop i).flatMap zH ++ L3.drop ((i+1) * 5+((xs.drop i).flatMap zH).length)):=(by obtain ⟨v,h⟩:=l8;exact h);obtain ⟨h1,h2,h3,h4,h5,h6,h7,h8,h9⟩:=HF.out;have hxl:=zO x;have e1:(i+1) * 5=i * 5+5:=Nat.succ_mul i 5;rw [e1,h7,Hfin.out] at r4
   have hE:zN w11 base 48 5 (.slice (some ⟨g2,0,none⟩) (n+1) c2) (n+1) (YS.flatMap zH):=zN.ofRow r4 h1 h2 h3 (by rw [List.length_append,List.length_append,List.length_append,List.length_drop,h8,h7,hxl,h4];omega) (by
    have hlen:((xs.take i).flatMap zH ++ zH x ++ (xs.drop i).flatMap zH).length=(n+1) * 5:=by rw [List.length_append,List.length_append,h8,h7,hxl];omega
    rw [← HYS.out,List.take_left' hlen,List.flatMap_append,List.flatMap_cons,List.append_assoc])
   have HE:Hid (zN w11 base 48 5 (.slice (some ⟨g2,0,none⟩) (n+1) c2) (n+1) (YS.flatMap zH)∧Only (blk (some (⟨g,0,none⟩:Addr))) w w11∧∀ z∈blk (some (⟨g2,0,none⟩:Addr)),z∈blk (some (⟨g,0,none⟩:Addr))∨w.heap.size≤z):=Lib.hid ⟨hE,((HO13.out.zY hR11 (by simpa using h9))).mono (by simp),fun z hz=>.inr (by simp [blk] at hz;omega)⟩;clear r4 h1 h2 h3 h4 h5 h6 h7 h8 h9 hxl e1 hE HF Hfin HYS HO13 HR3 Hcp2 hRr hRt hRd hRs hC0 l8;go_wp2_with fail
   go_ret
   exact ⟨some ⟨g2,0,none⟩,c2,rfl,HE.out⟩
end
section
open Go.RowKit
set_option maxHeartbeats 8000000 in
theorem zHO (p:Option Addr) (n c:Nat) (xs:List qG) (k:Bs) (x:qG) (base:Nat) (w0:World) (hn:xs.length=n) (hb:n≤100000) (hown:zN w0 base 48 5 (.slice p n c) n (xs.flatMap zH)) (hbase:base≤w0.heap.size) (hs:jD qG.key lt xs) :
  Calls Tryz.prog 133 #[.slice p n c,.string (str k),.func (.func 67) #[] #[],loV x] w0 fun e' w'=>∃ p' c',e'=.returned (.slice p' (jN qG.key lt xs k x).length c')∧zN w' base 48 5 (.slice p' (jN qG.key lt xs k x).length c') (jN qG.key lt xs k x).length ((jN qG.key lt xs k x).flatMap zH)∧Only (blk p) w0 w'∧∀ z∈blk p',z∈blk p∨w0.heap.size≤z:=by
 generalize hYS:jN qG.key lt xs k x=YS;obtain ⟨i,hi⟩:∃ i,qV qG.key lt xs k=i:=⟨_,rfl⟩;obtain ⟨b,hbt⟩:∃ b,qC qG.key lt xs k=b:=⟨_,rfl⟩;have hile:i≤n:=(by rw [← hi,← hn];exact zAr _ _);obtain ⟨wb,hwb⟩:∃ wb,wb=w0.alloc (.cells #[.string (str x.o.key),.int .i64 x.o.size,.string (str x.o.etag),.int .i64 x.o.time,.slice x.q x.o.pcs.length x.c] 48):=⟨_,rfl⟩;have owb:Only [] w0 wb:=(by rw [hwb];exact Only.alloc _ _);have rb:Row wb w0.heap.size 48 [.string (str x.o.key),.int .i64 x.o.size,.string (str x.o.etag),.int .i64 x.o.time,.slice x.q x.o.pcs.length x.c]:=by rw [hwb];exact Row.zV _ _ _ _ rfl
 have hbs:=zEA p n c xs k wb hn (by omega) (fun h=>(hown.view.2.2.2.1 h).1) (hown.view.2.2.1.zB owb) hs;rw [hi,hbt] at hbs;have Hw:=Lib.hid hwb;have Ho:=Lib.hid owb;have Hrb:=Lib.hid rb;have Hb:=Lib.hid hbs;have hile2:(i:Int)≤(n:Int):=by omega
 cases b with
 | true =>
  have hput:YS=xs.set i x:=(by rw [← hYS];unfold jN;rw [hbt,if_pos rfl,hi]);obtain ⟨y,hy,-⟩:=jQ hbt;rw [hi] at hy;have hin:i < n:=(by have:=(List.getElem?_eq_some_iff.1 hy).1;omega);have hini:(i:Int) < (n:Int):=(by omega);obtain ⟨g,-,rfl,-,-⟩:=hown.rowOf (by omega);obtain ⟨rest,hrow,hlen,hnc,hcm,hgb,-⟩:=hown.row;have hYl:YS.length=n:=(by rw [hput,List.length_set,hn]);rw [hYl];have Hrow:=Lib.hid hrow;have HF:Hid (YS=xs.set i x∧xs[i]?=some y∧xs.length=n∧base≤g∧n≤c∧c≤9223372036854775807∧(xs.flatMap zH ++ rest).length=c * 5):=Lib.hid ⟨hput,hy,hn,hgb,hnc,hcm,hlen⟩
  clear hYS hi hbt hwb owb rb hbs hput hy hown hrow hlen hnc hcm hgb hYl hn hs;unfold loV
  go_enter Tryz.func133,Tryz.ntmps133
  go_wp2_with fail;rw [← Hw.out];refine Hb.out.mono ?_;rintro e1 w1 ⟨rfl,o1⟩;have o01:Only [] w0 w1:=Ho.out.zC o1;have r1:=Hrow.out.zB o01;have rx:=Hrb.out.zB o1;obtain ⟨h1,hy,hn,hgb,hnc,hcm,hlen⟩:=HF.out;have hra:=jZ (rest:=rest) zO hy;have x0:=hra.cell r1 (r:=0) rfl;have x1:=hra.cell r1 (r:=1) rfl;have x2:=hra.cell r1 (r:=2) rfl;have x3:=hra.cell r1 (r:=3) rfl;have x4:=hra.cell r1 (r:=4) rfl;rw [Nat.add_zero] at x0;have y0:=r1.free (i * 5);have y1:=r1.free (i * 5+1);have y2:=r1.free (i * 5+2);have y3:=r1.free (i * 5+3)
  have y4:=r1.free (i * 5+4);have a0:=rx.cell (i:=0) rfl;have a1:=rx.cell (i:=1) rfl;have a2:=rx.cell (i:=2) rfl;have a3:=rx.cell (i:=3) rfl;have a4:=rx.cell (i:=4) rfl;obtain ⟨wz,hwz⟩:∃ wz,wz=(((((w1.setCell ⟨g,i * 5,none⟩ (.string (str x.o.key))).setCell ⟨g,i * 5+1,none⟩ (.int .i64 x.o.size)).setCell ⟨g,i * 5+2,none⟩ (.string (str x.o.etag))).setCell ⟨g,i * 5+3,none⟩ (.int .i64 x.o.time)).setCell ⟨g,i * 5+4,none⟩ (.slice x.q x.o.pcs.length x.c)):=⟨_,rfl⟩;have ozz:Only [g] w1 wz:=by rw [hwz];exact (((((Only.setCell _ ⟨g,i * 5,none⟩ _).trans (Only.setCell _ ⟨g,i * 5+1,none⟩ _) (fun _ h _=>h)).trans (Only.setCell _ ⟨g,i * 5+2,none⟩ _) (fun _ h _=>h)).trans (Only.setCell _ ⟨g,i * 5+3,none⟩ _) (fun _ h _=>h)).trans (Only.setCell _ ⟨g,i * 5+4,none⟩ _) (fun _ h _=>h))
  have hra2:=(((((hra.set (i:=0) (.string (str x.o.key)) (by simp only [List.length_set,zO];omega)).set (i:=1) (.int .i64 x.o.size) (by simp only [List.length_set,zO];omega)).set (i:=2) (.string (str x.o.etag)) (by simp only [List.length_set,zO];omega)).set (i:=3) (.int .i64 x.o.time) (by simp only [List.length_set,zO];omega)).set (i:=4) (.slice x.q x.o.pcs.length x.c) (by simp only [List.length_set,zO];omega));have hrz:=(((((r1.setCell (i * 5) (.string (str x.o.key))).setCell (i * 5+1) (.int .i64 x.o.size)).setCell (i * 5+2) (.string (str x.o.etag))).setCell (i * 5+3) (.int .i64 x.o.time)).setCell (i * 5+4) (.slice x.q x.o.pcs.length x.c))
  rw [← hwz] at hrz;have hE:=zN.zAz (y:=x) (by omega) zO hgb hn hin hnc hcm hlen hrz (((((Outside.set (i * 5) 5 _ (i:=i * 5) (.string (str x.o.key)) (by omega) (by omega)).trans (Outside.set (i * 5) 5 _ (i:=i * 5+1) (.int .i64 x.o.size) (by omega) (by omega))).trans (Outside.set (i * 5) 5 _ (i:=i * 5+2) (.string (str x.o.etag)) (by omega) (by omega))).trans (Outside.set (i * 5) 5 _ (i:=i * 5+3) (.int .i64 x.o.time) (by omega) (by omega))).trans (Outside.set (i * 5) 5 _ (i:=i * 5+4) (.slice x.q x.o.pcs.length x.c) (by omega) (by omega))) hra2;rw [← h1] at hE
  have HE:Hid (zN wz base 48 5 (.slice (some ⟨g,0,none⟩) n c) n (YS.flatMap zH)∧Only (blk (some (⟨g,0,none⟩:Addr))) w0 wz):=Lib.hid ⟨hE,(o01.mono (fun _ h=>by cases h)).trans ozz (fun _ h _=>h)⟩;have Hz:=Lib.hid hwz;clear hwz ozz hra hra2 hrz hE r1 rx o1 o01 h1 hy hn hgb hnc hcm hlen HF Hrow Hrb Hb;go_wp2_with fail;rw [← Hz.out]
  go_ret
  exact ⟨_,_,rfl,HE.out.1,HE.out.2,fun z hz=>.inl hz⟩
 | false =>
  have hput:YS=xs.take i ++ x :: xs.drop i:=(by rw [← hYS];unfold jN;rw [hbt,if_neg (by simp),hi]);have hYl:YS.length=n+1:=(by rw [hput];simp;omega);rw [hYl];have HF:Hid (YS=xs.take i ++ x :: xs.drop i∧xs.length=n∧zN w0 base 48 5 (.slice p n c) n (xs.flatMap zH)):=Lib.hid ⟨hput,hn,hown⟩;clear hYS hi hbt hwb owb rb hbs hput hown hYl hn hs;unfold loV
  go_enter Tryz.func133,Tryz.ntmps133
  go_wp2_with fail;rw [← Hw.out];refine Hb.out.mono ?_;rintro e1 w1 ⟨rfl,o1⟩;have o01:Only [] w0 w1:=Ho.out.zC o1;have rx:=Hrb.out.zB o1;obtain ⟨h1,hn,hown⟩:=HF.out;obtain ⟨wv,hwv⟩:∃ wv,wv=w1.alloc (.cells #[.string (str x.o.key),.int .i64 x.o.size,.string (str x.o.etag),.int .i64 x.o.time,.slice x.q x.o.pcs.length x.c] 48):=⟨_,rfl⟩;have ov:Only [] w1 wv:=(by rw [hwv];exact Only.alloc _ _);have rv:Row wv w1.heap.size 48 (zH x):=(by rw [hwv];exact Row.zV _ _ _ _ rfl);have hlo:=hown.view.2.2.2.2.2.2;have hsz:=o01.size;have hins:=zHM p n c xs x i w1.heap.size base wv (hown.zB (o01.zC ov)) (by have:=ov.size;omega) hn hile (by omega) rv (fun hm=>by have:=(hlo _ hm).2;omega)
  rw [← h1] at hins;have Hi:=Lib.hid hins;have Hv:=Lib.hid hwv;have Hov:Hid (Only [] w0 wv):=Lib.hid (o01.zC ov);have a0:=rx.cell (i:=0) rfl;have a1:=rx.cell (i:=1) rfl;have a2:=rx.cell (i:=2) rfl;have a3:=rx.cell (i:=3) rfl;have a4:=rx.cell (i:=4) rfl;clear hins hwv ov rv hlo rx o1 h1 hn hown HF Hrb Hb;go_wp2_with fail;rw [← Hv.out];refine Hi.out.mono ?_;rintro e2 w2 ⟨p',c',rfl,h1,h2,h3⟩;have HE:Hid (zN w2 base 48 5 (.slice p' (n+1) c') (n+1) (YS.flatMap zH)∧Only (blk p) w0 w2∧∀ z∈blk p',z∈blk p∨w0.heap.size≤z):=Lib.hid ⟨h1,(Hov.out.mono (fun _ h=>by cases h)).trans h2 (fun _ h _=>h),fun z hz=>(h3 z hz).imp id (fun h=>by have:=Hov.out.size;omega)⟩
  clear h1 h2 h3 Hi Hv Hov;go_wp2_with fail
  go_ret
  exact ⟨_,_,rfl,HE.out⟩
end
section
open Go.RowKit
set_option maxHeartbeats 8000000 in
theorem zGi (p:Option Addr) (n c:Nat) (xs:List qN) (x:qN) (i vb base:Nat) (w:World) (hown:zN w base 54 5 (.slice p n c) n (xs.flatMap zG)) (hbase:base≤w.heap.size) (hl:xs.length=n) (hin:i≤n) (hnb:n≤1000000) (hv:Row w vb 54 (zG x)) (hvp:vb ∉ blk p) :
  Calls Tryz.prog 134 #[.slice p n c,.int .i64 (i:Int),.slice (some ⟨vb,0,none⟩) 1 1] w fun e' w'=>∃ p' c',e'=.returned (.slice p' (n+1) c')∧zN w' base 54 5 (.slice p' (n+1) c') (n+1) ((xs.take i ++ x :: xs.drop i).flatMap zG)∧Only (blk p) w w'∧∀ z∈blk p',z∈blk p∨w.heap.size≤z:=by
 generalize hYS:xs.take i ++ x :: xs.drop i=YS
 by_cases hi:i=n
 ·subst hi;obtain ⟨p',c',w2,hr,o2,h2⟩:=xN (P:=Tryz.prog) (t:=58) (ty:=58) (m:=1) (c:=1) (q:=some ⟨vb,0,none⟩) (news:=zG x) w Tryz.underlying58 Tryz.infoLU rfl (by omega) hown hv.rd0 (by rw [zT]) (by simp) (xX x) (by omega) (by omega) hbase;have hat:=xR (P:=Tryz.prog) (t:=58) (ty:=58) (m:=1) (c:=1) (q:=some ⟨vb,0,none⟩) (news:=zG x) w Tryz.underlying58 Tryz.infoLU rfl (by omega) hown hv.rd0 (by rw [zT]) (by simp) (xX x) (by omega) (by omega) hr;have Hr:=Lib.hid hr
  have HE:Hid (zN w2 base 54 5 (.slice p' (i+1) c') (i+1) (YS.flatMap zG)∧Only (blk p) w w2∧∀ z∈blk p',z∈blk p∨w.heap.size≤z):=Lib.hid ⟨by
   rw [← hYS,List.take_of_length_le (by omega),List.drop_eq_nil_of_le (by omega),List.flatMap_append,List.flatMap_cons,List.flatMap_nil,List.append_nil];exact o2,h2,fun z hz=>by
   rcases hat with rfl | ⟨g,rfl,hg⟩
   ·exact .inl hz
   ·simp [blk] at hz;subst hz;exact .inr hg⟩
  clear hr o2 h2 hat hown hv hvp hbase hYS
  go_enter Tryz.func134,Tryz.ntmps134
  go_wp2_with (first | (at_builtin;refine qP (s:=.tmp 23) (x:=.tmp 24) rfl rfl rfl rfl Hr.out ?_))
  all_goals
   go_ret
   exact ⟨p',c',rfl,HE.out⟩
 ·have hlt:i < n:=(by omega);obtain ⟨g,rfl,hgb,hgl⟩:=hown.at (by omega);have hvw:=hown.view;have hold:Rd w (some ⟨g,0,none⟩) ((xs.take i).flatMap zG):=zBw zT hvw.2.2.1 i
  have hsrc:∀ W:World,Only [] w W→∀ j v,((xs.drop i).flatMap zG)[j]?=some v→W.cell? ((⟨g,i * 5,none⟩:Addr).add j)=some v:=fun W ho j v hj=>by
   rw [← xU zG 5 zT,List.getElem?_drop] at hj;have:=(hvw.2.2.1.zB ho).cells _ _ hj;rw [Addr.add_lit] at this ⊢;rw [Nat.zero_add] at this;exact this
  have hA:((xs.take i).flatMap zG).length=i * 5:=(by rw [qR zG 5 zT,List.length_take];congr 1;omega);have hB:((xs.drop i).flatMap zG).length=(n - i) * 5:=(by rw [qR zG 5 zT,List.length_drop,hl]);have hsz:(Tryz.prog.info? 54).map (·.size)=some 5:=(by kernel_rfl);have h1B:∀ v∈(xs.drop i).flatMap zG,v.oneCell'=true:=fun v hv=>vD zG xX hv;have hxl:=zT x;have hgv:g≠vb:=fun e1=>hvp (by simp [blk,e1]);have hi0:¬ ((i:Int)=(n:Int)):=(by omega);have hq0:((i:Int) == (n:Int))=false:=beq_eq_false_iff_ne.2 hi0
  have hw1:IntKind.i64.wrap ((n:Int)+1)=(n:Int)+1:=(by rw [IntKind.wrap_i64];omega);have hw2:IntKind.i64.wrap ((i:Int)+1)=(i:Int)+1:=(by rw [IntKind.wrap_i64];omega);have hini:(i:Int)≤(n:Int):=(by omega);have hvsrc:∀ W:World,Row W vb 54 (zG x)→∀ j v,(zG x)[j]?=some v→W.cell? ((⟨vb,0,none⟩:Addr).add j)=some v:=fun W r j v hj=>by rw [Addr.add_lit,Nat.zero_add];exact r.cell hj
  by_cases hroom:n+1≤c
  ·-- room: in place
   obtain ⟨rest,hrow,hlen,hnc,hcm,hgB,hA0⟩:=hown.row;obtain ⟨L,hL⟩:∃ L,L=xs.flatMap zG ++ rest:=⟨_,rfl⟩;rw [← hL] at hrow hlen;have hAt:L.take (i * 5)=(xs.take i).flatMap zG:=(by rw [hL,List.take_append_of_le_length (by rw [hA0];exact Nat.mul_le_mul_right _ hin),yI zG 5 zT]);have e1:(i+1) * 5=i * 5+5:=Nat.succ_mul i 5;have hnk:i * 5+5+(n - i) * 5=(n+1) * 5:=(by rw [← e1,← Nat.add_mul];congr 1;omega);have hcK:=Nat.mul_le_mul_right 5 hroom
   have hsrcL:∀ W:World,Row W g 54 L→∀ j v,((xs.drop i).flatMap zG)[j]?=some v→W.cell? ((⟨g,i * 5,none⟩:Addr).add j)=some v:=fun W r j v hj=>by
    rw [Addr.add_lit];refine r.cell ?_;have hj1:=(List.getElem?_eq_some_iff.1 hj).1;have hik:=Nat.mul_le_mul_right 5 hin;have hdd:i * 5+(n - i) * 5=n * 5:=(by rw [← Nat.add_mul];congr 1;omega);rw [hL,List.getElem?_append_left (by rw [hA0];omega),← List.getElem?_drop,xU zG 5 zT];exact hj
   have hcp1:=fun (W:World) (r:Row W g 54 L) (ty:TypeId) (dl dc sl sc:Nat) (hm:Nat.min sl dl=n - i)=>yG (P:=Tryz.prog) (dT:=58) (sT:=58) (ty:=ty) W (dLen:=dl) (dCap:=dc) (sLen:=sl) (sCap:=sc) (m:=n - i) (o:=(i+1) * 5) (a:=⟨g,i * 5,none⟩) Tryz.underlying58 hsz r hm hB (hsrcL W r) (by rw [hB,hlen];omega) h1B;have hcp2:=fun (W:World) (r:Row W g 54 (L.take ((i+1) * 5) ++ (xs.drop i).flatMap zG ++ L.drop ((i+1) * 5+((xs.drop i).flatMap zG).length))) (rx:Row W vb 54 (zG x)) (ty:TypeId) (dl dc:Nat) (hm:Nat.min 1 dl=1)=>yG (P:=Tryz.prog) (dT:=58) (sT:=58) (ty:=ty) W (dLen:=dl) (dCap:=dc) (sLen:=1) (sCap:=1) (m:=1) (o:=i * 5) (a:=⟨vb,0,none⟩) Tryz.underlying58 hsz r hm (by rw [hxl]) (hvsrc W rx) (by rw [hxl];simp only [List.length_append,List.length_take,List.length_drop];omega) (xX x)
   have hfin:=zFA hA hxl hB (R:=L) (by rw [hlen];omega) hAt
   have hov:∀ lb cb,(callFunc 149 #[.slice (some ⟨vb,0,none⟩) 1 1,.slice (some ⟨g,(i+1) * 5,none⟩) lb cb]).run Tryz.prog w=.ok (.value (.bool false)) w:=fun lb cb=>by
    rw [run_callFunc_extern Tryz.func149 (by kernel_rfl) (by kernel_rfl) (by kernel_rfl) (e:=Extern.SlicesOverlaps.overlaps #[58,58] #[4]) (by kernel_rfl),
     Lib.run_overlaps_apart w 58 4 54 Tryz.underlying58 5 (fun w=>by unfold sizeOf typeInfo;obtain ⟨ii,hii,-,hs2,-⟩:=info_partsK Tryz.infoLU;simp [hii,hs2]) ⟨vb,0,none⟩ ⟨g,(i+1) * 5,none⟩ 1 1 lb cb (fun e'=>hgv e'.symm) 54 54 _ _ (vH hv) (vH hrow) (by rw [List.size_toArray,hlen];omega) (hv.free 0) (hv.free _)]
    rfl
   have Hcp1:=Lib.hid hcp1;have Hcp2:=Lib.hid hcp2;have HF:Hid (base≤g∧n+1≤c∧c≤9223372036854775807∧L.length=c * 5∧xs.length=n∧i * 5+5+(n - i) * 5=(n+1) * 5∧(n+1) * 5≤c * 5∧((xs.drop i).flatMap zG).length=(n - i) * 5∧((xs.take i).flatMap zG).length=i * 5):=Lib.hid ⟨hgB,hroom,hcm,hlen,hl,hnk,hcK,hB,hA⟩;have Hfin:=Lib.hid hfin;have HYS:=Lib.hid hYS;have Hr0:=Lib.hid hrow;have Hv0:=Lib.hid hv;have Hgv:=Lib.hid hgv;have hroomI:(n:Int)+1≤(c:Int):=(by omega);have hroomJ:¬ (c:Int) < (n:Int)+1:=by omega
   have htn:((i:Int)+1).toNat=i+1:=(by omega);have htn2:((n:Int)+1).toNat=n+1:=(by omega);have hc1:¬ c=i+1:=(by omega);have hc0:¬ c=i:=(by omega);have hi01:(0:Int)≤(i:Int)+1:=(by omega);have hin1:(i:Int)+1≤(n:Int)+1:=(by omega);have hin2:(i:Int)≤(n:Int)+1:=(by omega);have hn01:(0:Int)≤(n:Int)+1:=(by omega);clear hYS hcp1 hcp2 hfin hL hAt hA0 hgB hcm hlen hnk hcK hrow hsrcL hold hsrc hA hB hown hv hvsrc h1B hsz hxl e1 hvp hgv hvw
   go_enter Tryz.func134,Tryz.ntmps134
   go_upto_region 15 with (simp only [hov])
   clear hov;have hRr:∀ x,(Only [g]) x x:=fun x=>Only.refl _ _;have hRt:∀ x b e,(Only [g]) x b→(Only [g]) b e→(Only [g]) x e:=fun _ _ _ h k=>h.trans k (fun _ h _=>h);have hRd:(Only [g]) w w.drew:=(Only.drew _).mono (by simp)
   have hRs:∀ j w,zZ [(8,Only [g])] j w w:=zZ.refl (by
    intro x hx w;simp only [List.mem_cons,List.not_mem_nil,or_false] at hx
    rcases hx with rfl
    exact Only.refl _ _)
   have hC0:∀ d∈[8],(fun (_:Nat) (a:World)=>Row a g 54 L) d w.drew:=fun _ _=>Hr0.out.zB (Only.drew _);refine zU (Only [g]) (zZ [(8,Only [g])]) (fun (_:Nat) (a:World)=>Row a g 54 L) [8] [[(0,none)],[(1,none)],[(7,none)],[(70,some 1),(71,some 0)],[(69,some 3),(72,some 0)],[(0,none)],[(1,none)],[(74,some 1),(75,some 0)],[(73,some 3),(76,some 0)]] [] [0] [none,none,none,none,none,none,none,none,none,none,none,none,none,none,none,none,none,none,none,none,none,none,none,none,none,none,none,none,none,none,none,none,none,none,none,none,none,none,none,none,none,none,none,none,none,none,none,none,none,none,none,none,none,none,none,none,none,none,none,none,none,none,none,none,none,none,none,none,none,some 69,some 70,some 71,some 72,some 73,some 74,some 75,some 76,some 77,none,none,none,none,none,none,none,none,none,none,none,none,none,none,none,none,none] (by kernel_rfl) rfl (by kernel_rfl) hRr hRt hRs hRd hC0 (by kernel_rfl) (by kernel_rfl) ?_
   apply zF
   ·rintro a w hR hC ⟨(e0:_=_),-⟩;refine zA rfl fun K hK=>?_;go_simp;exact hK _ _ rfl ⟨hRr _,hRs _ _,fun _ _ _ _ h=>h⟩
   apply zF
   ·rintro a w hR hC ⟨(e1:_=_),-⟩;refine zA rfl fun K hK=>?_;go_simp;exact hK _ _ rfl ⟨hRr _,hRs _ _,fun _ _ _ _ h=>h⟩
   apply zF
   ·rintro a w hR hC ⟨(e7:_=_),-⟩;refine zA rfl fun K hK=>?_;go_simp;exact hK _ _ rfl ⟨hRr _,hRs _ _,fun _ _ _ _ h=>h⟩
   apply zF
   ·rintro a w hR hC ⟨(e70:_=_),(e71:_=_),-⟩;refine zA rfl fun K hK=>?_;go_simp;exact hK _ _ rfl ⟨hRr _,hRs _ _,fun _ _ _ _ h=>h⟩
   apply zF
   ·rintro a w hR hC ⟨(e69:_=_),(e72:_=_),-⟩;refine zA rfl fun K hK=>?_;go_simp;exact hK _ _ rfl ⟨hRr _,hRs _ _,fun _ _ _ _ h=>h⟩
   apply zF
   ·rintro a w hR hC ⟨(e0:_=_),-⟩;refine zA rfl fun K hK=>?_;go_simp;exact hK _ _ rfl ⟨hRr _,hRs _ _,fun _ _ _ _ h=>h⟩
   apply zF
   ·rintro a w hR hC ⟨(e1:_=_),-⟩;refine zA rfl fun K hK=>?_;go_simp;exact hK _ _ rfl ⟨hRr _,hRs _ _,fun _ _ _ _ h=>h⟩
   apply zF
   ·rintro a w hR hC ⟨(e74:_=_),(e75:_=_),-⟩;refine zA rfl fun K hK=>?_;go_simp;exact hK _ _ rfl ⟨hRr _,hRs _ _,fun _ _ _ _ h=>h⟩
   refine ⟨qH g 54 (L.take ((i+1) * 5) ++ (xs.drop i).flatMap zG ++ L.drop ((i+1) * 5+((xs.drop i).flatMap zG).length)),zL qH.stable (by intro x hx hk;simp only [List.mem_cons,List.not_mem_nil,or_false] at hx;rcases hx with rfl;exact Bool.noConfusion (hk.symm.trans (by kernel_rfl:_=true))),fun a w hR hC hf=>?_,?_⟩
   ·obtain ⟨e73,e76,-⟩:=hf;replace e73:a.tmps.getD 73 undef=_:=e73;replace e76:a.tmps.getD 76 undef=_:=e76;refine zA rfl fun K hK=>?_;have rz:Row w g 54 L:=hC 8 (by simp) (by kernel_rfl);have hst:=Only.setRow w g ((L.take ((i+1) * 5) ++ (xs.drop i).flatMap zG ++ L.drop ((i+1) * 5+((xs.drop i).flatMap zG).length))).toArray;refine yV (s:=.tmp 73) (x:=.tmp 76) rfl e73 e76 (Hcp1.out w rz _ _ _ _ _ (by simp only [Nat.min_def];split <;> omega)) ?_;exact hK _ _ (rz.setRow _) ⟨hst,hst,fun i hi hne ha hc=>absurd hi (by simp;omega)⟩
   intro f15 w15 hR15 hf hl15;dsimp only [qE];obtain ⟨l8,-⟩:=hl15;replace l8:∃ v,(qH g 54 (L.take ((i+1) * 5) ++ (xs.drop i).flatMap zG ++ L.drop ((i+1) * 5+((xs.drop i).flatMap zG).length))) v w15:=l8;have r1:Row w15 g 54 (L.take ((i+1) * 5) ++ (xs.drop i).flatMap zG ++ L.drop ((i+1) * 5+((xs.drop i).flatMap zG).length)):=(by obtain ⟨v,h⟩:=l8;exact h);have rx:=Hv0.out.only hR15 (by simpa using fun e=>Hgv.out e.symm);obtain ⟨h1,h2,h3,h4,h5,h6,h7,h8,h9⟩:=HF.out;obtain ⟨w4,hw4⟩:∃ w4,w4=w15.setRow g ((L.take ((i+1) * 5) ++ (xs.drop i).flatMap zG ++ L.drop ((i+1) * 5+((xs.drop i).flatMap zG).length)).take (i * 5) ++ zG x ++ (L.take ((i+1) * 5) ++ (xs.drop i).flatMap zG ++ L.drop ((i+1) * 5+((xs.drop i).flatMap zG).length)).drop (i * 5+(zG x).length)).toArray:=⟨_,rfl⟩
   have H2:=fun ty dl dc hm=>Hcp2.out w15 r1 rx ty dl dc hm;have o4:Only [g] w15 w4:=(by rw [hw4];exact Only.setRow _ _ _);have r4:=r1.setRow ((L.take ((i+1) * 5) ++ (xs.drop i).flatMap zG ++ L.drop ((i+1) * 5+((xs.drop i).flatMap zG).length)).take (i * 5) ++ zG x ++ (L.take ((i+1) * 5) ++ (xs.drop i).flatMap zG ++ L.drop ((i+1) * 5+((xs.drop i).flatMap zG).length)).drop (i * 5+(zG x).length));rw [← hw4] at r4 H2;have hxl:=zT x;have e1:(i+1) * 5=i * 5+5:=Nat.succ_mul i 5;rw [e1,hxl,h8,Hfin.out] at r4
   have hE:zN w4 base 54 5 (.slice (some ⟨g,0,none⟩) (n+1) c) (n+1) (YS.flatMap zG):=zN.ofRow r4 h1 h2 h3 (by rw [List.length_append,List.length_append,List.length_append,List.length_drop,h9,h8,hxl,h4];omega) (by
    have hlen:((xs.take i).flatMap zG ++ zG x ++ (xs.drop i).flatMap zG).length=(n+1) * 5:=by rw [List.length_append,List.length_append,h9,h8,hxl];omega
    rw [← HYS.out,List.take_left' hlen,List.flatMap_append,List.flatMap_cons,List.append_assoc])
   have HE:Hid (zN w4 base 54 5 (.slice (some ⟨g,0,none⟩) (n+1) c) (n+1) (YS.flatMap zG)∧Only (blk (some (⟨g,0,none⟩:Addr))) w w4∧∀ z∈blk (some (⟨g,0,none⟩:Addr)),z∈blk (some (⟨g,0,none⟩:Addr))∨w.heap.size≤z):=Lib.hid ⟨hE,hR15.trans o4 (fun _ h _=>h),fun z hz=>.inl hz⟩;have H2h:=Lib.hid H2;clear r1 rx h1 h2 h3 h4 h5 h6 h7 h8 h9 H2 o4 r4 hxl e1 hE HF Hfin HYS Hcp1 Hcp2 Hr0 Hv0 Hgv hRr hRt hRd hRs hC0 l8 hw4
   go_upto_region 17 with (fail)
   rw [H2h.out _ _ _ (by simp only [Nat.min_def];split <;> omega)];go_wp2_with fail
   go_ret
   exact ⟨some ⟨g,0,none⟩,c,rfl,HE.out⟩
  ·-- a new block
   have hk:i+(n+1 - i)=n+1:=(by omega);obtain ⟨g2,c2,w2,rest,hr,r2,hrl,hc2,hcm,hg2,o2⟩:=zFa (P:=Tryz.prog) (tn:=3) (kn:=.i64) (kq:=.i64) (ty:=58) (cap:=c) (k:=n+1 - i) w Tryz.underlying58 Tryz.underlying3 Tryz.infoLU rfl (by omega) hold hA (by omega) (by omega) (by omega) (by omega);rw [hk] at hr hc2;have hRl:((xs.take i).flatMap zG ++ rest).length=c2 * 5:=(by rw [List.length_append,hA];omega);have hcp1:=fun ty dc=>yG (P:=Tryz.prog) (sT:=58) (ty:=ty) w2 (dLen:=n+1 - i) (dCap:=dc) (sLen:=1) (sCap:=1) (m:=1) (o:=i * 5) (a:=⟨vb,0,none⟩) Tryz.underlying58 hsz r2 (by simp only [Nat.min_def];split <;> omega) (by rw [hxl]) (hvsrc w2 (hv.zB o2)) (by rw [hxl,hRl];have:=Nat.mul_le_mul_right 5 hc2;omega) (xX x)
   obtain ⟨w3,hw3⟩:∃ w3,w3=w2.setRow g2 (((xs.take i).flatMap zG ++ rest).take (i * 5) ++ zG x ++ ((xs.take i).flatMap zG ++ rest).drop (i * 5+(zG x).length)).toArray:=⟨_,rfl⟩;have r3:=r2.setRow (((xs.take i).flatMap zG ++ rest).take (i * 5) ++ zG x ++ ((xs.take i).flatMap zG ++ rest).drop (i * 5+(zG x).length));have o3:Only [g2] w2 w3:=(by rw [hw3];exact Only.setRow _ _ _);rw [← hw3] at r3 hcp1;rw [hxl] at r3;have o13:Only [] w w3:=o2.zY o3 (by simpa using hg2);have e1:(i+1) * 5=i * 5+5:=Nat.succ_mul i 5;have hnk:(n - i) * 5+(i+1) * 5=(n+1) * 5:=by rw [← Nat.add_mul];congr 1;omega
   have hc2K:=Nat.mul_le_mul_right 5 hc2
   have hl3:(((xs.take i).flatMap zG ++ rest).take (i * 5) ++ zG x ++ ((xs.take i).flatMap zG ++ rest).drop (i * 5+5)).length=c2 * 5:=by
    rw [List.length_append,List.length_append,List.length_take,List.length_drop,hRl,hxl];omega
   obtain ⟨L3,hL3⟩:∃ L3,L3=((xs.take i).flatMap zG ++ rest).take (i * 5) ++ zG x ++ ((xs.take i).flatMap zG ++ rest).drop (i * 5+5):=⟨_,rfl⟩;rw [← hL3] at r3 hl3
   have hcp2:=fun (W:World) (ho:Only [g2] w3 W) (r:Row W g2 54 L3) (ty:TypeId) (dl dc sl sc:Nat) (hm:Nat.min sl dl=n - i)=>yG (P:=Tryz.prog) (dT:=58) (sT:=58) (ty:=ty) W (dLen:=dl) (dCap:=dc) (sLen:=sl) (sCap:=sc) (m:=n - i) (o:=(i+1) * 5) (a:=⟨g,i * 5,none⟩) Tryz.underlying58 hsz r hm hB (fun j v hj=>by
    have h:=hsrc w3 o13 j v hj;rw [Addr.add_lit] at h ⊢
    exact ho.cell h (by simp;omega)) (by rw [hB,hl3];omega) h1B
   have hfin:=zIZ hA hxl hB (R:=(xs.take i).flatMap zG ++ rest) (by rw [hRl];omega) (List.take_left' hA);rw [← hL3] at hfin;have HF:Hid (base≤g2∧n+1≤c2∧c2≤9223372036854775807∧((xs.take i).flatMap zG ++ rest).length=c2 * 5∧(n - i) * 5+(i+1) * 5=(n+1) * 5∧(n+1) * 5≤c2 * 5∧((xs.drop i).flatMap zG).length=(n - i) * 5∧((xs.take i).flatMap zG).length=i * 5∧w.heap.size≤g2):=Lib.hid ⟨by omega,hc2,hcm,hRl,hnk,hc2K,hB,hA,hg2⟩;have Hfin:=Lib.hid hfin;have HYS:=Lib.hid hYS;have HO13:=Lib.hid o13;have HR3:=Lib.hid r3
   have Hcp2:=Lib.hid hcp2;have Hr:=Lib.hid hr;have H1:=Lib.hid (hcp1 3);have hroomI:¬ ((n:Int)+1≤(c:Int)):=(by omega);have hroomJ:(c:Int) < (n:Int)+1:=(by omega);have hkz:IntKind.i64.wrap ((n:Int)+1 - (i:Int))=((n+1 - i:Nat):Int):=(by rw [IntKind.wrap_i64];omega);have hkz2:wrap64 ((n:Int)+1 - (i:Int))=((n+1 - i:Nat):Int):=(by rw [IntWalk.wrap64_in _ (by omega)];omega);have htn:((i:Int)+1).toNat=i+1:=(by omega);have hcb:¬ c2=i:=(by omega);have hcb1:¬ c2=i+1:=(by omega);have hcbi:¬ c=i:=by have:=hvw.2.2.2.2.1;omega
   have hic2:(i:Int)≤(c2:Int):=(by omega);have hi01:(0:Int)≤(i:Int)+1:=(by omega);have hin1:(i:Int)+1≤(n:Int)+1:=(by omega);have hci:(i:Int)≤(c:Int):=(by have:=hvw.2.2.2.2.1;omega);clear hYS hr hcp1 hcp2 hfin hL3 r2 r3 o2 o3 o13 hw3 hvw hold hsrc hA hB hRl hl3 hown hv hvsrc h1B hsz hxl hc2K hnk e1 hrl hvp
   go_enter Tryz.func134,Tryz.ntmps134
   go_upto_region 11 with (at_builtin;refine qP (s:=.tmp 34) (x:=.tmp 39) rfl rfl rfl rfl Hr.out ?_)
   have h1:=H1.out (c2 - i);rw [h1];clear h1
   go_upto_region 11 with (fail)
   have hRr:∀ x,(Only [g2]) x x:=fun x=>Only.refl _ _;have hRt:∀ x b e,(Only [g2]) x b→(Only [g2]) b e→(Only [g2]) x e:=fun _ _ _ h k=>h.trans k (fun _ h _=>h);have hRd:(Only [g2]) w3 w3.drew:=(Only.drew _).mono (by simp)
   have hRs:∀ j w,zZ [(8,Only [g2])] j w w:=zZ.refl (by
    intro x hx w;simp only [List.mem_cons,List.not_mem_nil,or_false] at hx
    rcases hx with rfl
    exact Only.refl _ _)
   have hC0:∀ d∈[8],(fun (_:Nat) (a:World)=>Row a g2 54 L3) d w3.drew:=fun _ _=>HR3.out.zB (Only.drew _);refine zU (Only [g2]) (zZ [(8,Only [g2])]) (fun (_:Nat) (a:World)=>Row a g2 54 L3) [8] [[(9,none)],[(1,none)],[(7,none)],[(47,some 1),(48,some 0)],[(46,some 3),(49,some 0)],[(0,none)],[(1,none)],[(51,some 1),(52,some 0)],[(50,some 3),(53,some 0)]] [] [0] [none,none,none,none,none,none,none,none,none,none,none,none,none,none,none,none,none,none,none,none,none,none,none,none,none,none,none,none,none,none,none,none,none,none,none,none,none,none,none,none,none,none,none,none,none,none,some 46,some 47,some 48,some 49,some 50,some 51,some 52,some 53,some 54,none,none,none,none,none,none,none,none,none,none,none,none,none,none,none,none,none,none,none,none,none,none,none,none,none,none,none,none,none,none,none,none,none,none,none,none,none,none,none,none] (by kernel_rfl) rfl (by kernel_rfl) hRr hRt hRs hRd hC0 (by kernel_rfl) (by kernel_rfl) ?_
   apply zF
   ·rintro a w hR hC ⟨(e9:_=_),-⟩;refine zA rfl fun K hK=>?_;go_simp;exact hK _ _ rfl ⟨hRr _,hRs _ _,fun _ _ _ _ h=>h⟩
   apply zF
   ·rintro a w hR hC ⟨(e1:_=_),-⟩;refine zA rfl fun K hK=>?_;go_simp;exact hK _ _ rfl ⟨hRr _,hRs _ _,fun _ _ _ _ h=>h⟩
   apply zF
   ·rintro a w hR hC ⟨(e7:_=_),-⟩;refine zA rfl fun K hK=>?_;go_simp;exact hK _ _ rfl ⟨hRr _,hRs _ _,fun _ _ _ _ h=>h⟩
   apply zF
   ·rintro a w hR hC ⟨(e47:_=_),(e48:_=_),-⟩;refine zA rfl fun K hK=>?_;go_simp;exact hK _ _ rfl ⟨hRr _,hRs _ _,fun _ _ _ _ h=>h⟩
   apply zF
   ·rintro a w hR hC ⟨(e46:_=_),(e49:_=_),-⟩;refine zA rfl fun K hK=>?_;go_simp;exact hK _ _ rfl ⟨hRr _,hRs _ _,fun _ _ _ _ h=>h⟩
   apply zF
   ·rintro a w hR hC ⟨(e0:_=_),-⟩;refine zA rfl fun K hK=>?_;go_simp;exact hK _ _ rfl ⟨hRr _,hRs _ _,fun _ _ _ _ h=>h⟩
   apply zF
   ·rintro a w hR hC ⟨(e1:_=_),-⟩;refine zA rfl fun K hK=>?_;go_simp;exact hK _ _ rfl ⟨hRr _,hRs _ _,fun _ _ _ _ h=>h⟩
   apply zF
   ·rintro a w hR hC ⟨(e51:_=_),(e52:_=_),-⟩;refine zA rfl fun K hK=>?_;go_simp;exact hK _ _ rfl ⟨hRr _,hRs _ _,fun _ _ _ _ h=>h⟩
   refine ⟨qH g2 54 (L3.take ((i+1) * 5) ++ (xs.drop i).flatMap zG ++ L3.drop ((i+1) * 5+((xs.drop i).flatMap zG).length)),zL qH.stable (by intro x hx hk;simp only [List.mem_cons,List.not_mem_nil,or_false] at hx;rcases hx with rfl;exact Bool.noConfusion (hk.symm.trans (by kernel_rfl:_=true))),fun a w hR hC hf=>?_,?_⟩
   ·obtain ⟨e50,e53,-⟩:=hf;replace e50:a.tmps.getD 50 undef=_:=e50;replace e53:a.tmps.getD 53 undef=_:=e53;refine zA rfl fun K hK=>?_;have rz:Row w g2 54 L3:=hC 8 (by simp) (by kernel_rfl);have hst:=Only.setRow w g2 ((L3.take ((i+1) * 5) ++ (xs.drop i).flatMap zG ++ L3.drop ((i+1) * 5+((xs.drop i).flatMap zG).length))).toArray;refine yV (s:=.tmp 50) (x:=.tmp 53) rfl e50 e53 (Hcp2.out w hR rz _ _ _ _ _ (by simp only [Nat.min_def];split <;> omega)) ?_;exact hK _ _ (rz.setRow _) ⟨hst,hst,fun i hi hne ha hc=>absurd hi (by simp;omega)⟩
   intro f11 w11 hR11 hf hl11;dsimp only [qE];obtain ⟨l8,-⟩:=hl11;replace l8:∃ v,(qH g2 54 (L3.take ((i+1) * 5) ++ (xs.drop i).flatMap zG ++ L3.drop ((i+1) * 5+((xs.drop i).flatMap zG).length))) v w11:=l8;have r4:Row w11 g2 54 (L3.take ((i+1) * 5) ++ (xs.drop i).flatMap zG ++ L3.drop ((i+1) * 5+((xs.drop i).flatMap zG).length)):=(by obtain ⟨v,h⟩:=l8;exact h);obtain ⟨h1,h2,h3,h4,h5,h6,h7,h8,h9⟩:=HF.out;have hxl:=zT x;have e1:(i+1) * 5=i * 5+5:=Nat.succ_mul i 5;rw [e1,h7,Hfin.out] at r4
   have hE:zN w11 base 54 5 (.slice (some ⟨g2,0,none⟩) (n+1) c2) (n+1) (YS.flatMap zG):=zN.ofRow r4 h1 h2 h3 (by rw [List.length_append,List.length_append,List.length_append,List.length_drop,h8,h7,hxl,h4];omega) (by
    have hlen:((xs.take i).flatMap zG ++ zG x ++ (xs.drop i).flatMap zG).length=(n+1) * 5:=by rw [List.length_append,List.length_append,h8,h7,hxl];omega
    rw [← HYS.out,List.take_left' hlen,List.flatMap_append,List.flatMap_cons,List.append_assoc])
   have HE:Hid (zN w11 base 54 5 (.slice (some ⟨g2,0,none⟩) (n+1) c2) (n+1) (YS.flatMap zG)∧Only (blk (some (⟨g,0,none⟩:Addr))) w w11∧∀ z∈blk (some (⟨g2,0,none⟩:Addr)),z∈blk (some (⟨g,0,none⟩:Addr))∨w.heap.size≤z):=Lib.hid ⟨hE,((HO13.out.zY hR11 (by simpa using h9))).mono (by simp),fun z hz=>.inr (by simp [blk] at hz;omega)⟩;clear r4 h1 h2 h3 h4 h5 h6 h7 h8 h9 hxl e1 hE HF Hfin HYS HO13 HR3 Hcp2 hRr hRt hRd hRs hC0 l8;go_wp2_with fail
   go_ret
   exact ⟨some ⟨g2,0,none⟩,c2,rfl,HE.out⟩
end
end Go.Proofs.YtfeglnpmpgipiaaGreatDoor
