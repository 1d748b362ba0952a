/- CmpPk, part 24: InsIdW, SetIdW, InsObW, SetObW, InsUpW. -/
import Derived.Test.YtfeglnpmpgipiaaGreatDoorCmpPk08
import Derived.Test.YtfeglnpmpgipiaaGreatDoorCmpPk10
import Derived.Test.YtfeglnpmpgipiaaGreatDoorCmpPk11
import Derived.Test.YtfeglnpmpgipiaaGreatDoorCmpPk12
import Derived.Test.YtfeglnpmpgipiaaGreatDoorCmpPk14
import Derived.Lib.Overlaps
set_option linter.unusedVariables false
set_option maxRecDepth 100000
set_option linter.unusedSimpArgs false
namespace Go.Proofs.YtfeglnpmpgipiaaGreatDoor
section
open Go.RowKit
set_option maxHeartbeats 8000000 in
theorem insId_any (p:Option Addr) (n c:Nat) (xs:List Cid) (x:Cid) (i vb base:Nat) (w:World) (hown:OwnK w base 31 3 (.slice p n c) n (xs.flatMap idCells)) (hbase:base≤w.heap.size) (hl:xs.length=n) (hin:i≤n) (hnb:n≤1000000) (hv:Row w vb 31 (idCells x)) (hvp:vb ∉ blk p) :
  Calls Tryz.prog 95 #[.slice p n c,.int .i64 (i:Int),.slice (some ⟨vb,0,none⟩) 1 1] w fun e' w'=>∃ p' c',e'=.returned (.slice p' (n+1) c')∧OwnK w' base 31 3 (.slice p' (n+1) c') (n+1) ((xs.take i ++ x :: xs.drop i).flatMap idCells)∧Only (blk p) w w'∧∀ z∈blk p',z∈blk p∨w.heap.size≤z:=by
 generalize hYS:xs.take i ++ x :: xs.drop i=YS
 by_cases hi:i=n
 ·subst hi;obtain ⟨p',c',w2,hr,o2,h2⟩:=appendK (P:=Tryz.prog) (t:=27) (ty:=27) (m:=1) (c:=1) (q:=some ⟨vb,0,none⟩) (news:=idCells x) w Tryz.underlying27 Tryz.infoId rfl (by omega) hown hv.rd0 (by rw [idCells_len]) (by simp) (idCells_one x) (by omega) (by omega) hbase;have hat:=appendK_at (P:=Tryz.prog) (t:=27) (ty:=27) (m:=1) (c:=1) (q:=some ⟨vb,0,none⟩) (news:=idCells x) w Tryz.underlying27 Tryz.infoId rfl (by omega) hown hv.rd0 (by rw [idCells_len]) (by simp) (idCells_one x) (by omega) (by omega) hr;have Hr:=Lib.hid hr
  have HE:Hid (OwnK w2 base 31 3 (.slice p' (i+1) c') (i+1) (YS.flatMap idCells)∧Only (blk p) w w2∧∀ z∈blk p',z∈blk p∨w.heap.size≤z):=Lib.hid ⟨by
   rw [← hYS,List.take_of_length_le (by omega),List.drop_eq_nil_of_le (by omega),List.flatMap_append,List.flatMap_cons,List.flatMap_nil,List.append_nil];exact o2,h2,fun z hz=>by
   rcases hat with rfl | ⟨g,rfl,hg⟩
   ·exact .inl hz
   ·simp [blk] at hz;subst hz;exact .inr hg⟩
  clear hr o2 h2 hat hown hv hvp hbase hYS
  go_enter Tryz.func95,Tryz.ntmps95
  go_wp2_with (first | (at_builtin;refine wpl_append (s:=.tmp 23) (x:=.tmp 24) rfl rfl rfl rfl Hr.out ?_))
  all_goals
   go_ret
   exact ⟨p',c',rfl,HE.out⟩
 ·have hlt:i < n:=(by omega);obtain ⟨g,rfl,hgb,hgl⟩:=hown.at (by omega);have hvw:=hown.view;have hold:Rd w (some ⟨g,0,none⟩) ((xs.take i).flatMap idCells):=rd_take idCells_len hvw.2.2.1 i
  have hsrc:∀ W:World,Only [] w W→∀ j v,((xs.drop i).flatMap idCells)[j]?=some v→W.cell? ((⟨g,i * 3,none⟩:Addr).add j)=some v:=fun W ho j v hj=>by
   rw [← flat_drop idCells 3 idCells_len,List.getElem?_drop] at hj;have:=(hvw.2.2.1.only0 ho).cells _ _ hj;rw [Addr.add_lit] at this ⊢;rw [Nat.zero_add] at this;exact this
  have hA:((xs.take i).flatMap idCells).length=i * 3:=(by rw [flat_length idCells 3 idCells_len,List.length_take];congr 1;omega);have hB:((xs.drop i).flatMap idCells).length=(n - i) * 3:=(by rw [flat_length idCells 3 idCells_len,List.length_drop,hl]);have hsz:(Tryz.prog.info? 31).map (·.size)=some 3:=(by kernel_rfl);have h1B:∀ v∈(xs.drop i).flatMap idCells,v.oneCell'=true:=fun v hv=>flat_one idCells idCells_one hv;have hxl:=idCells_len x;have hgv:g≠vb:=fun e1=>hvp (by simp [blk,e1]);have hi0:¬ ((i:Int)=(n:Int)):=(by omega);have hq0:((i:Int) == (n:Int))=false:=beq_eq_false_iff_ne.2 hi0
  have hw1:IntKind.i64.wrap ((n:Int)+1)=(n:Int)+1:=(by rw [IntKind.wrap_i64];omega);have hw2:IntKind.i64.wrap ((i:Int)+1)=(i:Int)+1:=(by rw [IntKind.wrap_i64];omega);have hini:(i:Int)≤(n:Int):=(by omega);have hvsrc:∀ W:World,Row W vb 31 (idCells x)→∀ j v,(idCells x)[j]?=some v→W.cell? ((⟨vb,0,none⟩:Addr).add j)=some v:=fun W r j v hj=>by rw [Addr.add_lit,Nat.zero_add];exact r.cell hj
  by_cases hroom:n+1≤c
  ·-- room: in place
   obtain ⟨rest,hrow,hlen,hnc,hcm,hgB,hA0⟩:=hown.row;obtain ⟨L,hL⟩:∃ L,L=xs.flatMap idCells ++ rest:=⟨_,rfl⟩;rw [← hL] at hrow hlen;have hAt:L.take (i * 3)=(xs.take i).flatMap idCells:=(by rw [hL,List.take_append_of_le_length (by rw [hA0];exact Nat.mul_le_mul_right _ hin),flat_take idCells 3 idCells_len]);have e1:(i+1) * 3=i * 3+3:=Nat.succ_mul i 3;have hnk:i * 3+3+(n - i) * 3=(n+1) * 3:=(by rw [← e1,← Nat.add_mul];congr 1;omega);have hcK:=Nat.mul_le_mul_right 3 hroom
   have hsrcL:∀ W:World,Row W g 31 L→∀ j v,((xs.drop i).flatMap idCells)[j]?=some v→W.cell? ((⟨g,i * 3,none⟩:Addr).add j)=some v:=fun W r j v hj=>by
    rw [Addr.add_lit];refine r.cell ?_;have hj1:=(List.getElem?_eq_some_iff.1 hj).1;have hik:=Nat.mul_le_mul_right 3 hin;have hdd:i * 3+(n - i) * 3=n * 3:=(by rw [← Nat.add_mul];congr 1;omega);rw [hL,List.getElem?_append_left (by rw [hA0];omega),← List.getElem?_drop,flat_drop idCells 3 idCells_len];exact hj
   have hcp1:=fun (W:World) (r:Row W g 31 L) (ty:TypeId) (dl dc sl sc:Nat) (hm:Nat.min sl dl=n - i)=>copyK (P:=Tryz.prog) (dT:=27) (sT:=27) (ty:=ty) W (dLen:=dl) (dCap:=dc) (sLen:=sl) (sCap:=sc) (m:=n - i) (o:=(i+1) * 3) (a:=⟨g,i * 3,none⟩) Tryz.underlying27 hsz r hm hB (hsrcL W r) (by rw [hB,hlen];omega) h1B;have hcp2:=fun (W:World) (r:Row W g 31 (L.take ((i+1) * 3) ++ (xs.drop i).flatMap idCells ++ L.drop ((i+1) * 3+((xs.drop i).flatMap idCells).length))) (rx:Row W vb 31 (idCells x)) (ty:TypeId) (dl dc:Nat) (hm:Nat.min 1 dl=1)=>copyK (P:=Tryz.prog) (dT:=27) (sT:=27) (ty:=ty) W (dLen:=dl) (dCap:=dc) (sLen:=1) (sCap:=1) (m:=1) (o:=i * 3) (a:=⟨vb,0,none⟩) Tryz.underlying27 hsz r hm (by rw [hxl]) (hvsrc W rx) (by rw [hxl];simp only [List.length_append,List.length_take,List.length_drop];omega) (idCells_one x)
   have hfin:=insL2 hA hxl hB (R:=L) (by rw [hlen];omega) hAt
   have hov:∀ lb cb,(callFunc 130 #[.slice (some ⟨vb,0,none⟩) 1 1,.slice (some ⟨g,(i+1) * 3,none⟩) lb cb]).run Tryz.prog w=.ok (.value (.bool false)) w:=fun lb cb=>by
    rw [run_callFunc_extern Tryz.func130 (by kernel_rfl) (by kernel_rfl) (by kernel_rfl) (e:=Extern.SlicesOverlaps.overlaps #[27,27] #[4]) (by kernel_rfl),
     Lib.run_overlaps_apart w 27 4 31 Tryz.underlying27 3 (fun w=>by unfold sizeOf typeInfo;obtain ⟨ii,hii,-,hs2,-⟩:=info_partsK Tryz.infoId;simp [hii,hs2]) ⟨vb,0,none⟩ ⟨g,(i+1) * 3,none⟩ 1 1 lb cb (fun e'=>hgv e'.symm) 31 31 _ _ (shape_row hv) (shape_row hrow) (by rw [List.size_toArray,hlen];omega) (hv.free 0) (hv.free _)]
    rfl
   have Hcp1:=Lib.hid hcp1;have Hcp2:=Lib.hid hcp2;have HF:Hid (base≤g∧n+1≤c∧c≤9223372036854775807∧L.length=c * 3∧xs.length=n∧i * 3+3+(n - i) * 3=(n+1) * 3∧(n+1) * 3≤c * 3∧((xs.drop i).flatMap idCells).length=(n - i) * 3∧((xs.take i).flatMap idCells).length=i * 3):=Lib.hid ⟨hgB,hroom,hcm,hlen,hl,hnk,hcK,hB,hA⟩;have Hfin:=Lib.hid hfin;have HYS:=Lib.hid hYS;have Hr0:=Lib.hid hrow;have Hv0:=Lib.hid hv;have Hgv:=Lib.hid hgv;have hroomI:(n:Int)+1≤(c:Int):=(by omega);have hroomJ:¬ (c:Int) < (n:Int)+1:=by omega
   have htn:((i:Int)+1).toNat=i+1:=(by omega);have htn2:((n:Int)+1).toNat=n+1:=(by omega);have hc1:¬ c=i+1:=(by omega);have hc0:¬ c=i:=(by omega);have hi01:(0:Int)≤(i:Int)+1:=(by omega);have hin1:(i:Int)+1≤(n:Int)+1:=(by omega);have hin2:(i:Int)≤(n:Int)+1:=(by omega);have hn01:(0:Int)≤(n:Int)+1:=(by omega);clear hYS hcp1 hcp2 hfin hL hAt hA0 hgB hcm hlen hnk hcK hrow hsrcL hold hsrc hA hB hown hv hvsrc h1B hsz hxl e1 hvp hgv hvw
   go_enter Tryz.func95,Tryz.ntmps95
   go_upto_region 15 with (simp only [hov])
   clear hov;have hRr:∀ x,(Only [g]) x x:=fun x=>Only.refl _ _;have hRt:∀ x b e,(Only [g]) x b→(Only [g]) b e→(Only [g]) x e:=fun _ _ _ h k=>h.trans k (fun _ h _=>h);have hRd:(Only [g]) w w.drew:=(Only.drew _).mono (by simp)
   have hRs:∀ j w,DirtR [(8,Only [g])] j w w:=DirtR.refl (by
    intro x hx w;simp only [List.mem_cons,List.not_mem_nil,or_false] at hx
    rcases hx with rfl
    exact Only.refl _ _)
   have hC0:∀ d∈[8],(fun (_:Nat) (a:World)=>Row a g 31 L) d w.drew:=fun _ _=>Hr0.out.only0 (Only.drew _);refine wp_region_rg7 (Only [g]) (DirtR [(8,Only [g])]) (fun (_:Nat) (a:World)=>Row a g 31 L) [8] [[(0,none)],[(1,none)],[(7,none)],[(70,some 1),(71,some 0)],[(69,some 3),(72,some 0)],[(0,none)],[(1,none)],[(74,some 1),(75,some 0)],[(73,some 3),(76,some 0)]] [] [0] [none,none,none,none,none,none,none,none,none,none,none,none,none,none,none,none,none,none,none,none,none,none,none,none,none,none,none,none,none,none,none,none,none,none,none,none,none,none,none,none,none,none,none,none,none,none,none,none,none,none,none,none,none,none,none,none,none,none,none,none,none,none,none,none,none,none,none,none,none,some 69,some 70,some 71,some 72,some 73,some 74,some 75,some 76,some 77,none,none,none,none,none,none,none,none,none,none,none,none,none,none,none,none,none] (by kernel_rfl) rfl (by kernel_rfl) hRr hRt hRs hRd hC0 (by kernel_rfl) (by kernel_rfl) ?_
   apply rg7_ev
   ·rintro a w hR hC ⟨(e0:_=_),-⟩;refine rg_plain rfl fun K hK=>?_;go_simp;exact hK _ _ rfl ⟨hRr _,hRs _ _,fun _ _ _ _ h=>h⟩
   apply rg7_ev
   ·rintro a w hR hC ⟨(e1:_=_),-⟩;refine rg_plain rfl fun K hK=>?_;go_simp;exact hK _ _ rfl ⟨hRr _,hRs _ _,fun _ _ _ _ h=>h⟩
   apply rg7_ev
   ·rintro a w hR hC ⟨(e7:_=_),-⟩;refine rg_plain rfl fun K hK=>?_;go_simp;exact hK _ _ rfl ⟨hRr _,hRs _ _,fun _ _ _ _ h=>h⟩
   apply rg7_ev
   ·rintro a w hR hC ⟨(e70:_=_),(e71:_=_),-⟩;refine rg_plain rfl fun K hK=>?_;go_simp;exact hK _ _ rfl ⟨hRr _,hRs _ _,fun _ _ _ _ h=>h⟩
   apply rg7_ev
   ·rintro a w hR hC ⟨(e69:_=_),(e72:_=_),-⟩;refine rg_plain rfl fun K hK=>?_;go_simp;exact hK _ _ rfl ⟨hRr _,hRs _ _,fun _ _ _ _ h=>h⟩
   apply rg7_ev
   ·rintro a w hR hC ⟨(e0:_=_),-⟩;refine rg_plain rfl fun K hK=>?_;go_simp;exact hK _ _ rfl ⟨hRr _,hRs _ _,fun _ _ _ _ h=>h⟩
   apply rg7_ev
   ·rintro a w hR hC ⟨(e1:_=_),-⟩;refine rg_plain rfl fun K hK=>?_;go_simp;exact hK _ _ rfl ⟨hRr _,hRs _ _,fun _ _ _ _ h=>h⟩
   apply rg7_ev
   ·rintro a w hR hC ⟨(e74:_=_),(e75:_=_),-⟩;refine rg_plain rfl fun K hK=>?_;go_simp;exact hK _ _ rfl ⟨hRr _,hRs _ _,fun _ _ _ _ h=>h⟩
   refine ⟨RowS g 31 (L.take ((i+1) * 3) ++ (xs.drop i).flatMap idCells ++ L.drop ((i+1) * 3+((xs.drop i).flatMap idCells).length)),stands5_of RowS.stable (by intro x hx hk;simp only [List.mem_cons,List.not_mem_nil,or_false] at hx;rcases hx with rfl;exact Bool.noConfusion (hk.symm.trans (by kernel_rfl:_=true))),fun a w hR hC hf=>?_,?_⟩
   ·obtain ⟨e73,e76,-⟩:=hf;replace e73:a.tmps.getD 73 undef=_:=e73;replace e76:a.tmps.getD 76 undef=_:=e76;refine rg_plain rfl fun K hK=>?_;have rz:Row w g 31 L:=hC 8 (by simp) (by kernel_rfl);have hst:=Only.setRow w g ((L.take ((i+1) * 3) ++ (xs.drop i).flatMap idCells ++ L.drop ((i+1) * 3+((xs.drop i).flatMap idCells).length))).toArray;refine rg_copy (s:=.tmp 73) (x:=.tmp 76) rfl e73 e76 (Hcp1.out w rz _ _ _ _ _ (by simp only [Nat.min_def];split <;> omega)) ?_;exact hK _ _ (rz.setRow _) ⟨hst,hst,fun i hi hne ha hc=>absurd hi (by simp;omega)⟩
   intro f15 w15 hR15 hf hl15;dsimp only [mergeT];obtain ⟨l8,-⟩:=hl15;replace l8:∃ v,(RowS g 31 (L.take ((i+1) * 3) ++ (xs.drop i).flatMap idCells ++ L.drop ((i+1) * 3+((xs.drop i).flatMap idCells).length))) v w15:=l8;have r1:Row w15 g 31 (L.take ((i+1) * 3) ++ (xs.drop i).flatMap idCells ++ L.drop ((i+1) * 3+((xs.drop i).flatMap idCells).length)):=(by obtain ⟨v,h⟩:=l8;exact h);have rx:=Hv0.out.only hR15 (by simpa using fun e=>Hgv.out e.symm);obtain ⟨h1,h2,h3,h4,h5,h6,h7,h8,h9⟩:=HF.out;obtain ⟨w4,hw4⟩:∃ w4,w4=w15.setRow g ((L.take ((i+1) * 3) ++ (xs.drop i).flatMap idCells ++ L.drop ((i+1) * 3+((xs.drop i).flatMap idCells).length)).take (i * 3) ++ idCells x ++ (L.take ((i+1) * 3) ++ (xs.drop i).flatMap idCells ++ L.drop ((i+1) * 3+((xs.drop i).flatMap idCells).length)).drop (i * 3+(idCells x).length)).toArray:=⟨_,rfl⟩
   have H2:=fun ty dl dc hm=>Hcp2.out w15 r1 rx ty dl dc hm;have o4:Only [g] w15 w4:=(by rw [hw4];exact Only.setRow _ _ _);have r4:=r1.setRow ((L.take ((i+1) * 3) ++ (xs.drop i).flatMap idCells ++ L.drop ((i+1) * 3+((xs.drop i).flatMap idCells).length)).take (i * 3) ++ idCells x ++ (L.take ((i+1) * 3) ++ (xs.drop i).flatMap idCells ++ L.drop ((i+1) * 3+((xs.drop i).flatMap idCells).length)).drop (i * 3+(idCells x).length));rw [← hw4] at r4 H2;have hxl:=idCells_len x;have e1:(i+1) * 3=i * 3+3:=Nat.succ_mul i 3;rw [e1,hxl,h8,Hfin.out] at r4
   have hE:OwnK w4 base 31 3 (.slice (some ⟨g,0,none⟩) (n+1) c) (n+1) (YS.flatMap idCells):=OwnK.ofRow r4 h1 h2 h3 (by rw [List.length_append,List.length_append,List.length_append,List.length_drop,h9,h8,hxl,h4];omega) (by
    have hlen:((xs.take i).flatMap idCells ++ idCells x ++ (xs.drop i).flatMap idCells).length=(n+1) * 3:=by rw [List.length_append,List.length_append,h9,h8,hxl];omega
    rw [← HYS.out,List.take_left' hlen,List.flatMap_append,List.flatMap_cons,List.append_assoc])
   have HE:Hid (OwnK w4 base 31 3 (.slice (some ⟨g,0,none⟩) (n+1) c) (n+1) (YS.flatMap idCells)∧Only (blk (some (⟨g,0,none⟩:Addr))) w w4∧∀ z∈blk (some (⟨g,0,none⟩:Addr)),z∈blk (some (⟨g,0,none⟩:Addr))∨w.heap.size≤z):=Lib.hid ⟨hE,hR15.trans o4 (fun _ h _=>h),fun z hz=>.inl hz⟩;have H2h:=Lib.hid H2;clear r1 rx h1 h2 h3 h4 h5 h6 h7 h8 h9 H2 o4 r4 hxl e1 hE HF Hfin HYS Hcp1 Hcp2 Hr0 Hv0 Hgv hRr hRt hRd hRs hC0 l8 hw4
   go_upto_region 17 with (fail)
   rw [H2h.out _ _ _ (by simp only [Nat.min_def];split <;> omega)];go_wp2_with fail
   go_ret
   exact ⟨some ⟨g,0,none⟩,c,rfl,HE.out⟩
  ·-- a new block
   have hk:i+(n+1 - i)=n+1:=(by omega);obtain ⟨g2,c2,w2,rest,hr,r2,hrl,hc2,hcm,hg2,o2⟩:=growZ (P:=Tryz.prog) (tn:=3) (kn:=.i64) (kq:=.i64) (ty:=27) (cap:=c) (k:=n+1 - i) w Tryz.underlying27 Tryz.underlying3 Tryz.infoId rfl (by omega) hold hA (by omega) (by omega) (by omega) (by omega);rw [hk] at hr hc2;have hRl:((xs.take i).flatMap idCells ++ rest).length=c2 * 3:=(by rw [List.length_append,hA];omega);have hcp1:=fun ty dc=>copyK (P:=Tryz.prog) (sT:=27) (ty:=ty) w2 (dLen:=n+1 - i) (dCap:=dc) (sLen:=1) (sCap:=1) (m:=1) (o:=i * 3) (a:=⟨vb,0,none⟩) Tryz.underlying27 hsz r2 (by simp only [Nat.min_def];split <;> omega) (by rw [hxl]) (hvsrc w2 (hv.only0 o2)) (by rw [hxl,hRl];have:=Nat.mul_le_mul_right 3 hc2;omega) (idCells_one x)
   obtain ⟨w3,hw3⟩:∃ w3,w3=w2.setRow g2 (((xs.take i).flatMap idCells ++ rest).take (i * 3) ++ idCells x ++ ((xs.take i).flatMap idCells ++ rest).drop (i * 3+(idCells x).length)).toArray:=⟨_,rfl⟩;have r3:=r2.setRow (((xs.take i).flatMap idCells ++ rest).take (i * 3) ++ idCells x ++ ((xs.take i).flatMap idCells ++ rest).drop (i * 3+(idCells x).length));have o3:Only [g2] w2 w3:=(by rw [hw3];exact Only.setRow _ _ _);rw [← hw3] at r3 hcp1;rw [hxl] at r3;have o13:Only [] w w3:=o2.transN o3 (by simpa using hg2);have e1:(i+1) * 3=i * 3+3:=Nat.succ_mul i 3;have hnk:(n - i) * 3+(i+1) * 3=(n+1) * 3:=by rw [← Nat.add_mul];congr 1;omega
   have hc2K:=Nat.mul_le_mul_right 3 hc2
   have hl3:(((xs.take i).flatMap idCells ++ rest).take (i * 3) ++ idCells x ++ ((xs.take i).flatMap idCells ++ rest).drop (i * 3+3)).length=c2 * 3:=by
    rw [List.length_append,List.length_append,List.length_take,List.length_drop,hRl,hxl];omega
   obtain ⟨L3,hL3⟩:∃ L3,L3=((xs.take i).flatMap idCells ++ rest).take (i * 3) ++ idCells x ++ ((xs.take i).flatMap idCells ++ rest).drop (i * 3+3):=⟨_,rfl⟩;rw [← hL3] at r3 hl3
   have hcp2:=fun (W:World) (ho:Only [g2] w3 W) (r:Row W g2 31 L3) (ty:TypeId) (dl dc sl sc:Nat) (hm:Nat.min sl dl=n - i)=>copyK (P:=Tryz.prog) (dT:=27) (sT:=27) (ty:=ty) W (dLen:=dl) (dCap:=dc) (sLen:=sl) (sCap:=sc) (m:=n - i) (o:=(i+1) * 3) (a:=⟨g,i * 3,none⟩) Tryz.underlying27 hsz r hm hB (fun j v hj=>by
    have h:=hsrc w3 o13 j v hj;rw [Addr.add_lit] at h ⊢
    exact ho.cell h (by simp;omega)) (by rw [hB,hl3];omega) h1B
   have hfin:=insL hA hxl hB (R:=(xs.take i).flatMap idCells ++ rest) (by rw [hRl];omega) (List.take_left' hA);rw [← hL3] at hfin;have HF:Hid (base≤g2∧n+1≤c2∧c2≤9223372036854775807∧((xs.take i).flatMap idCells ++ rest).length=c2 * 3∧(n - i) * 3+(i+1) * 3=(n+1) * 3∧(n+1) * 3≤c2 * 3∧((xs.drop i).flatMap idCells).length=(n - i) * 3∧((xs.take i).flatMap idCells).length=i * 3∧w.heap.size≤g2):=Lib.hid ⟨by omega,hc2,hcm,hRl,hnk,hc2K,hB,hA,hg2⟩;have Hfin:=Lib.hid hfin;have HYS:=Lib.hid hYS;have HO13:=Lib.hid o13;have HR3:=Lib.hid r3
   have Hcp2:=Lib.hid hcp2;have Hr:=Lib.hid hr;have H1:=Lib.hid (hcp1 3);have hroomI:¬ ((n:Int)+1≤(c:Int)):=(by omega);have hroomJ:(c:Int) < (n:Int)+1:=(by omega);have hkz:IntKind.i64.wrap ((n:Int)+1 - (i:Int))=((n+1 - i:Nat):Int):=(by rw [IntKind.wrap_i64];omega);have hkz2:wrap64 ((n:Int)+1 - (i:Int))=((n+1 - i:Nat):Int):=(by rw [IntWalk.wrap64_in _ (by omega)];omega);have htn:((i:Int)+1).toNat=i+1:=(by omega);have hcb:¬ c2=i:=(by omega);have hcb1:¬ c2=i+1:=(by omega);have hcbi:¬ c=i:=by have:=hvw.2.2.2.2.1;omega
   have hic2:(i:Int)≤(c2:Int):=(by omega);have hi01:(0:Int)≤(i:Int)+1:=(by omega);have hin1:(i:Int)+1≤(n:Int)+1:=(by omega);have hci:(i:Int)≤(c:Int):=(by have:=hvw.2.2.2.2.1;omega);clear hYS hr hcp1 hcp2 hfin hL3 r2 r3 o2 o3 o13 hw3 hvw hold hsrc hA hB hRl hl3 hown hv hvsrc h1B hsz hxl hc2K hnk e1 hrl hvp
   go_enter Tryz.func95,Tryz.ntmps95
   go_upto_region 11 with (at_builtin;refine wpl_append (s:=.tmp 34) (x:=.tmp 39) rfl rfl rfl rfl Hr.out ?_)
   have h1:=H1.out (c2 - i);rw [h1];clear h1
   go_upto_region 11 with (fail)
   have hRr:∀ x,(Only [g2]) x x:=fun x=>Only.refl _ _;have hRt:∀ x b e,(Only [g2]) x b→(Only [g2]) b e→(Only [g2]) x e:=fun _ _ _ h k=>h.trans k (fun _ h _=>h);have hRd:(Only [g2]) w3 w3.drew:=(Only.drew _).mono (by simp)
   have hRs:∀ j w,DirtR [(8,Only [g2])] j w w:=DirtR.refl (by
    intro x hx w;simp only [List.mem_cons,List.not_mem_nil,or_false] at hx
    rcases hx with rfl
    exact Only.refl _ _)
   have hC0:∀ d∈[8],(fun (_:Nat) (a:World)=>Row a g2 31 L3) d w3.drew:=fun _ _=>HR3.out.only0 (Only.drew _);refine wp_region_rg7 (Only [g2]) (DirtR [(8,Only [g2])]) (fun (_:Nat) (a:World)=>Row a g2 31 L3) [8] [[(9,none)],[(1,none)],[(7,none)],[(47,some 1),(48,some 0)],[(46,some 3),(49,some 0)],[(0,none)],[(1,none)],[(51,some 1),(52,some 0)],[(50,some 3),(53,some 0)]] [] [0] [none,none,none,none,none,none,none,none,none,none,none,none,none,none,none,none,none,none,none,none,none,none,none,none,none,none,none,none,none,none,none,none,none,none,none,none,none,none,none,none,none,none,none,none,none,none,some 46,some 47,some 48,some 49,some 50,some 51,some 52,some 53,some 54,none,none,none,none,none,none,none,none,none,none,none,none,none,none,none,none,none,none,none,none,none,none,none,none,none,none,none,none,none,none,none,none,none,none,none,none,none,none,none,none] (by kernel_rfl) rfl (by kernel_rfl) hRr hRt hRs hRd hC0 (by kernel_rfl) (by kernel_rfl) ?_
   apply rg7_ev
   ·rintro a w hR hC ⟨(e9:_=_),-⟩;refine rg_plain rfl fun K hK=>?_;go_simp;exact hK _ _ rfl ⟨hRr _,hRs _ _,fun _ _ _ _ h=>h⟩
   apply rg7_ev
   ·rintro a w hR hC ⟨(e1:_=_),-⟩;refine rg_plain rfl fun K hK=>?_;go_simp;exact hK _ _ rfl ⟨hRr _,hRs _ _,fun _ _ _ _ h=>h⟩
   apply rg7_ev
   ·rintro a w hR hC ⟨(e7:_=_),-⟩;refine rg_plain rfl fun K hK=>?_;go_simp;exact hK _ _ rfl ⟨hRr _,hRs _ _,fun _ _ _ _ h=>h⟩
   apply rg7_ev
   ·rintro a w hR hC ⟨(e47:_=_),(e48:_=_),-⟩;refine rg_plain rfl fun K hK=>?_;go_simp;exact hK _ _ rfl ⟨hRr _,hRs _ _,fun _ _ _ _ h=>h⟩
   apply rg7_ev
   ·rintro a w hR hC ⟨(e46:_=_),(e49:_=_),-⟩;refine rg_plain rfl fun K hK=>?_;go_simp;exact hK _ _ rfl ⟨hRr _,hRs _ _,fun _ _ _ _ h=>h⟩
   apply rg7_ev
   ·rintro a w hR hC ⟨(e0:_=_),-⟩;refine rg_plain rfl fun K hK=>?_;go_simp;exact hK _ _ rfl ⟨hRr _,hRs _ _,fun _ _ _ _ h=>h⟩
   apply rg7_ev
   ·rintro a w hR hC ⟨(e1:_=_),-⟩;refine rg_plain rfl fun K hK=>?_;go_simp;exact hK _ _ rfl ⟨hRr _,hRs _ _,fun _ _ _ _ h=>h⟩
   apply rg7_ev
   ·rintro a w hR hC ⟨(e51:_=_),(e52:_=_),-⟩;refine rg_plain rfl fun K hK=>?_;go_simp;exact hK _ _ rfl ⟨hRr _,hRs _ _,fun _ _ _ _ h=>h⟩
   refine ⟨RowS g2 31 (L3.take ((i+1) * 3) ++ (xs.drop i).flatMap idCells ++ L3.drop ((i+1) * 3+((xs.drop i).flatMap idCells).length)),stands5_of RowS.stable (by intro x hx hk;simp only [List.mem_cons,List.not_mem_nil,or_false] at hx;rcases hx with rfl;exact Bool.noConfusion (hk.symm.trans (by kernel_rfl:_=true))),fun a w hR hC hf=>?_,?_⟩
   ·obtain ⟨e50,e53,-⟩:=hf;replace e50:a.tmps.getD 50 undef=_:=e50;replace e53:a.tmps.getD 53 undef=_:=e53;refine rg_plain rfl fun K hK=>?_;have rz:Row w g2 31 L3:=hC 8 (by simp) (by kernel_rfl);have hst:=Only.setRow w g2 ((L3.take ((i+1) * 3) ++ (xs.drop i).flatMap idCells ++ L3.drop ((i+1) * 3+((xs.drop i).flatMap idCells).length))).toArray;refine rg_copy (s:=.tmp 50) (x:=.tmp 53) rfl e50 e53 (Hcp2.out w hR rz _ _ _ _ _ (by simp only [Nat.min_def];split <;> omega)) ?_;exact hK _ _ (rz.setRow _) ⟨hst,hst,fun i hi hne ha hc=>absurd hi (by simp;omega)⟩
   intro f11 w11 hR11 hf hl11;dsimp only [mergeT];obtain ⟨l8,-⟩:=hl11;replace l8:∃ v,(RowS g2 31 (L3.take ((i+1) * 3) ++ (xs.drop i).flatMap idCells ++ L3.drop ((i+1) * 3+((xs.drop i).flatMap idCells).length))) v w11:=l8;have r4:Row w11 g2 31 (L3.take ((i+1) * 3) ++ (xs.drop i).flatMap idCells ++ L3.drop ((i+1) * 3+((xs.drop i).flatMap idCells).length)):=(by obtain ⟨v,h⟩:=l8;exact h);obtain ⟨h1,h2,h3,h4,h5,h6,h7,h8,h9⟩:=HF.out;have hxl:=idCells_len x;have e1:(i+1) * 3=i * 3+3:=Nat.succ_mul i 3;rw [e1,h7,Hfin.out] at r4
   have hE:OwnK w11 base 31 3 (.slice (some ⟨g2,0,none⟩) (n+1) c2) (n+1) (YS.flatMap idCells):=OwnK.ofRow r4 h1 h2 h3 (by rw [List.length_append,List.length_append,List.length_append,List.length_drop,h8,h7,hxl,h4];omega) (by
    have hlen:((xs.take i).flatMap idCells ++ idCells x ++ (xs.drop i).flatMap idCells).length=(n+1) * 3:=by rw [List.length_append,List.length_append,h8,h7,hxl];omega
    rw [← HYS.out,List.take_left' hlen,List.flatMap_append,List.flatMap_cons,List.append_assoc])
   have HE:Hid (OwnK w11 base 31 3 (.slice (some ⟨g2,0,none⟩) (n+1) c2) (n+1) (YS.flatMap idCells)∧Only (blk (some (⟨g,0,none⟩:Addr))) w w11∧∀ z∈blk (some (⟨g2,0,none⟩:Addr)),z∈blk (some (⟨g,0,none⟩:Addr))∨w.heap.size≤z):=Lib.hid ⟨hE,((HO13.out.transN hR11 (by simpa using h9))).mono (by simp),fun z hz=>.inr (by simp [blk] at hz;omega)⟩;clear r4 h1 h2 h3 h4 h5 h6 h7 h8 h9 hxl e1 hE HF Hfin HYS HO13 HR3 Hcp2 hRr hRt hRd hRs hC0 l8;go_wp2_with fail
   go_ret
   exact ⟨some ⟨g2,0,none⟩,c2,rfl,HE.out⟩
end
section
open Go.RowKit
set_option maxHeartbeats 8000000 in
theorem setId_any (p:Option Addr) (n c:Nat) (xs:List Cid) (k:Int) (x:Cid) (base:Nat) (w0:World) (hn:xs.length=n) (hb:n≤100000) (hown:OwnK w0 base 31 3 (.slice p n c) n (xs.flatMap idCells)) (hbase:base≤w0.heap.size) (hs:SortB Cid.node ltZ xs) :
  Calls Tryz.prog 53 #[.slice p n c,.int .i64 k,.func (.func 51) #[] #[],idV x] w0 fun e' w'=>∃ p' c',e'=.returned (.slice p' (putL Cid.node ltZ xs k x).length c')∧OwnK w' base 31 3 (.slice p' (putL Cid.node ltZ xs k x).length c') (putL Cid.node ltZ xs k x).length ((putL Cid.node ltZ xs k x).flatMap idCells)∧Only (blk p) w0 w'∧∀ z∈blk p',z∈blk p∨w0.heap.size≤z:=by
 generalize hYS:putL Cid.node ltZ xs k x=YS;obtain ⟨i,hi⟩:∃ i,posL Cid.node ltZ xs k=i:=⟨_,rfl⟩;obtain ⟨b,hbt⟩:∃ b,thereL Cid.node ltZ xs k=b:=⟨_,rfl⟩;have hile:i≤n:=(by rw [← hi,← hn];exact posL_le _ _);obtain ⟨wb,hwb⟩:∃ wb,wb=w0.alloc (.cells #[.int .i64 x.node,.int .i64 x.boot,.int .i64 x.seq] 31):=⟨_,rfl⟩;have owb:Only [] w0 wb:=(by rw [hwb];exact Only.alloc _ _);have rb:Row wb w0.heap.size 31 [.int .i64 x.node,.int .i64 x.boot,.int .i64 x.seq]:=(by rw [hwb];exact Row.newOf _ _ _ _ rfl);have hbs:=bsfId_any p n c xs k wb hn (by omega) (fun h=>(hown.view.2.2.2.1 h).1) (hown.view.2.2.1.only0 owb) hs
 rw [hi,hbt] at hbs;have Hw:=Lib.hid hwb;have Ho:=Lib.hid owb;have Hrb:=Lib.hid rb;have Hb:=Lib.hid hbs;have hile2:(i:Int)≤(n:Int):=by omega
 cases b with
 | true =>
  have hput:YS=xs.set i x:=(by rw [← hYS];unfold putL;rw [hbt,if_pos rfl,hi]);obtain ⟨y,hy,-⟩:=there_at hbt;rw [hi] at hy;have hin:i < n:=(by have:=(List.getElem?_eq_some_iff.1 hy).1;omega);have hini:(i:Int) < (n:Int):=(by omega);obtain ⟨g,-,rfl,-,-⟩:=hown.rowOf (by omega);obtain ⟨rest,hrow,hlen,hnc,hcm,hgb,-⟩:=hown.row;have hYl:YS.length=n:=(by rw [hput,List.length_set,hn]);rw [hYl];have Hrow:=Lib.hid hrow;have HF:Hid (YS=xs.set i x∧xs[i]?=some y∧xs.length=n∧base≤g∧n≤c∧c≤9223372036854775807∧(xs.flatMap idCells ++ rest).length=c * 3):=Lib.hid ⟨hput,hy,hn,hgb,hnc,hcm,hlen⟩
  clear hYS hi hbt hwb owb rb hbs hput hy hown hrow hlen hnc hcm hgb hYl hn hs;unfold idV
  go_enter Tryz.func53,Tryz.ntmps53
  go_wp2_with fail;rw [← Hw.out];refine Hb.out.mono ?_;rintro e1 w1 ⟨rfl,o1⟩;have o01:Only [] w0 w1:=Ho.out.trans0 o1;have r1:=Hrow.out.only0 o01;have rx:=Hrb.out.only0 o1;obtain ⟨h1,hy,hn,hgb,hnc,hcm,hlen⟩:=HF.out;have hra:=flat_recAt (rest:=rest) idCells_len hy;have x0:=hra.cell r1 (r:=0) rfl;have x1:=hra.cell r1 (r:=1) rfl;have x2:=hra.cell r1 (r:=2) rfl;rw [Nat.add_zero] at x0;have y0:=r1.free (i * 3);have y1:=r1.free (i * 3+1);have y2:=r1.free (i * 3+2);have a0:=rx.cell (i:=0) rfl;have a1:=rx.cell (i:=1) rfl;have a2:=rx.cell (i:=2) rfl
  obtain ⟨wz,hwz⟩:∃ wz,wz=(((w1.setCell ⟨g,i * 3,none⟩ (.int .i64 x.node)).setCell ⟨g,i * 3+1,none⟩ (.int .i64 x.boot)).setCell ⟨g,i * 3+2,none⟩ (.int .i64 x.seq)):=⟨_,rfl⟩;have ozz:Only [g] w1 wz:=(by rw [hwz];exact (((Only.setCell _ ⟨g,i * 3,none⟩ _).trans (Only.setCell _ ⟨g,i * 3+1,none⟩ _) (fun _ h _=>h)).trans (Only.setCell _ ⟨g,i * 3+2,none⟩ _) (fun _ h _=>h)));have hra2:=(((hra.set (i:=0) (.int .i64 x.node) (by simp only [List.length_set,idCells_len];omega)).set (i:=1) (.int .i64 x.boot) (by simp only [List.length_set,idCells_len];omega)).set (i:=2) (.int .i64 x.seq) (by simp only [List.length_set,idCells_len];omega))
  have hrz:=(((r1.setCell (i * 3) (.int .i64 x.node)).setCell (i * 3+1) (.int .i64 x.boot)).setCell (i * 3+2) (.int .i64 x.seq));rw [← hwz] at hrz;have hE:=OwnK.setRec (y:=x) (by omega) idCells_len hgb hn hin hnc hcm hlen hrz (((Outside.set (i * 3) 3 _ (i:=i * 3) (.int .i64 x.node) (by omega) (by omega)).trans (Outside.set (i * 3) 3 _ (i:=i * 3+1) (.int .i64 x.boot) (by omega) (by omega))).trans (Outside.set (i * 3) 3 _ (i:=i * 3+2) (.int .i64 x.seq) (by omega) (by omega))) hra2;rw [← h1] at hE;have HE:Hid (OwnK wz base 31 3 (.slice (some ⟨g,0,none⟩) n c) n (YS.flatMap idCells)∧Only (blk (some (⟨g,0,none⟩:Addr))) w0 wz):=Lib.hid ⟨hE,(o01.mono (fun _ h=>by cases h)).trans ozz (fun _ h _=>h)⟩
  have Hz:=Lib.hid hwz;clear hwz ozz hra hra2 hrz hE r1 rx o1 o01 h1 hy hn hgb hnc hcm hlen HF Hrow Hrb Hb;go_wp2_with fail;rw [← Hz.out]
  go_ret
  exact ⟨_,_,rfl,HE.out.1,HE.out.2,fun z hz=>.inl hz⟩
 | false =>
  have hput:YS=xs.take i ++ x :: xs.drop i:=(by rw [← hYS];unfold putL;rw [hbt,if_neg (by simp),hi]);have hYl:YS.length=n+1:=(by rw [hput];simp;omega);rw [hYl];have HF:Hid (YS=xs.take i ++ x :: xs.drop i∧xs.length=n∧OwnK w0 base 31 3 (.slice p n c) n (xs.flatMap idCells)):=Lib.hid ⟨hput,hn,hown⟩;clear hYS hi hbt hwb owb rb hbs hput hown hYl hn hs;unfold idV
  go_enter Tryz.func53,Tryz.ntmps53
  go_wp2_with fail;rw [← Hw.out];refine Hb.out.mono ?_;rintro e1 w1 ⟨rfl,o1⟩;have o01:Only [] w0 w1:=Ho.out.trans0 o1;have rx:=Hrb.out.only0 o1;obtain ⟨h1,hn,hown⟩:=HF.out;obtain ⟨wv,hwv⟩:∃ wv,wv=w1.alloc (.cells #[.int .i64 x.node,.int .i64 x.boot,.int .i64 x.seq] 31):=⟨_,rfl⟩;have ov:Only [] w1 wv:=(by rw [hwv];exact Only.alloc _ _);have rv:Row wv w1.heap.size 31 (idCells x):=(by rw [hwv];exact Row.newOf _ _ _ _ rfl);have hlo:=hown.view.2.2.2.2.2.2;have hsz:=o01.size;have hins:=insId_any p n c xs x i w1.heap.size base wv (hown.only0 (o01.trans0 ov)) (by have:=ov.size;omega) hn hile (by omega) rv (fun hm=>by have:=(hlo _ hm).2;omega)
  rw [← h1] at hins;have Hi:=Lib.hid hins;have Hv:=Lib.hid hwv;have Hov:Hid (Only [] w0 wv):=Lib.hid (o01.trans0 ov);have a0:=rx.cell (i:=0) rfl;have a1:=rx.cell (i:=1) rfl;have a2:=rx.cell (i:=2) rfl;clear hins hwv ov rv hlo rx o1 h1 hn hown HF Hrb Hb;go_wp2_with fail;rw [← Hv.out];refine Hi.out.mono ?_;rintro e2 w2 ⟨p',c',rfl,h1,h2,h3⟩;have HE:Hid (OwnK w2 base 31 3 (.slice p' (n+1) c') (n+1) (YS.flatMap idCells)∧Only (blk p) w0 w2∧∀ z∈blk p',z∈blk p∨w0.heap.size≤z):=Lib.hid ⟨h1,(Hov.out.mono (fun _ h=>by cases h)).trans h2 (fun _ h _=>h),fun z hz=>(h3 z hz).imp id (fun h=>by have:=Hov.out.size;omega)⟩
  clear h1 h2 h3 Hi Hv Hov;go_wp2_with fail
  go_ret
  exact ⟨_,_,rfl,HE.out⟩
end
section
open Go.RowKit
set_option maxHeartbeats 8000000 in
theorem insOb_any (p:Option Addr) (n c:Nat) (xs:List LObj) (x:LObj) (i vb base:Nat) (w:World) (hown:OwnK w base 48 5 (.slice p n c) n (xs.flatMap loCells)) (hbase:base≤w.heap.size) (hl:xs.length=n) (hin:i≤n) (hnb:n≤1000000) (hv:Row w vb 48 (loCells x)) (hvp:vb ∉ blk p) :
  Calls Tryz.prog 148 #[.slice p n c,.int .i64 (i:Int),.slice (some ⟨vb,0,none⟩) 1 1] w fun e' w'=>∃ p' c',e'=.returned (.slice p' (n+1) c')∧OwnK w' base 48 5 (.slice p' (n+1) c') (n+1) ((xs.take i ++ x :: xs.drop i).flatMap loCells)∧Only (blk p) w w'∧∀ z∈blk p',z∈blk p∨w.heap.size≤z:=by
 generalize hYS:xs.take i ++ x :: xs.drop i=YS
 by_cases hi:i=n
 ·subst hi;obtain ⟨p',c',w2,hr,o2,h2⟩:=appendK (P:=Tryz.prog) (t:=57) (ty:=57) (m:=1) (c:=1) (q:=some ⟨vb,0,none⟩) (news:=loCells x) w Tryz.underlying57 Tryz.infoLO rfl (by omega) hown hv.rd0 (by rw [loCells_len]) (by simp) (loCells_one x) (by omega) (by omega) hbase;have hat:=appendK_at (P:=Tryz.prog) (t:=57) (ty:=57) (m:=1) (c:=1) (q:=some ⟨vb,0,none⟩) (news:=loCells x) w Tryz.underlying57 Tryz.infoLO rfl (by omega) hown hv.rd0 (by rw [loCells_len]) (by simp) (loCells_one x) (by omega) (by omega) hr;have Hr:=Lib.hid hr
  have HE:Hid (OwnK w2 base 48 5 (.slice p' (i+1) c') (i+1) (YS.flatMap loCells)∧Only (blk p) w w2∧∀ z∈blk p',z∈blk p∨w.heap.size≤z):=Lib.hid ⟨by
   rw [← hYS,List.take_of_length_le (by omega),List.drop_eq_nil_of_le (by omega),List.flatMap_append,List.flatMap_cons,List.flatMap_nil,List.append_nil];exact o2,h2,fun z hz=>by
   rcases hat with rfl | ⟨g,rfl,hg⟩
   ·exact .inl hz
   ·simp [blk] at hz;subst hz;exact .inr hg⟩
  clear hr o2 h2 hat hown hv hvp hbase hYS
  go_enter Tryz.func148,Tryz.ntmps148
  go_wp2_with (first | (at_builtin;refine wpl_append (s:=.tmp 23) (x:=.tmp 24) rfl rfl rfl rfl Hr.out ?_))
  all_goals
   go_ret
   exact ⟨p',c',rfl,HE.out⟩
 ·have hlt:i < n:=(by omega);obtain ⟨g,rfl,hgb,hgl⟩:=hown.at (by omega);have hvw:=hown.view;have hold:Rd w (some ⟨g,0,none⟩) ((xs.take i).flatMap loCells):=rd_take loCells_len hvw.2.2.1 i
  have hsrc:∀ W:World,Only [] w W→∀ j v,((xs.drop i).flatMap loCells)[j]?=some v→W.cell? ((⟨g,i * 5,none⟩:Addr).add j)=some v:=fun W ho j v hj=>by
   rw [← flat_drop loCells 5 loCells_len,List.getElem?_drop] at hj;have:=(hvw.2.2.1.only0 ho).cells _ _ hj;rw [Addr.add_lit] at this ⊢;rw [Nat.zero_add] at this;exact this
  have hA:((xs.take i).flatMap loCells).length=i * 5:=(by rw [flat_length loCells 5 loCells_len,List.length_take];congr 1;omega);have hB:((xs.drop i).flatMap loCells).length=(n - i) * 5:=(by rw [flat_length loCells 5 loCells_len,List.length_drop,hl]);have hsz:(Tryz.prog.info? 48).map (·.size)=some 5:=(by kernel_rfl);have h1B:∀ v∈(xs.drop i).flatMap loCells,v.oneCell'=true:=fun v hv=>flat_one loCells loCells_one hv;have hxl:=loCells_len x;have hgv:g≠vb:=fun e1=>hvp (by simp [blk,e1]);have hi0:¬ ((i:Int)=(n:Int)):=(by omega);have hq0:((i:Int) == (n:Int))=false:=beq_eq_false_iff_ne.2 hi0
  have hw1:IntKind.i64.wrap ((n:Int)+1)=(n:Int)+1:=(by rw [IntKind.wrap_i64];omega);have hw2:IntKind.i64.wrap ((i:Int)+1)=(i:Int)+1:=(by rw [IntKind.wrap_i64];omega);have hini:(i:Int)≤(n:Int):=(by omega);have hvsrc:∀ W:World,Row W vb 48 (loCells x)→∀ j v,(loCells x)[j]?=some v→W.cell? ((⟨vb,0,none⟩:Addr).add j)=some v:=fun W r j v hj=>by rw [Addr.add_lit,Nat.zero_add];exact r.cell hj
  by_cases hroom:n+1≤c
  ·-- room: in place
   obtain ⟨rest,hrow,hlen,hnc,hcm,hgB,hA0⟩:=hown.row;obtain ⟨L,hL⟩:∃ L,L=xs.flatMap loCells ++ rest:=⟨_,rfl⟩;rw [← hL] at hrow hlen;have hAt:L.take (i * 5)=(xs.take i).flatMap loCells:=(by rw [hL,List.take_append_of_le_length (by rw [hA0];exact Nat.mul_le_mul_right _ hin),flat_take loCells 5 loCells_len]);have e1:(i+1) * 5=i * 5+5:=Nat.succ_mul i 5;have hnk:i * 5+5+(n - i) * 5=(n+1) * 5:=(by rw [← e1,← Nat.add_mul];congr 1;omega);have hcK:=Nat.mul_le_mul_right 5 hroom
   have hsrcL:∀ W:World,Row W g 48 L→∀ j v,((xs.drop i).flatMap loCells)[j]?=some v→W.cell? ((⟨g,i * 5,none⟩:Addr).add j)=some v:=fun W r j v hj=>by
    rw [Addr.add_lit];refine r.cell ?_;have hj1:=(List.getElem?_eq_some_iff.1 hj).1;have hik:=Nat.mul_le_mul_right 5 hin;have hdd:i * 5+(n - i) * 5=n * 5:=(by rw [← Nat.add_mul];congr 1;omega);rw [hL,List.getElem?_append_left (by rw [hA0];omega),← List.getElem?_drop,flat_drop loCells 5 loCells_len];exact hj
   have hcp1:=fun (W:World) (r:Row W g 48 L) (ty:TypeId) (dl dc sl sc:Nat) (hm:Nat.min sl dl=n - i)=>copyK (P:=Tryz.prog) (dT:=57) (sT:=57) (ty:=ty) W (dLen:=dl) (dCap:=dc) (sLen:=sl) (sCap:=sc) (m:=n - i) (o:=(i+1) * 5) (a:=⟨g,i * 5,none⟩) Tryz.underlying57 hsz r hm hB (hsrcL W r) (by rw [hB,hlen];omega) h1B;have hcp2:=fun (W:World) (r:Row W g 48 (L.take ((i+1) * 5) ++ (xs.drop i).flatMap loCells ++ L.drop ((i+1) * 5+((xs.drop i).flatMap loCells).length))) (rx:Row W vb 48 (loCells x)) (ty:TypeId) (dl dc:Nat) (hm:Nat.min 1 dl=1)=>copyK (P:=Tryz.prog) (dT:=57) (sT:=57) (ty:=ty) W (dLen:=dl) (dCap:=dc) (sLen:=1) (sCap:=1) (m:=1) (o:=i * 5) (a:=⟨vb,0,none⟩) Tryz.underlying57 hsz r hm (by rw [hxl]) (hvsrc W rx) (by rw [hxl];simp only [List.length_append,List.length_take,List.length_drop];omega) (loCells_one x)
   have hfin:=insL2 hA hxl hB (R:=L) (by rw [hlen];omega) hAt
   have hov:∀ lb cb,(callFunc 161 #[.slice (some ⟨vb,0,none⟩) 1 1,.slice (some ⟨g,(i+1) * 5,none⟩) lb cb]).run Tryz.prog w=.ok (.value (.bool false)) w:=fun lb cb=>by
    rw [run_callFunc_extern Tryz.func161 (by kernel_rfl) (by kernel_rfl) (by kernel_rfl) (e:=Extern.SlicesOverlaps.overlaps #[57,57] #[4]) (by kernel_rfl),
     Lib.run_overlaps_apart w 57 4 48 Tryz.underlying57 5 (fun w=>by unfold sizeOf typeInfo;obtain ⟨ii,hii,-,hs2,-⟩:=info_partsK Tryz.infoLO;simp [hii,hs2]) ⟨vb,0,none⟩ ⟨g,(i+1) * 5,none⟩ 1 1 lb cb (fun e'=>hgv e'.symm) 48 48 _ _ (shape_row hv) (shape_row hrow) (by rw [List.size_toArray,hlen];omega) (hv.free 0) (hv.free _)]
    rfl
   have Hcp1:=Lib.hid hcp1;have Hcp2:=Lib.hid hcp2;have HF:Hid (base≤g∧n+1≤c∧c≤9223372036854775807∧L.length=c * 5∧xs.length=n∧i * 5+5+(n - i) * 5=(n+1) * 5∧(n+1) * 5≤c * 5∧((xs.drop i).flatMap loCells).length=(n - i) * 5∧((xs.take i).flatMap loCells).length=i * 5):=Lib.hid ⟨hgB,hroom,hcm,hlen,hl,hnk,hcK,hB,hA⟩;have Hfin:=Lib.hid hfin;have HYS:=Lib.hid hYS;have Hr0:=Lib.hid hrow;have Hv0:=Lib.hid hv;have Hgv:=Lib.hid hgv;have hroomI:(n:Int)+1≤(c:Int):=(by omega);have hroomJ:¬ (c:Int) < (n:Int)+1:=by omega
   have htn:((i:Int)+1).toNat=i+1:=(by omega);have htn2:((n:Int)+1).toNat=n+1:=(by omega);have hc1:¬ c=i+1:=(by omega);have hc0:¬ c=i:=(by omega);have hi01:(0:Int)≤(i:Int)+1:=(by omega);have hin1:(i:Int)+1≤(n:Int)+1:=(by omega);have hin2:(i:Int)≤(n:Int)+1:=(by omega);have hn01:(0:Int)≤(n:Int)+1:=(by omega);clear hYS hcp1 hcp2 hfin hL hAt hA0 hgB hcm hlen hnk hcK hrow hsrcL hold hsrc hA hB hown hv hvsrc h1B hsz hxl e1 hvp hgv hvw
   go_enter Tryz.func148,Tryz.ntmps148
   go_upto_region 15 with (simp only [hov])
   clear hov;have hRr:∀ x,(Only [g]) x x:=fun x=>Only.refl _ _;have hRt:∀ x b e,(Only [g]) x b→(Only [g]) b e→(Only [g]) x e:=fun _ _ _ h k=>h.trans k (fun _ h _=>h);have hRd:(Only [g]) w w.drew:=(Only.drew _).mono (by simp)
   have hRs:∀ j w,DirtR [(8,Only [g])] j w w:=DirtR.refl (by
    intro x hx w;simp only [List.mem_cons,List.not_mem_nil,or_false] at hx
    rcases hx with rfl
    exact Only.refl _ _)
   have hC0:∀ d∈[8],(fun (_:Nat) (a:World)=>Row a g 48 L) d w.drew:=fun _ _=>Hr0.out.only0 (Only.drew _);refine wp_region_rg7 (Only [g]) (DirtR [(8,Only [g])]) (fun (_:Nat) (a:World)=>Row a g 48 L) [8] [[(0,none)],[(1,none)],[(7,none)],[(70,some 1),(71,some 0)],[(69,some 3),(72,some 0)],[(0,none)],[(1,none)],[(74,some 1),(75,some 0)],[(73,some 3),(76,some 0)]] [] [0] [none,none,none,none,none,none,none,none,none,none,none,none,none,none,none,none,none,none,none,none,none,none,none,none,none,none,none,none,none,none,none,none,none,none,none,none,none,none,none,none,none,none,none,none,none,none,none,none,none,none,none,none,none,none,none,none,none,none,none,none,none,none,none,none,none,none,none,none,none,some 69,some 70,some 71,some 72,some 73,some 74,some 75,some 76,some 77,none,none,none,none,none,none,none,none,none,none,none,none,none,none,none,none,none] (by kernel_rfl) rfl (by kernel_rfl) hRr hRt hRs hRd hC0 (by kernel_rfl) (by kernel_rfl) ?_
   apply rg7_ev
   ·rintro a w hR hC ⟨(e0:_=_),-⟩;refine rg_plain rfl fun K hK=>?_;go_simp;exact hK _ _ rfl ⟨hRr _,hRs _ _,fun _ _ _ _ h=>h⟩
   apply rg7_ev
   ·rintro a w hR hC ⟨(e1:_=_),-⟩;refine rg_plain rfl fun K hK=>?_;go_simp;exact hK _ _ rfl ⟨hRr _,hRs _ _,fun _ _ _ _ h=>h⟩
   apply rg7_ev
   ·rintro a w hR hC ⟨(e7:_=_),-⟩;refine rg_plain rfl fun K hK=>?_;go_simp;exact hK _ _ rfl ⟨hRr _,hRs _ _,fun _ _ _ _ h=>h⟩
   apply rg7_ev
   ·rintro a w hR hC ⟨(e70:_=_),(e71:_=_),-⟩;refine rg_plain rfl fun K hK=>?_;go_simp;exact hK _ _ rfl ⟨hRr _,hRs _ _,fun _ _ _ _ h=>h⟩
   apply rg7_ev
   ·rintro a w hR hC ⟨(e69:_=_),(e72:_=_),-⟩;refine rg_plain rfl fun K hK=>?_;go_simp;exact hK _ _ rfl ⟨hRr _,hRs _ _,fun _ _ _ _ h=>h⟩
   apply rg7_ev
   ·rintro a w hR hC ⟨(e0:_=_),-⟩;refine rg_plain rfl fun K hK=>?_;go_simp;exact hK _ _ rfl ⟨hRr _,hRs _ _,fun _ _ _ _ h=>h⟩
   apply rg7_ev
   ·rintro a w hR hC ⟨(e1:_=_),-⟩;refine rg_plain rfl fun K hK=>?_;go_simp;exact hK _ _ rfl ⟨hRr _,hRs _ _,fun _ _ _ _ h=>h⟩
   apply rg7_ev
   ·rintro a w hR hC ⟨(e74:_=_),(e75:_=_),-⟩;refine rg_plain rfl fun K hK=>?_;go_simp;exact hK _ _ rfl ⟨hRr _,hRs _ _,fun _ _ _ _ h=>h⟩
   refine ⟨RowS g 48 (L.take ((i+1) * 5) ++ (xs.drop i).flatMap loCells ++ L.drop ((i+1) * 5+((xs.drop i).flatMap loCells).length)),stands5_of RowS.stable (by intro x hx hk;simp only [List.mem_cons,List.not_mem_nil,or_false] at hx;rcases hx with rfl;exact Bool.noConfusion (hk.symm.trans (by kernel_rfl:_=true))),fun a w hR hC hf=>?_,?_⟩
   ·obtain ⟨e73,e76,-⟩:=hf;replace e73:a.tmps.getD 73 undef=_:=e73;replace e76:a.tmps.getD 76 undef=_:=e76;refine rg_plain rfl fun K hK=>?_;have rz:Row w g 48 L:=hC 8 (by simp) (by kernel_rfl);have hst:=Only.setRow w g ((L.take ((i+1) * 5) ++ (xs.drop i).flatMap loCells ++ L.drop ((i+1) * 5+((xs.drop i).flatMap loCells).length))).toArray;refine rg_copy (s:=.tmp 73) (x:=.tmp 76) rfl e73 e76 (Hcp1.out w rz _ _ _ _ _ (by simp only [Nat.min_def];split <;> omega)) ?_;exact hK _ _ (rz.setRow _) ⟨hst,hst,fun i hi hne ha hc=>absurd hi (by simp;omega)⟩
   intro f15 w15 hR15 hf hl15;dsimp only [mergeT];obtain ⟨l8,-⟩:=hl15;replace l8:∃ v,(RowS g 48 (L.take ((i+1) * 5) ++ (xs.drop i).flatMap loCells ++ L.drop ((i+1) * 5+((xs.drop i).flatMap loCells).length))) v w15:=l8;have r1:Row w15 g 48 (L.take ((i+1) * 5) ++ (xs.drop i).flatMap loCells ++ L.drop ((i+1) * 5+((xs.drop i).flatMap loCells).length)):=(by obtain ⟨v,h⟩:=l8;exact h);have rx:=Hv0.out.only hR15 (by simpa using fun e=>Hgv.out e.symm);obtain ⟨h1,h2,h3,h4,h5,h6,h7,h8,h9⟩:=HF.out;obtain ⟨w4,hw4⟩:∃ w4,w4=w15.setRow g ((L.take ((i+1) * 5) ++ (xs.drop i).flatMap loCells ++ L.drop ((i+1) * 5+((xs.drop i).flatMap loCells).length)).take (i * 5) ++ loCells x ++ (L.take ((i+1) * 5) ++ (xs.drop i).flatMap loCells ++ L.drop ((i+1) * 5+((xs.drop i).flatMap loCells).length)).drop (i * 5+(loCells x).length)).toArray:=⟨_,rfl⟩
   have H2:=fun ty dl dc hm=>Hcp2.out w15 r1 rx ty dl dc hm;have o4:Only [g] w15 w4:=(by rw [hw4];exact Only.setRow _ _ _);have r4:=r1.setRow ((L.take ((i+1) * 5) ++ (xs.drop i).flatMap loCells ++ L.drop ((i+1) * 5+((xs.drop i).flatMap loCells).length)).take (i * 5) ++ loCells x ++ (L.take ((i+1) * 5) ++ (xs.drop i).flatMap loCells ++ L.drop ((i+1) * 5+((xs.drop i).flatMap loCells).length)).drop (i * 5+(loCells x).length));rw [← hw4] at r4 H2;have hxl:=loCells_len x;have e1:(i+1) * 5=i * 5+5:=Nat.succ_mul i 5;rw [e1,hxl,h8,Hfin.out] at r4
   have hE:OwnK w4 base 48 5 (.slice (some ⟨g,0,none⟩) (n+1) c) (n+1) (YS.flatMap loCells):=OwnK.ofRow r4 h1 h2 h3 (by rw [List.length_append,List.length_append,List.length_append,List.length_drop,h9,h8,hxl,h4];omega) (by
    have hlen:((xs.take i).flatMap loCells ++ loCells x ++ (xs.drop i).flatMap loCells).length=(n+1) * 5:=by rw [List.length_append,List.length_append,h9,h8,hxl];omega
    rw [← HYS.out,List.take_left' hlen,List.flatMap_append,List.flatMap_cons,List.append_assoc])
   have HE:Hid (OwnK w4 base 48 5 (.slice (some ⟨g,0,none⟩) (n+1) c) (n+1) (YS.flatMap loCells)∧Only (blk (some (⟨g,0,none⟩:Addr))) w w4∧∀ z∈blk (some (⟨g,0,none⟩:Addr)),z∈blk (some (⟨g,0,none⟩:Addr))∨w.heap.size≤z):=Lib.hid ⟨hE,hR15.trans o4 (fun _ h _=>h),fun z hz=>.inl hz⟩;have H2h:=Lib.hid H2;clear r1 rx h1 h2 h3 h4 h5 h6 h7 h8 h9 H2 o4 r4 hxl e1 hE HF Hfin HYS Hcp1 Hcp2 Hr0 Hv0 Hgv hRr hRt hRd hRs hC0 l8 hw4
   go_upto_region 17 with (fail)
   rw [H2h.out _ _ _ (by simp only [Nat.min_def];split <;> omega)];go_wp2_with fail
   go_ret
   exact ⟨some ⟨g,0,none⟩,c,rfl,HE.out⟩
  ·-- a new block
   have hk:i+(n+1 - i)=n+1:=(by omega);obtain ⟨g2,c2,w2,rest,hr,r2,hrl,hc2,hcm,hg2,o2⟩:=growZ (P:=Tryz.prog) (tn:=3) (kn:=.i64) (kq:=.i64) (ty:=57) (cap:=c) (k:=n+1 - i) w Tryz.underlying57 Tryz.underlying3 Tryz.infoLO rfl (by omega) hold hA (by omega) (by omega) (by omega) (by omega);rw [hk] at hr hc2;have hRl:((xs.take i).flatMap loCells ++ rest).length=c2 * 5:=(by rw [List.length_append,hA];omega);have hcp1:=fun ty dc=>copyK (P:=Tryz.prog) (sT:=57) (ty:=ty) w2 (dLen:=n+1 - i) (dCap:=dc) (sLen:=1) (sCap:=1) (m:=1) (o:=i * 5) (a:=⟨vb,0,none⟩) Tryz.underlying57 hsz r2 (by simp only [Nat.min_def];split <;> omega) (by rw [hxl]) (hvsrc w2 (hv.only0 o2)) (by rw [hxl,hRl];have:=Nat.mul_le_mul_right 5 hc2;omega) (loCells_one x)
   obtain ⟨w3,hw3⟩:∃ w3,w3=w2.setRow g2 (((xs.take i).flatMap loCells ++ rest).take (i * 5) ++ loCells x ++ ((xs.take i).flatMap loCells ++ rest).drop (i * 5+(loCells x).length)).toArray:=⟨_,rfl⟩;have r3:=r2.setRow (((xs.take i).flatMap loCells ++ rest).take (i * 5) ++ loCells x ++ ((xs.take i).flatMap loCells ++ rest).drop (i * 5+(loCells x).length));have o3:Only [g2] w2 w3:=(by rw [hw3];exact Only.setRow _ _ _);rw [← hw3] at r3 hcp1;rw [hxl] at r3;have o13:Only [] w w3:=o2.transN o3 (by simpa using hg2);have e1:(i+1) * 5=i * 5+5:=Nat.succ_mul i 5;have hnk:(n - i) * 5+(i+1) * 5=(n+1) * 5:=by rw [← Nat.add_mul];congr 1;omega
   have hc2K:=Nat.mul_le_mul_right 5 hc2
   have hl3:(((xs.take i).flatMap loCells ++ rest).take (i * 5) ++ loCells x ++ ((xs.take i).flatMap loCells ++ rest).drop (i * 5+5)).length=c2 * 5:=by
    rw [List.length_append,List.length_append,List.length_take,List.length_drop,hRl,hxl];omega
   obtain ⟨L3,hL3⟩:∃ L3,L3=((xs.take i).flatMap loCells ++ rest).take (i * 5) ++ loCells x ++ ((xs.take i).flatMap loCells ++ rest).drop (i * 5+5):=⟨_,rfl⟩;rw [← hL3] at r3 hl3
   have hcp2:=fun (W:World) (ho:Only [g2] w3 W) (r:Row W g2 48 L3) (ty:TypeId) (dl dc sl sc:Nat) (hm:Nat.min sl dl=n - i)=>copyK (P:=Tryz.prog) (dT:=57) (sT:=57) (ty:=ty) W (dLen:=dl) (dCap:=dc) (sLen:=sl) (sCap:=sc) (m:=n - i) (o:=(i+1) * 5) (a:=⟨g,i * 5,none⟩) Tryz.underlying57 hsz r hm hB (fun j v hj=>by
    have h:=hsrc w3 o13 j v hj;rw [Addr.add_lit] at h ⊢
    exact ho.cell h (by simp;omega)) (by rw [hB,hl3];omega) h1B
   have hfin:=insL hA hxl hB (R:=(xs.take i).flatMap loCells ++ rest) (by rw [hRl];omega) (List.take_left' hA);rw [← hL3] at hfin;have HF:Hid (base≤g2∧n+1≤c2∧c2≤9223372036854775807∧((xs.take i).flatMap loCells ++ rest).length=c2 * 5∧(n - i) * 5+(i+1) * 5=(n+1) * 5∧(n+1) * 5≤c2 * 5∧((xs.drop i).flatMap loCells).length=(n - i) * 5∧((xs.take i).flatMap loCells).length=i * 5∧w.heap.size≤g2):=Lib.hid ⟨by omega,hc2,hcm,hRl,hnk,hc2K,hB,hA,hg2⟩;have Hfin:=Lib.hid hfin;have HYS:=Lib.hid hYS;have HO13:=Lib.hid o13;have HR3:=Lib.hid r3
   have Hcp2:=Lib.hid hcp2;have Hr:=Lib.hid hr;have H1:=Lib.hid (hcp1 3);have hroomI:¬ ((n:Int)+1≤(c:Int)):=(by omega);have hroomJ:(c:Int) < (n:Int)+1:=(by omega);have hkz:IntKind.i64.wrap ((n:Int)+1 - (i:Int))=((n+1 - i:Nat):Int):=(by rw [IntKind.wrap_i64];omega);have hkz2:wrap64 ((n:Int)+1 - (i:Int))=((n+1 - i:Nat):Int):=(by rw [IntWalk.wrap64_in _ (by omega)];omega);have htn:((i:Int)+1).toNat=i+1:=(by omega);have hcb:¬ c2=i:=(by omega);have hcb1:¬ c2=i+1:=(by omega);have hcbi:¬ c=i:=by have:=hvw.2.2.2.2.1;omega
   have hic2:(i:Int)≤(c2:Int):=(by omega);have hi01:(0:Int)≤(i:Int)+1:=(by omega);have hin1:(i:Int)+1≤(n:Int)+1:=(by omega);have hci:(i:Int)≤(c:Int):=(by have:=hvw.2.2.2.2.1;omega);clear hYS hr hcp1 hcp2 hfin hL3 r2 r3 o2 o3 o13 hw3 hvw hold hsrc hA hB hRl hl3 hown hv hvsrc h1B hsz hxl hc2K hnk e1 hrl hvp
   go_enter Tryz.func148,Tryz.ntmps148
   go_upto_region 11 with (at_builtin;refine wpl_append (s:=.tmp 34) (x:=.tmp 39) rfl rfl rfl rfl Hr.out ?_)
   have h1:=H1.out (c2 - i);rw [h1];clear h1
   go_upto_region 11 with (fail)
   have hRr:∀ x,(Only [g2]) x x:=fun x=>Only.refl _ _;have hRt:∀ x b e,(Only [g2]) x b→(Only [g2]) b e→(Only [g2]) x e:=fun _ _ _ h k=>h.trans k (fun _ h _=>h);have hRd:(Only [g2]) w3 w3.drew:=(Only.drew _).mono (by simp)
   have hRs:∀ j w,DirtR [(8,Only [g2])] j w w:=DirtR.refl (by
    intro x hx w;simp only [List.mem_cons,List.not_mem_nil,or_false] at hx
    rcases hx with rfl
    exact Only.refl _ _)
   have hC0:∀ d∈[8],(fun (_:Nat) (a:World)=>Row a g2 48 L3) d w3.drew:=fun _ _=>HR3.out.only0 (Only.drew _);refine wp_region_rg7 (Only [g2]) (DirtR [(8,Only [g2])]) (fun (_:Nat) (a:World)=>Row a g2 48 L3) [8] [[(9,none)],[(1,none)],[(7,none)],[(47,some 1),(48,some 0)],[(46,some 3),(49,some 0)],[(0,none)],[(1,none)],[(51,some 1),(52,some 0)],[(50,some 3),(53,some 0)]] [] [0] [none,none,none,none,none,none,none,none,none,none,none,none,none,none,none,none,none,none,none,none,none,none,none,none,none,none,none,none,none,none,none,none,none,none,none,none,none,none,none,none,none,none,none,none,none,none,some 46,some 47,some 48,some 49,some 50,some 51,some 52,some 53,some 54,none,none,none,none,none,none,none,none,none,none,none,none,none,none,none,none,none,none,none,none,none,none,none,none,none,none,none,none,none,none,none,none,none,none,none,none,none,none,none,none] (by kernel_rfl) rfl (by kernel_rfl) hRr hRt hRs hRd hC0 (by kernel_rfl) (by kernel_rfl) ?_
   apply rg7_ev
   ·rintro a w hR hC ⟨(e9:_=_),-⟩;refine rg_plain rfl fun K hK=>?_;go_simp;exact hK _ _ rfl ⟨hRr _,hRs _ _,fun _ _ _ _ h=>h⟩
   apply rg7_ev
   ·rintro a w hR hC ⟨(e1:_=_),-⟩;refine rg_plain rfl fun K hK=>?_;go_simp;exact hK _ _ rfl ⟨hRr _,hRs _ _,fun _ _ _ _ h=>h⟩
   apply rg7_ev
   ·rintro a w hR hC ⟨(e7:_=_),-⟩;refine rg_plain rfl fun K hK=>?_;go_simp;exact hK _ _ rfl ⟨hRr _,hRs _ _,fun _ _ _ _ h=>h⟩
   apply rg7_ev
   ·rintro a w hR hC ⟨(e47:_=_),(e48:_=_),-⟩;refine rg_plain rfl fun K hK=>?_;go_simp;exact hK _ _ rfl ⟨hRr _,hRs _ _,fun _ _ _ _ h=>h⟩
   apply rg7_ev
   ·rintro a w hR hC ⟨(e46:_=_),(e49:_=_),-⟩;refine rg_plain rfl fun K hK=>?_;go_simp;exact hK _ _ rfl ⟨hRr _,hRs _ _,fun _ _ _ _ h=>h⟩
   apply rg7_ev
   ·rintro a w hR hC ⟨(e0:_=_),-⟩;refine rg_plain rfl fun K hK=>?_;go_simp;exact hK _ _ rfl ⟨hRr _,hRs _ _,fun _ _ _ _ h=>h⟩
   apply rg7_ev
   ·rintro a w hR hC ⟨(e1:_=_),-⟩;refine rg_plain rfl fun K hK=>?_;go_simp;exact hK _ _ rfl ⟨hRr _,hRs _ _,fun _ _ _ _ h=>h⟩
   apply rg7_ev
   ·rintro a w hR hC ⟨(e51:_=_),(e52:_=_),-⟩;refine rg_plain rfl fun K hK=>?_;go_simp;exact hK _ _ rfl ⟨hRr _,hRs _ _,fun _ _ _ _ h=>h⟩
   refine ⟨RowS g2 48 (L3.take ((i+1) * 5) ++ (xs.drop i).flatMap loCells ++ L3.drop ((i+1) * 5+((xs.drop i).flatMap loCells).length)),stands5_of RowS.stable (by intro x hx hk;simp only [List.mem_cons,List.not_mem_nil,or_false] at hx;rcases hx with rfl;exact Bool.noConfusion (hk.symm.trans (by kernel_rfl:_=true))),fun a w hR hC hf=>?_,?_⟩
   ·obtain ⟨e50,e53,-⟩:=hf;replace e50:a.tmps.getD 50 undef=_:=e50;replace e53:a.tmps.getD 53 undef=_:=e53;refine rg_plain rfl fun K hK=>?_;have rz:Row w g2 48 L3:=hC 8 (by simp) (by kernel_rfl);have hst:=Only.setRow w g2 ((L3.take ((i+1) * 5) ++ (xs.drop i).flatMap loCells ++ L3.drop ((i+1) * 5+((xs.drop i).flatMap loCells).length))).toArray;refine rg_copy (s:=.tmp 50) (x:=.tmp 53) rfl e50 e53 (Hcp2.out w hR rz _ _ _ _ _ (by simp only [Nat.min_def];split <;> omega)) ?_;exact hK _ _ (rz.setRow _) ⟨hst,hst,fun i hi hne ha hc=>absurd hi (by simp;omega)⟩
   intro f11 w11 hR11 hf hl11;dsimp only [mergeT];obtain ⟨l8,-⟩:=hl11;replace l8:∃ v,(RowS g2 48 (L3.take ((i+1) * 5) ++ (xs.drop i).flatMap loCells ++ L3.drop ((i+1) * 5+((xs.drop i).flatMap loCells).length))) v w11:=l8;have r4:Row w11 g2 48 (L3.take ((i+1) * 5) ++ (xs.drop i).flatMap loCells ++ L3.drop ((i+1) * 5+((xs.drop i).flatMap loCells).length)):=(by obtain ⟨v,h⟩:=l8;exact h);obtain ⟨h1,h2,h3,h4,h5,h6,h7,h8,h9⟩:=HF.out;have hxl:=loCells_len x;have e1:(i+1) * 5=i * 5+5:=Nat.succ_mul i 5;rw [e1,h7,Hfin.out] at r4
   have hE:OwnK w11 base 48 5 (.slice (some ⟨g2,0,none⟩) (n+1) c2) (n+1) (YS.flatMap loCells):=OwnK.ofRow r4 h1 h2 h3 (by rw [List.length_append,List.length_append,List.length_append,List.length_drop,h8,h7,hxl,h4];omega) (by
    have hlen:((xs.take i).flatMap loCells ++ loCells x ++ (xs.drop i).flatMap loCells).length=(n+1) * 5:=by rw [List.length_append,List.length_append,h8,h7,hxl];omega
    rw [← HYS.out,List.take_left' hlen,List.flatMap_append,List.flatMap_cons,List.append_assoc])
   have HE:Hid (OwnK w11 base 48 5 (.slice (some ⟨g2,0,none⟩) (n+1) c2) (n+1) (YS.flatMap loCells)∧Only (blk (some (⟨g,0,none⟩:Addr))) w w11∧∀ z∈blk (some (⟨g2,0,none⟩:Addr)),z∈blk (some (⟨g,0,none⟩:Addr))∨w.heap.size≤z):=Lib.hid ⟨hE,((HO13.out.transN hR11 (by simpa using h9))).mono (by simp),fun z hz=>.inr (by simp [blk] at hz;omega)⟩;clear r4 h1 h2 h3 h4 h5 h6 h7 h8 h9 hxl e1 hE HF Hfin HYS HO13 HR3 Hcp2 hRr hRt hRd hRs hC0 l8;go_wp2_with fail
   go_ret
   exact ⟨some ⟨g2,0,none⟩,c2,rfl,HE.out⟩
end
section
open Go.RowKit
set_option maxHeartbeats 8000000 in
theorem setOb_any (p:Option Addr) (n c:Nat) (xs:List LObj) (k:Bs) (x:LObj) (base:Nat) (w0:World) (hn:xs.length=n) (hb:n≤100000) (hown:OwnK w0 base 48 5 (.slice p n c) n (xs.flatMap loCells)) (hbase:base≤w0.heap.size) (hs:SortB LObj.key lt xs) :
  Calls Tryz.prog 133 #[.slice p n c,.string (str k),.func (.func 67) #[] #[],loV x] w0 fun e' w'=>∃ p' c',e'=.returned (.slice p' (putL LObj.key lt xs k x).length c')∧OwnK w' base 48 5 (.slice p' (putL LObj.key lt xs k x).length c') (putL LObj.key lt xs k x).length ((putL LObj.key lt xs k x).flatMap loCells)∧Only (blk p) w0 w'∧∀ z∈blk p',z∈blk p∨w0.heap.size≤z:=by
 generalize hYS:putL LObj.key lt xs k x=YS;obtain ⟨i,hi⟩:∃ i,posL LObj.key lt xs k=i:=⟨_,rfl⟩;obtain ⟨b,hbt⟩:∃ b,thereL LObj.key lt xs k=b:=⟨_,rfl⟩;have hile:i≤n:=(by rw [← hi,← hn];exact posL_le _ _);obtain ⟨wb,hwb⟩:∃ wb,wb=w0.alloc (.cells #[.string (str x.o.key),.int .i64 x.o.size,.string (str x.o.etag),.int .i64 x.o.time,.slice x.q x.o.pcs.length x.c] 48):=⟨_,rfl⟩;have owb:Only [] w0 wb:=(by rw [hwb];exact Only.alloc _ _);have rb:Row wb w0.heap.size 48 [.string (str x.o.key),.int .i64 x.o.size,.string (str x.o.etag),.int .i64 x.o.time,.slice x.q x.o.pcs.length x.c]:=by rw [hwb];exact Row.newOf _ _ _ _ rfl
 have hbs:=bsfOb_any p n c xs k wb hn (by omega) (fun h=>(hown.view.2.2.2.1 h).1) (hown.view.2.2.1.only0 owb) hs;rw [hi,hbt] at hbs;have Hw:=Lib.hid hwb;have Ho:=Lib.hid owb;have Hrb:=Lib.hid rb;have Hb:=Lib.hid hbs;have hile2:(i:Int)≤(n:Int):=by omega
 cases b with
 | true =>
  have hput:YS=xs.set i x:=(by rw [← hYS];unfold putL;rw [hbt,if_pos rfl,hi]);obtain ⟨y,hy,-⟩:=there_at hbt;rw [hi] at hy;have hin:i < n:=(by have:=(List.getElem?_eq_some_iff.1 hy).1;omega);have hini:(i:Int) < (n:Int):=(by omega);obtain ⟨g,-,rfl,-,-⟩:=hown.rowOf (by omega);obtain ⟨rest,hrow,hlen,hnc,hcm,hgb,-⟩:=hown.row;have hYl:YS.length=n:=(by rw [hput,List.length_set,hn]);rw [hYl];have Hrow:=Lib.hid hrow;have HF:Hid (YS=xs.set i x∧xs[i]?=some y∧xs.length=n∧base≤g∧n≤c∧c≤9223372036854775807∧(xs.flatMap loCells ++ rest).length=c * 5):=Lib.hid ⟨hput,hy,hn,hgb,hnc,hcm,hlen⟩
  clear hYS hi hbt hwb owb rb hbs hput hy hown hrow hlen hnc hcm hgb hYl hn hs;unfold loV
  go_enter Tryz.func133,Tryz.ntmps133
  go_wp2_with fail;rw [← Hw.out];refine Hb.out.mono ?_;rintro e1 w1 ⟨rfl,o1⟩;have o01:Only [] w0 w1:=Ho.out.trans0 o1;have r1:=Hrow.out.only0 o01;have rx:=Hrb.out.only0 o1;obtain ⟨h1,hy,hn,hgb,hnc,hcm,hlen⟩:=HF.out;have hra:=flat_recAt (rest:=rest) loCells_len hy;have x0:=hra.cell r1 (r:=0) rfl;have x1:=hra.cell r1 (r:=1) rfl;have x2:=hra.cell r1 (r:=2) rfl;have x3:=hra.cell r1 (r:=3) rfl;have x4:=hra.cell r1 (r:=4) rfl;rw [Nat.add_zero] at x0;have y0:=r1.free (i * 5);have y1:=r1.free (i * 5+1);have y2:=r1.free (i * 5+2);have y3:=r1.free (i * 5+3)
  have y4:=r1.free (i * 5+4);have a0:=rx.cell (i:=0) rfl;have a1:=rx.cell (i:=1) rfl;have a2:=rx.cell (i:=2) rfl;have a3:=rx.cell (i:=3) rfl;have a4:=rx.cell (i:=4) rfl;obtain ⟨wz,hwz⟩:∃ wz,wz=(((((w1.setCell ⟨g,i * 5,none⟩ (.string (str x.o.key))).setCell ⟨g,i * 5+1,none⟩ (.int .i64 x.o.size)).setCell ⟨g,i * 5+2,none⟩ (.string (str x.o.etag))).setCell ⟨g,i * 5+3,none⟩ (.int .i64 x.o.time)).setCell ⟨g,i * 5+4,none⟩ (.slice x.q x.o.pcs.length x.c)):=⟨_,rfl⟩;have ozz:Only [g] w1 wz:=by rw [hwz];exact (((((Only.setCell _ ⟨g,i * 5,none⟩ _).trans (Only.setCell _ ⟨g,i * 5+1,none⟩ _) (fun _ h _=>h)).trans (Only.setCell _ ⟨g,i * 5+2,none⟩ _) (fun _ h _=>h)).trans (Only.setCell _ ⟨g,i * 5+3,none⟩ _) (fun _ h _=>h)).trans (Only.setCell _ ⟨g,i * 5+4,none⟩ _) (fun _ h _=>h))
  have hra2:=(((((hra.set (i:=0) (.string (str x.o.key)) (by simp only [List.length_set,loCells_len];omega)).set (i:=1) (.int .i64 x.o.size) (by simp only [List.length_set,loCells_len];omega)).set (i:=2) (.string (str x.o.etag)) (by simp only [List.length_set,loCells_len];omega)).set (i:=3) (.int .i64 x.o.time) (by simp only [List.length_set,loCells_len];omega)).set (i:=4) (.slice x.q x.o.pcs.length x.c) (by simp only [List.length_set,loCells_len];omega));have hrz:=(((((r1.setCell (i * 5) (.string (str x.o.key))).setCell (i * 5+1) (.int .i64 x.o.size)).setCell (i * 5+2) (.string (str x.o.etag))).setCell (i * 5+3) (.int .i64 x.o.time)).setCell (i * 5+4) (.slice x.q x.o.pcs.length x.c))
  rw [← hwz] at hrz;have hE:=OwnK.setRec (y:=x) (by omega) loCells_len hgb hn hin hnc hcm hlen hrz (((((Outside.set (i * 5) 5 _ (i:=i * 5) (.string (str x.o.key)) (by omega) (by omega)).trans (Outside.set (i * 5) 5 _ (i:=i * 5+1) (.int .i64 x.o.size) (by omega) (by omega))).trans (Outside.set (i * 5) 5 _ (i:=i * 5+2) (.string (str x.o.etag)) (by omega) (by omega))).trans (Outside.set (i * 5) 5 _ (i:=i * 5+3) (.int .i64 x.o.time) (by omega) (by omega))).trans (Outside.set (i * 5) 5 _ (i:=i * 5+4) (.slice x.q x.o.pcs.length x.c) (by omega) (by omega))) hra2;rw [← h1] at hE
  have HE:Hid (OwnK wz base 48 5 (.slice (some ⟨g,0,none⟩) n c) n (YS.flatMap loCells)∧Only (blk (some (⟨g,0,none⟩:Addr))) w0 wz):=Lib.hid ⟨hE,(o01.mono (fun _ h=>by cases h)).trans ozz (fun _ h _=>h)⟩;have Hz:=Lib.hid hwz;clear hwz ozz hra hra2 hrz hE r1 rx o1 o01 h1 hy hn hgb hnc hcm hlen HF Hrow Hrb Hb;go_wp2_with fail;rw [← Hz.out]
  go_ret
  exact ⟨_,_,rfl,HE.out.1,HE.out.2,fun z hz=>.inl hz⟩
 | false =>
  have hput:YS=xs.take i ++ x :: xs.drop i:=(by rw [← hYS];unfold putL;rw [hbt,if_neg (by simp),hi]);have hYl:YS.length=n+1:=(by rw [hput];simp;omega);rw [hYl];have HF:Hid (YS=xs.take i ++ x :: xs.drop i∧xs.length=n∧OwnK w0 base 48 5 (.slice p n c) n (xs.flatMap loCells)):=Lib.hid ⟨hput,hn,hown⟩;clear hYS hi hbt hwb owb rb hbs hput hown hYl hn hs;unfold loV
  go_enter Tryz.func133,Tryz.ntmps133
  go_wp2_with fail;rw [← Hw.out];refine Hb.out.mono ?_;rintro e1 w1 ⟨rfl,o1⟩;have o01:Only [] w0 w1:=Ho.out.trans0 o1;have rx:=Hrb.out.only0 o1;obtain ⟨h1,hn,hown⟩:=HF.out;obtain ⟨wv,hwv⟩:∃ wv,wv=w1.alloc (.cells #[.string (str x.o.key),.int .i64 x.o.size,.string (str x.o.etag),.int .i64 x.o.time,.slice x.q x.o.pcs.length x.c] 48):=⟨_,rfl⟩;have ov:Only [] w1 wv:=(by rw [hwv];exact Only.alloc _ _);have rv:Row wv w1.heap.size 48 (loCells x):=(by rw [hwv];exact Row.newOf _ _ _ _ rfl);have hlo:=hown.view.2.2.2.2.2.2;have hsz:=o01.size;have hins:=insOb_any p n c xs x i w1.heap.size base wv (hown.only0 (o01.trans0 ov)) (by have:=ov.size;omega) hn hile (by omega) rv (fun hm=>by have:=(hlo _ hm).2;omega)
  rw [← h1] at hins;have Hi:=Lib.hid hins;have Hv:=Lib.hid hwv;have Hov:Hid (Only [] w0 wv):=Lib.hid (o01.trans0 ov);have a0:=rx.cell (i:=0) rfl;have a1:=rx.cell (i:=1) rfl;have a2:=rx.cell (i:=2) rfl;have a3:=rx.cell (i:=3) rfl;have a4:=rx.cell (i:=4) rfl;clear hins hwv ov rv hlo rx o1 h1 hn hown HF Hrb Hb;go_wp2_with fail;rw [← Hv.out];refine Hi.out.mono ?_;rintro e2 w2 ⟨p',c',rfl,h1,h2,h3⟩;have HE:Hid (OwnK w2 base 48 5 (.slice p' (n+1) c') (n+1) (YS.flatMap loCells)∧Only (blk p) w0 w2∧∀ z∈blk p',z∈blk p∨w0.heap.size≤z):=Lib.hid ⟨h1,(Hov.out.mono (fun _ h=>by cases h)).trans h2 (fun _ h _=>h),fun z hz=>(h3 z hz).imp id (fun h=>by have:=Hov.out.size;omega)⟩
  clear h1 h2 h3 Hi Hv Hov;go_wp2_with fail
  go_ret
  exact ⟨_,_,rfl,HE.out⟩
end
section
open Go.RowKit
set_option maxHeartbeats 8000000 in
theorem insUp_any (p:Option Addr) (n c:Nat) (xs:List LUpl) (x:LUpl) (i vb base:Nat) (w:World) (hown:OwnK w base 54 5 (.slice p n c) n (xs.flatMap luCells)) (hbase:base≤w.heap.size) (hl:xs.length=n) (hin:i≤n) (hnb:n≤1000000) (hv:Row w vb 54 (luCells x)) (hvp:vb ∉ blk p) :
  Calls Tryz.prog 134 #[.slice p n c,.int .i64 (i:Int),.slice (some ⟨vb,0,none⟩) 1 1] w fun e' w'=>∃ p' c',e'=.returned (.slice p' (n+1) c')∧OwnK w' base 54 5 (.slice p' (n+1) c') (n+1) ((xs.take i ++ x :: xs.drop i).flatMap luCells)∧Only (blk p) w w'∧∀ z∈blk p',z∈blk p∨w.heap.size≤z:=by
 generalize hYS:xs.take i ++ x :: xs.drop i=YS
 by_cases hi:i=n
 ·subst hi;obtain ⟨p',c',w2,hr,o2,h2⟩:=appendK (P:=Tryz.prog) (t:=58) (ty:=58) (m:=1) (c:=1) (q:=some ⟨vb,0,none⟩) (news:=luCells x) w Tryz.underlying58 Tryz.infoLU rfl (by omega) hown hv.rd0 (by rw [luCells_len]) (by simp) (luCells_one x) (by omega) (by omega) hbase;have hat:=appendK_at (P:=Tryz.prog) (t:=58) (ty:=58) (m:=1) (c:=1) (q:=some ⟨vb,0,none⟩) (news:=luCells x) w Tryz.underlying58 Tryz.infoLU rfl (by omega) hown hv.rd0 (by rw [luCells_len]) (by simp) (luCells_one x) (by omega) (by omega) hr;have Hr:=Lib.hid hr
  have HE:Hid (OwnK w2 base 54 5 (.slice p' (i+1) c') (i+1) (YS.flatMap luCells)∧Only (blk p) w w2∧∀ z∈blk p',z∈blk p∨w.heap.size≤z):=Lib.hid ⟨by
   rw [← hYS,List.take_of_length_le (by omega),List.drop_eq_nil_of_le (by omega),List.flatMap_append,List.flatMap_cons,List.flatMap_nil,List.append_nil];exact o2,h2,fun z hz=>by
   rcases hat with rfl | ⟨g,rfl,hg⟩
   ·exact .inl hz
   ·simp [blk] at hz;subst hz;exact .inr hg⟩
  clear hr o2 h2 hat hown hv hvp hbase hYS
  go_enter Tryz.func134,Tryz.ntmps134
  go_wp2_with (first | (at_builtin;refine wpl_append (s:=.tmp 23) (x:=.tmp 24) rfl rfl rfl rfl Hr.out ?_))
  all_goals
   go_ret
   exact ⟨p',c',rfl,HE.out⟩
 ·have hlt:i < n:=(by omega);obtain ⟨g,rfl,hgb,hgl⟩:=hown.at (by omega);have hvw:=hown.view;have hold:Rd w (some ⟨g,0,none⟩) ((xs.take i).flatMap luCells):=rd_take luCells_len hvw.2.2.1 i
  have hsrc:∀ W:World,Only [] w W→∀ j v,((xs.drop i).flatMap luCells)[j]?=some v→W.cell? ((⟨g,i * 5,none⟩:Addr).add j)=some v:=fun W ho j v hj=>by
   rw [← flat_drop luCells 5 luCells_len,List.getElem?_drop] at hj;have:=(hvw.2.2.1.only0 ho).cells _ _ hj;rw [Addr.add_lit] at this ⊢;rw [Nat.zero_add] at this;exact this
  have hA:((xs.take i).flatMap luCells).length=i * 5:=(by rw [flat_length luCells 5 luCells_len,List.length_take];congr 1;omega);have hB:((xs.drop i).flatMap luCells).length=(n - i) * 5:=(by rw [flat_length luCells 5 luCells_len,List.length_drop,hl]);have hsz:(Tryz.prog.info? 54).map (·.size)=some 5:=(by kernel_rfl);have h1B:∀ v∈(xs.drop i).flatMap luCells,v.oneCell'=true:=fun v hv=>flat_one luCells luCells_one hv;have hxl:=luCells_len x;have hgv:g≠vb:=fun e1=>hvp (by simp [blk,e1]);have hi0:¬ ((i:Int)=(n:Int)):=(by omega);have hq0:((i:Int) == (n:Int))=false:=beq_eq_false_iff_ne.2 hi0
  have hw1:IntKind.i64.wrap ((n:Int)+1)=(n:Int)+1:=(by rw [IntKind.wrap_i64];omega);have hw2:IntKind.i64.wrap ((i:Int)+1)=(i:Int)+1:=(by rw [IntKind.wrap_i64];omega);have hini:(i:Int)≤(n:Int):=(by omega);have hvsrc:∀ W:World,Row W vb 54 (luCells x)→∀ j v,(luCells x)[j]?=some v→W.cell? ((⟨vb,0,none⟩:Addr).add j)=some v:=fun W r j v hj=>by rw [Addr.add_lit,Nat.zero_add];exact r.cell hj
  by_cases hroom:n+1≤c
  ·-- room: in place
   obtain ⟨rest,hrow,hlen,hnc,hcm,hgB,hA0⟩:=hown.row;obtain ⟨L,hL⟩:∃ L,L=xs.flatMap luCells ++ rest:=⟨_,rfl⟩;rw [← hL] at hrow hlen;have hAt:L.take (i * 5)=(xs.take i).flatMap luCells:=(by rw [hL,List.take_append_of_le_length (by rw [hA0];exact Nat.mul_le_mul_right _ hin),flat_take luCells 5 luCells_len]);have e1:(i+1) * 5=i * 5+5:=Nat.succ_mul i 5;have hnk:i * 5+5+(n - i) * 5=(n+1) * 5:=(by rw [← e1,← Nat.add_mul];congr 1;omega);have hcK:=Nat.mul_le_mul_right 5 hroom
   have hsrcL:∀ W:World,Row W g 54 L→∀ j v,((xs.drop i).flatMap luCells)[j]?=some v→W.cell? ((⟨g,i * 5,none⟩:Addr).add j)=some v:=fun W r j v hj=>by
    rw [Addr.add_lit];refine r.cell ?_;have hj1:=(List.getElem?_eq_some_iff.1 hj).1;have hik:=Nat.mul_le_mul_right 5 hin;have hdd:i * 5+(n - i) * 5=n * 5:=(by rw [← Nat.add_mul];congr 1;omega);rw [hL,List.getElem?_append_left (by rw [hA0];omega),← List.getElem?_drop,flat_drop luCells 5 luCells_len];exact hj
   have hcp1:=fun (W:World) (r:Row W g 54 L) (ty:TypeId) (dl dc sl sc:Nat) (hm:Nat.min sl dl=n - i)=>copyK (P:=Tryz.prog) (dT:=58) (sT:=58) (ty:=ty) W (dLen:=dl) (dCap:=dc) (sLen:=sl) (sCap:=sc) (m:=n - i) (o:=(i+1) * 5) (a:=⟨g,i * 5,none⟩) Tryz.underlying58 hsz r hm hB (hsrcL W r) (by rw [hB,hlen];omega) h1B;have hcp2:=fun (W:World) (r:Row W g 54 (L.take ((i+1) * 5) ++ (xs.drop i).flatMap luCells ++ L.drop ((i+1) * 5+((xs.drop i).flatMap luCells).length))) (rx:Row W vb 54 (luCells x)) (ty:TypeId) (dl dc:Nat) (hm:Nat.min 1 dl=1)=>copyK (P:=Tryz.prog) (dT:=58) (sT:=58) (ty:=ty) W (dLen:=dl) (dCap:=dc) (sLen:=1) (sCap:=1) (m:=1) (o:=i * 5) (a:=⟨vb,0,none⟩) Tryz.underlying58 hsz r hm (by rw [hxl]) (hvsrc W rx) (by rw [hxl];simp only [List.length_append,List.length_take,List.length_drop];omega) (luCells_one x)
   have hfin:=insL2 hA hxl hB (R:=L) (by rw [hlen];omega) hAt
   have hov:∀ lb cb,(callFunc 149 #[.slice (some ⟨vb,0,none⟩) 1 1,.slice (some ⟨g,(i+1) * 5,none⟩) lb cb]).run Tryz.prog w=.ok (.value (.bool false)) w:=fun lb cb=>by
    rw [run_callFunc_extern Tryz.func149 (by kernel_rfl) (by kernel_rfl) (by kernel_rfl) (e:=Extern.SlicesOverlaps.overlaps #[58,58] #[4]) (by kernel_rfl),
     Lib.run_overlaps_apart w 58 4 54 Tryz.underlying58 5 (fun w=>by unfold sizeOf typeInfo;obtain ⟨ii,hii,-,hs2,-⟩:=info_partsK Tryz.infoLU;simp [hii,hs2]) ⟨vb,0,none⟩ ⟨g,(i+1) * 5,none⟩ 1 1 lb cb (fun e'=>hgv e'.symm) 54 54 _ _ (shape_row hv) (shape_row hrow) (by rw [List.size_toArray,hlen];omega) (hv.free 0) (hv.free _)]
    rfl
   have Hcp1:=Lib.hid hcp1;have Hcp2:=Lib.hid hcp2;have HF:Hid (base≤g∧n+1≤c∧c≤9223372036854775807∧L.length=c * 5∧xs.length=n∧i * 5+5+(n - i) * 5=(n+1) * 5∧(n+1) * 5≤c * 5∧((xs.drop i).flatMap luCells).length=(n - i) * 5∧((xs.take i).flatMap luCells).length=i * 5):=Lib.hid ⟨hgB,hroom,hcm,hlen,hl,hnk,hcK,hB,hA⟩;have Hfin:=Lib.hid hfin;have HYS:=Lib.hid hYS;have Hr0:=Lib.hid hrow;have Hv0:=Lib.hid hv;have Hgv:=Lib.hid hgv;have hroomI:(n:Int)+1≤(c:Int):=(by omega);have hroomJ:¬ (c:Int) < (n:Int)+1:=by omega
   have htn:((i:Int)+1).toNat=i+1:=(by omega);have htn2:((n:Int)+1).toNat=n+1:=(by omega);have hc1:¬ c=i+1:=(by omega);have hc0:¬ c=i:=(by omega);have hi01:(0:Int)≤(i:Int)+1:=(by omega);have hin1:(i:Int)+1≤(n:Int)+1:=(by omega);have hin2:(i:Int)≤(n:Int)+1:=(by omega);have hn01:(0:Int)≤(n:Int)+1:=(by omega);clear hYS hcp1 hcp2 hfin hL hAt hA0 hgB hcm hlen hnk hcK hrow hsrcL hold hsrc hA hB hown hv hvsrc h1B hsz hxl e1 hvp hgv hvw
   go_enter Tryz.func134,Tryz.ntmps134
   go_upto_region 15 with (simp only [hov])
   clear hov;have hRr:∀ x,(Only [g]) x x:=fun x=>Only.refl _ _;have hRt:∀ x b e,(Only [g]) x b→(Only [g]) b e→(Only [g]) x e:=fun _ _ _ h k=>h.trans k (fun _ h _=>h);have hRd:(Only [g]) w w.drew:=(Only.drew _).mono (by simp)
   have hRs:∀ j w,DirtR [(8,Only [g])] j w w:=DirtR.refl (by
    intro x hx w;simp only [List.mem_cons,List.not_mem_nil,or_false] at hx
    rcases hx with rfl
    exact Only.refl _ _)
   have hC0:∀ d∈[8],(fun (_:Nat) (a:World)=>Row a g 54 L) d w.drew:=fun _ _=>Hr0.out.only0 (Only.drew _);refine wp_region_rg7 (Only [g]) (DirtR [(8,Only [g])]) (fun (_:Nat) (a:World)=>Row a g 54 L) [8] [[(0,none)],[(1,none)],[(7,none)],[(70,some 1),(71,some 0)],[(69,some 3),(72,some 0)],[(0,none)],[(1,none)],[(74,some 1),(75,some 0)],[(73,some 3),(76,some 0)]] [] [0] [none,none,none,none,none,none,none,none,none,none,none,none,none,none,none,none,none,none,none,none,none,none,none,none,none,none,none,none,none,none,none,none,none,none,none,none,none,none,none,none,none,none,none,none,none,none,none,none,none,none,none,none,none,none,none,none,none,none,none,none,none,none,none,none,none,none,none,none,none,some 69,some 70,some 71,some 72,some 73,some 74,some 75,some 76,some 77,none,none,none,none,none,none,none,none,none,none,none,none,none,none,none,none,none] (by kernel_rfl) rfl (by kernel_rfl) hRr hRt hRs hRd hC0 (by kernel_rfl) (by kernel_rfl) ?_
   apply rg7_ev
   ·rintro a w hR hC ⟨(e0:_=_),-⟩;refine rg_plain rfl fun K hK=>?_;go_simp;exact hK _ _ rfl ⟨hRr _,hRs _ _,fun _ _ _ _ h=>h⟩
   apply rg7_ev
   ·rintro a w hR hC ⟨(e1:_=_),-⟩;refine rg_plain rfl fun K hK=>?_;go_simp;exact hK _ _ rfl ⟨hRr _,hRs _ _,fun _ _ _ _ h=>h⟩
   apply rg7_ev
   ·rintro a w hR hC ⟨(e7:_=_),-⟩;refine rg_plain rfl fun K hK=>?_;go_simp;exact hK _ _ rfl ⟨hRr _,hRs _ _,fun _ _ _ _ h=>h⟩
   apply rg7_ev
   ·rintro a w hR hC ⟨(e70:_=_),(e71:_=_),-⟩;refine rg_plain rfl fun K hK=>?_;go_simp;exact hK _ _ rfl ⟨hRr _,hRs _ _,fun _ _ _ _ h=>h⟩
   apply rg7_ev
   ·rintro a w hR hC ⟨(e69:_=_),(e72:_=_),-⟩;refine rg_plain rfl fun K hK=>?_;go_simp;exact hK _ _ rfl ⟨hRr _,hRs _ _,fun _ _ _ _ h=>h⟩
   apply rg7_ev
   ·rintro a w hR hC ⟨(e0:_=_),-⟩;refine rg_plain rfl fun K hK=>?_;go_simp;exact hK _ _ rfl ⟨hRr _,hRs _ _,fun _ _ _ _ h=>h⟩
   apply rg7_ev
   ·rintro a w hR hC ⟨(e1:_=_),-⟩;refine rg_plain rfl fun K hK=>?_;go_simp;exact hK _ _ rfl ⟨hRr _,hRs _ _,fun _ _ _ _ h=>h⟩
   apply rg7_ev
   ·rintro a w hR hC ⟨(e74:_=_),(e75:_=_),-⟩;refine rg_plain rfl fun K hK=>?_;go_simp;exact hK _ _ rfl ⟨hRr _,hRs _ _,fun _ _ _ _ h=>h⟩
   refine ⟨RowS g 54 (L.take ((i+1) * 5) ++ (xs.drop i).flatMap luCells ++ L.drop ((i+1) * 5+((xs.drop i).flatMap luCells).length)),stands5_of RowS.stable (by intro x hx hk;simp only [List.mem_cons,List.not_mem_nil,or_false] at hx;rcases hx with rfl;exact Bool.noConfusion (hk.symm.trans (by kernel_rfl:_=true))),fun a w hR hC hf=>?_,?_⟩
   ·obtain ⟨e73,e76,-⟩:=hf;replace e73:a.tmps.getD 73 undef=_:=e73;replace e76:a.tmps.getD 76 undef=_:=e76;refine rg_plain rfl fun K hK=>?_;have rz:Row w g 54 L:=hC 8 (by simp) (by kernel_rfl);have hst:=Only.setRow w g ((L.take ((i+1) * 5) ++ (xs.drop i).flatMap luCells ++ L.drop ((i+1) * 5+((xs.drop i).flatMap luCells).length))).toArray;refine rg_copy (s:=.tmp 73) (x:=.tmp 76) rfl e73 e76 (Hcp1.out w rz _ _ _ _ _ (by simp only [Nat.min_def];split <;> omega)) ?_;exact hK _ _ (rz.setRow _) ⟨hst,hst,fun i hi hne ha hc=>absurd hi (by simp;omega)⟩
   intro f15 w15 hR15 hf hl15;dsimp only [mergeT];obtain ⟨l8,-⟩:=hl15;replace l8:∃ v,(RowS g 54 (L.take ((i+1) * 5) ++ (xs.drop i).flatMap luCells ++ L.drop ((i+1) * 5+((xs.drop i).flatMap luCells).length))) v w15:=l8;have r1:Row w15 g 54 (L.take ((i+1) * 5) ++ (xs.drop i).flatMap luCells ++ L.drop ((i+1) * 5+((xs.drop i).flatMap luCells).length)):=(by obtain ⟨v,h⟩:=l8;exact h);have rx:=Hv0.out.only hR15 (by simpa using fun e=>Hgv.out e.symm);obtain ⟨h1,h2,h3,h4,h5,h6,h7,h8,h9⟩:=HF.out;obtain ⟨w4,hw4⟩:∃ w4,w4=w15.setRow g ((L.take ((i+1) * 5) ++ (xs.drop i).flatMap luCells ++ L.drop ((i+1) * 5+((xs.drop i).flatMap luCells).length)).take (i * 5) ++ luCells x ++ (L.take ((i+1) * 5) ++ (xs.drop i).flatMap luCells ++ L.drop ((i+1) * 5+((xs.drop i).flatMap luCells).length)).drop (i * 5+(luCells x).length)).toArray:=⟨_,rfl⟩
   have H2:=fun ty dl dc hm=>Hcp2.out w15 r1 rx ty dl dc hm;have o4:Only [g] w15 w4:=(by rw [hw4];exact Only.setRow _ _ _);have r4:=r1.setRow ((L.take ((i+1) * 5) ++ (xs.drop i).flatMap luCells ++ L.drop ((i+1) * 5+((xs.drop i).flatMap luCells).length)).take (i * 5) ++ luCells x ++ (L.take ((i+1) * 5) ++ (xs.drop i).flatMap luCells ++ L.drop ((i+1) * 5+((xs.drop i).flatMap luCells).length)).drop (i * 5+(luCells x).length));rw [← hw4] at r4 H2;have hxl:=luCells_len x;have e1:(i+1) * 5=i * 5+5:=Nat.succ_mul i 5;rw [e1,hxl,h8,Hfin.out] at r4
   have hE:OwnK w4 base 54 5 (.slice (some ⟨g,0,none⟩) (n+1) c) (n+1) (YS.flatMap luCells):=OwnK.ofRow r4 h1 h2 h3 (by rw [List.length_append,List.length_append,List.length_append,List.length_drop,h9,h8,hxl,h4];omega) (by
    have hlen:((xs.take i).flatMap luCells ++ luCells x ++ (xs.drop i).flatMap luCells).length=(n+1) * 5:=by rw [List.length_append,List.length_append,h9,h8,hxl];omega
    rw [← HYS.out,List.take_left' hlen,List.flatMap_append,List.flatMap_cons,List.append_assoc])
   have HE:Hid (OwnK w4 base 54 5 (.slice (some ⟨g,0,none⟩) (n+1) c) (n+1) (YS.flatMap luCells)∧Only (blk (some (⟨g,0,none⟩:Addr))) w w4∧∀ z∈blk (some (⟨g,0,none⟩:Addr)),z∈blk (some (⟨g,0,none⟩:Addr))∨w.heap.size≤z):=Lib.hid ⟨hE,hR15.trans o4 (fun _ h _=>h),fun z hz=>.inl hz⟩;have H2h:=Lib.hid H2;clear r1 rx h1 h2 h3 h4 h5 h6 h7 h8 h9 H2 o4 r4 hxl e1 hE HF Hfin HYS Hcp1 Hcp2 Hr0 Hv0 Hgv hRr hRt hRd hRs hC0 l8 hw4
   go_upto_region 17 with (fail)
   rw [H2h.out _ _ _ (by simp only [Nat.min_def];split <;> omega)];go_wp2_with fail
   go_ret
   exact ⟨some ⟨g,0,none⟩,c,rfl,HE.out⟩
  ·-- a new block
   have hk:i+(n+1 - i)=n+1:=(by omega);obtain ⟨g2,c2,w2,rest,hr,r2,hrl,hc2,hcm,hg2,o2⟩:=growZ (P:=Tryz.prog) (tn:=3) (kn:=.i64) (kq:=.i64) (ty:=58) (cap:=c) (k:=n+1 - i) w Tryz.underlying58 Tryz.underlying3 Tryz.infoLU rfl (by omega) hold hA (by omega) (by omega) (by omega) (by omega);rw [hk] at hr hc2;have hRl:((xs.take i).flatMap luCells ++ rest).length=c2 * 5:=(by rw [List.length_append,hA];omega);have hcp1:=fun ty dc=>copyK (P:=Tryz.prog) (sT:=58) (ty:=ty) w2 (dLen:=n+1 - i) (dCap:=dc) (sLen:=1) (sCap:=1) (m:=1) (o:=i * 5) (a:=⟨vb,0,none⟩) Tryz.underlying58 hsz r2 (by simp only [Nat.min_def];split <;> omega) (by rw [hxl]) (hvsrc w2 (hv.only0 o2)) (by rw [hxl,hRl];have:=Nat.mul_le_mul_right 5 hc2;omega) (luCells_one x)
   obtain ⟨w3,hw3⟩:∃ w3,w3=w2.setRow g2 (((xs.take i).flatMap luCells ++ rest).take (i * 5) ++ luCells x ++ ((xs.take i).flatMap luCells ++ rest).drop (i * 5+(luCells x).length)).toArray:=⟨_,rfl⟩;have r3:=r2.setRow (((xs.take i).flatMap luCells ++ rest).take (i * 5) ++ luCells x ++ ((xs.take i).flatMap luCells ++ rest).drop (i * 5+(luCells x).length));have o3:Only [g2] w2 w3:=(by rw [hw3];exact Only.setRow _ _ _);rw [← hw3] at r3 hcp1;rw [hxl] at r3;have o13:Only [] w w3:=o2.transN o3 (by simpa using hg2);have e1:(i+1) * 5=i * 5+5:=Nat.succ_mul i 5;have hnk:(n - i) * 5+(i+1) * 5=(n+1) * 5:=by rw [← Nat.add_mul];congr 1;omega
   have hc2K:=Nat.mul_le_mul_right 5 hc2
   have hl3:(((xs.take i).flatMap luCells ++ rest).take (i * 5) ++ luCells x ++ ((xs.take i).flatMap luCells ++ rest).drop (i * 5+5)).length=c2 * 5:=by
    rw [List.length_append,List.length_append,List.length_take,List.length_drop,hRl,hxl];omega
   obtain ⟨L3,hL3⟩:∃ L3,L3=((xs.take i).flatMap luCells ++ rest).take (i * 5) ++ luCells x ++ ((xs.take i).flatMap luCells ++ rest).drop (i * 5+5):=⟨_,rfl⟩;rw [← hL3] at r3 hl3
   have hcp2:=fun (W:World) (ho:Only [g2] w3 W) (r:Row W g2 54 L3) (ty:TypeId) (dl dc sl sc:Nat) (hm:Nat.min sl dl=n - i)=>copyK (P:=Tryz.prog) (dT:=58) (sT:=58) (ty:=ty) W (dLen:=dl) (dCap:=dc) (sLen:=sl) (sCap:=sc) (m:=n - i) (o:=(i+1) * 5) (a:=⟨g,i * 5,none⟩) Tryz.underlying58 hsz r hm hB (fun j v hj=>by
    have h:=hsrc w3 o13 j v hj;rw [Addr.add_lit] at h ⊢
    exact ho.cell h (by simp;omega)) (by rw [hB,hl3];omega) h1B
   have hfin:=insL hA hxl hB (R:=(xs.take i).flatMap luCells ++ rest) (by rw [hRl];omega) (List.take_left' hA);rw [← hL3] at hfin;have HF:Hid (base≤g2∧n+1≤c2∧c2≤9223372036854775807∧((xs.take i).flatMap luCells ++ rest).length=c2 * 5∧(n - i) * 5+(i+1) * 5=(n+1) * 5∧(n+1) * 5≤c2 * 5∧((xs.drop i).flatMap luCells).length=(n - i) * 5∧((xs.take i).flatMap luCells).length=i * 5∧w.heap.size≤g2):=Lib.hid ⟨by omega,hc2,hcm,hRl,hnk,hc2K,hB,hA,hg2⟩;have Hfin:=Lib.hid hfin;have HYS:=Lib.hid hYS;have HO13:=Lib.hid o13;have HR3:=Lib.hid r3
   have Hcp2:=Lib.hid hcp2;have Hr:=Lib.hid hr;have H1:=Lib.hid (hcp1 3);have hroomI:¬ ((n:Int)+1≤(c:Int)):=(by omega);have hroomJ:(c:Int) < (n:Int)+1:=(by omega);have hkz:IntKind.i64.wrap ((n:Int)+1 - (i:Int))=((n+1 - i:Nat):Int):=(by rw [IntKind.wrap_i64];omega);have hkz2:wrap64 ((n:Int)+1 - (i:Int))=((n+1 - i:Nat):Int):=(by rw [IntWalk.wrap64_in _ (by omega)];omega);have htn:((i:Int)+1).toNat=i+1:=(by omega);have hcb:¬ c2=i:=(by omega);have hcb1:¬ c2=i+1:=(by omega);have hcbi:¬ c=i:=by have:=hvw.2.2.2.2.1;omega
   have hic2:(i:Int)≤(c2:Int):=(by omega);have hi01:(0:Int)≤(i:Int)+1:=(by omega);have hin1:(i:Int)+1≤(n:Int)+1:=(by omega);have hci:(i:Int)≤(c:Int):=(by have:=hvw.2.2.2.2.1;omega);clear hYS hr hcp1 hcp2 hfin hL3 r2 r3 o2 o3 o13 hw3 hvw hold hsrc hA hB hRl hl3 hown hv hvsrc h1B hsz hxl hc2K hnk e1 hrl hvp
   go_enter Tryz.func134,Tryz.ntmps134
   go_upto_region 11 with (at_builtin;refine wpl_append (s:=.tmp 34) (x:=.tmp 39) rfl rfl rfl rfl Hr.out ?_)
   have h1:=H1.out (c2 - i);rw [h1];clear h1
   go_upto_region 11 with (fail)
   have hRr:∀ x,(Only [g2]) x x:=fun x=>Only.refl _ _;have hRt:∀ x b e,(Only [g2]) x b→(Only [g2]) b e→(Only [g2]) x e:=fun _ _ _ h k=>h.trans k (fun _ h _=>h);have hRd:(Only [g2]) w3 w3.drew:=(Only.drew _).mono (by simp)
   have hRs:∀ j w,DirtR [(8,Only [g2])] j w w:=DirtR.refl (by
    intro x hx w;simp only [List.mem_cons,List.not_mem_nil,or_false] at hx
    rcases hx with rfl
    exact Only.refl _ _)
   have hC0:∀ d∈[8],(fun (_:Nat) (a:World)=>Row a g2 54 L3) d w3.drew:=fun _ _=>HR3.out.only0 (Only.drew _);refine wp_region_rg7 (Only [g2]) (DirtR [(8,Only [g2])]) (fun (_:Nat) (a:World)=>Row a g2 54 L3) [8] [[(9,none)],[(1,none)],[(7,none)],[(47,some 1),(48,some 0)],[(46,some 3),(49,some 0)],[(0,none)],[(1,none)],[(51,some 1),(52,some 0)],[(50,some 3),(53,some 0)]] [] [0] [none,none,none,none,none,none,none,none,none,none,none,none,none,none,none,none,none,none,none,none,none,none,none,none,none,none,none,none,none,none,none,none,none,none,none,none,none,none,none,none,none,none,none,none,none,none,some 46,some 47,some 48,some 49,some 50,some 51,some 52,some 53,some 54,none,none,none,none,none,none,none,none,none,none,none,none,none,none,none,none,none,none,none,none,none,none,none,none,none,none,none,none,none,none,none,none,none,none,none,none,none,none,none,none] (by kernel_rfl) rfl (by kernel_rfl) hRr hRt hRs hRd hC0 (by kernel_rfl) (by kernel_rfl) ?_
   apply rg7_ev
   ·rintro a w hR hC ⟨(e9:_=_),-⟩;refine rg_plain rfl fun K hK=>?_;go_simp;exact hK _ _ rfl ⟨hRr _,hRs _ _,fun _ _ _ _ h=>h⟩
   apply rg7_ev
   ·rintro a w hR hC ⟨(e1:_=_),-⟩;refine rg_plain rfl fun K hK=>?_;go_simp;exact hK _ _ rfl ⟨hRr _,hRs _ _,fun _ _ _ _ h=>h⟩
   apply rg7_ev
   ·rintro a w hR hC ⟨(e7:_=_),-⟩;refine rg_plain rfl fun K hK=>?_;go_simp;exact hK _ _ rfl ⟨hRr _,hRs _ _,fun _ _ _ _ h=>h⟩
   apply rg7_ev
   ·rintro a w hR hC ⟨(e47:_=_),(e48:_=_),-⟩;refine rg_plain rfl fun K hK=>?_;go_simp;exact hK _ _ rfl ⟨hRr _,hRs _ _,fun _ _ _ _ h=>h⟩
   apply rg7_ev
   ·rintro a w hR hC ⟨(e46:_=_),(e49:_=_),-⟩;refine rg_plain rfl fun K hK=>?_;go_simp;exact hK _ _ rfl ⟨hRr _,hRs _ _,fun _ _ _ _ h=>h⟩
   apply rg7_ev
   ·rintro a w hR hC ⟨(e0:_=_),-⟩;refine rg_plain rfl fun K hK=>?_;go_simp;exact hK _ _ rfl ⟨hRr _,hRs _ _,fun _ _ _ _ h=>h⟩
   apply rg7_ev
   ·rintro a w hR hC ⟨(e1:_=_),-⟩;refine rg_plain rfl fun K hK=>?_;go_simp;exact hK _ _ rfl ⟨hRr _,hRs _ _,fun _ _ _ _ h=>h⟩
   apply rg7_ev
   ·rintro a w hR hC ⟨(e51:_=_),(e52:_=_),-⟩;refine rg_plain rfl fun K hK=>?_;go_simp;exact hK _ _ rfl ⟨hRr _,hRs _ _,fun _ _ _ _ h=>h⟩
   refine ⟨RowS g2 54 (L3.take ((i+1) * 5) ++ (xs.drop i).flatMap luCells ++ L3.drop ((i+1) * 5+((xs.drop i).flatMap luCells).length)),stands5_of RowS.stable (by intro x hx hk;simp only [List.mem_cons,List.not_mem_nil,or_false] at hx;rcases hx with rfl;exact Bool.noConfusion (hk.symm.trans (by kernel_rfl:_=true))),fun a w hR hC hf=>?_,?_⟩
   ·obtain ⟨e50,e53,-⟩:=hf;replace e50:a.tmps.getD 50 undef=_:=e50;replace e53:a.tmps.getD 53 undef=_:=e53;refine rg_plain rfl fun K hK=>?_;have rz:Row w g2 54 L3:=hC 8 (by simp) (by kernel_rfl);have hst:=Only.setRow w g2 ((L3.take ((i+1) * 5) ++ (xs.drop i).flatMap luCells ++ L3.drop ((i+1) * 5+((xs.drop i).flatMap luCells).length))).toArray;refine rg_copy (s:=.tmp 50) (x:=.tmp 53) rfl e50 e53 (Hcp2.out w hR rz _ _ _ _ _ (by simp only [Nat.min_def];split <;> omega)) ?_;exact hK _ _ (rz.setRow _) ⟨hst,hst,fun i hi hne ha hc=>absurd hi (by simp;omega)⟩
   intro f11 w11 hR11 hf hl11;dsimp only [mergeT];obtain ⟨l8,-⟩:=hl11;replace l8:∃ v,(RowS g2 54 (L3.take ((i+1) * 5) ++ (xs.drop i).flatMap luCells ++ L3.drop ((i+1) * 5+((xs.drop i).flatMap luCells).length))) v w11:=l8;have r4:Row w11 g2 54 (L3.take ((i+1) * 5) ++ (xs.drop i).flatMap luCells ++ L3.drop ((i+1) * 5+((xs.drop i).flatMap luCells).length)):=(by obtain ⟨v,h⟩:=l8;exact h);obtain ⟨h1,h2,h3,h4,h5,h6,h7,h8,h9⟩:=HF.out;have hxl:=luCells_len x;have e1:(i+1) * 5=i * 5+5:=Nat.succ_mul i 5;rw [e1,h7,Hfin.out] at r4
   have hE:OwnK w11 base 54 5 (.slice (some ⟨g2,0,none⟩) (n+1) c2) (n+1) (YS.flatMap luCells):=OwnK.ofRow r4 h1 h2 h3 (by rw [List.length_append,List.length_append,List.length_append,List.length_drop,h8,h7,hxl,h4];omega) (by
    have hlen:((xs.take i).flatMap luCells ++ luCells x ++ (xs.drop i).flatMap luCells).length=(n+1) * 5:=by rw [List.length_append,List.length_append,h8,h7,hxl];omega
    rw [← HYS.out,List.take_left' hlen,List.flatMap_append,List.flatMap_cons,List.append_assoc])
   have HE:Hid (OwnK w11 base 54 5 (.slice (some ⟨g2,0,none⟩) (n+1) c2) (n+1) (YS.flatMap luCells)∧Only (blk (some (⟨g,0,none⟩:Addr))) w w11∧∀ z∈blk (some (⟨g2,0,none⟩:Addr)),z∈blk (some (⟨g,0,none⟩:Addr))∨w.heap.size≤z):=Lib.hid ⟨hE,((HO13.out.transN hR11 (by simpa using h9))).mono (by simp),fun z hz=>.inr (by simp [blk] at hz;omega)⟩;clear r4 h1 h2 h3 h4 h5 h6 h7 h8 h9 hxl e1 hE HF Hfin HYS HO13 HR3 Hcp2 hRr hRt hRd hRs hC0 l8;go_wp2_with fail
   go_ret
   exact ⟨some ⟨g2,0,none⟩,c2,rfl,HE.out⟩
end
end Go.Proofs.YtfeglnpmpgipiaaGreatDoor
