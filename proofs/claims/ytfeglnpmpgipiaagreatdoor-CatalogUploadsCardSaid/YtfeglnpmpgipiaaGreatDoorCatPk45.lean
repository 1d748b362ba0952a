/- CatPk, part 45: CatUplW. -/
import Derived.Test.YtfeglnpmpgipiaaGreatDoorCatPk28
import Derived.Test.YtfeglnpmpgipiaaGreatDoorCatPk31
set_option linter.unusedVariables false
set_option maxRecDepth 100000
set_option linter.unusedSimpArgs false
namespace Go.Proofs.YtfeglnpmpgipiaaGreatDoor
section
open Go.RowKit
def zUpl:CUpl:=⟨⟨0,0,0⟩,[],[]⟩
def UplQ (L:LCat) (bk ky:Bs) (id:Cid) (w0:World):Ending→World→Prop:=fun e w'=>∃ x:LUpl,e=.returned (.tuple #[luV x,.bool (findU L.cat bk ky id).isSome])∧x.u=(findU L.cat bk ky id).getD zUpl∧UpOwn w' w0.heap.size x∧Only [] w0 w'
theorem atU_eq {b:LBk} {id:Cid} {j:Nat} (hj:posL LUpl.id ltI b.us id=j):atL CUpl.id ltI b.b.upls id=if thereL LUpl.id ltI b.us id=true then (b.us[j]?).map LUpl.u else none:=by
 unfold atL;rw [show b.b.upls=b.us.map LUpl.u from rfl,thereL_map (key:=LUpl.id) LUpl.u (fun _=>rfl),posL_map (key:=LUpl.id) LUpl.u (fun _=>rfl),hj,List.getElem?_map]
set_option maxHeartbeats 16000000 in
theorem catUpload_any (L:LCat) (bk ky:Bs) (id:Cid) (w0:World) (hA:CatAt w0 L) (hok:CatOk L.cat):Calls Tryz.prog 23 #[lcV L,.string (str bk),.string (str ky),idV id] w0 (UplQ L bk ky id w0):=by
 obtain ⟨nb,hnb⟩:∃ n,L.bs.length=n:=⟨_,rfl⟩;obtain ⟨nf,hnf⟩:∃ n,L.fs.length=n:=⟨_,rfl⟩;obtain ⟨pb,hpb⟩:∃ p,L.pb=p:=⟨_,rfl⟩;obtain ⟨w1,hw1⟩:∃ w1,w1=w0.alloc (.cells #[.slice pb nb L.cb,.slice L.pf nf L.cf] 29):=⟨_,rfl⟩;have o1:Only [] w0 w1:=(by rw [hw1];exact Only.alloc _ _);have s1:w1.heap.size=w0.heap.size+1:=(by rw [hw1];simp);have r1:Row w1 (w0.heap.size) 29 [.slice pb nb L.cb,.slice L.pf nf L.cf]:=(by rw [hw1];exact Row.newOf _ _ _ _ rfl);obtain ⟨w2,hw2⟩:∃ w2,w2=w1.alloc (.cells #[.int .i64 id.node,.int .i64 id.boot,.int .i64 id.seq] 31):=⟨_,rfl⟩
 have o2:Only [] w1 w2:=(by rw [hw2];exact Only.alloc _ _);have s2:w2.heap.size=w0.heap.size+1+1:=(by rw [hw2];simp [s1]);have r2:Row w2 (w0.heap.size+1) 31 [.int .i64 id.node,.int .i64 id.boot,.int .i64 id.seq]:=(by rw [← s1,hw2];exact Row.newOf _ _ _ _ rfl);obtain ⟨w3,hw3⟩:∃ w3,w3=w2.alloc (.cells #[.int .i64 0,.int .i64 0,.int .i64 0,.string ⟨#[]⟩,.slice none 0 0] 54):=⟨_,rfl⟩;have o3:Only [] w2 w3:=(by rw [hw3];exact Only.alloc _ _);have s3:w3.heap.size=w0.heap.size+1+1+1:=(by rw [hw3];simp [s2]);have r3:Row w3 (w0.heap.size+1+1) 54 [.int .i64 0,.int .i64 0,.int .i64 0,.string ⟨#[]⟩,.slice none 0 0]:=by rw [← s2,hw3];exact Row.newOf _ _ _ _ rfl
 replace r1:=r1.only0 (o2.trans0 o3);replace r2:=r2.only0 o3;have oAll:Only [] w0 w3:=((o1.trans0 o2).trans0 o3);rw [hw1] at hw2;rw [hw2] at hw3;have hnb16:nb≤16:=(by have:=hok.bl;rw [show L.cat.bucks.length=L.bs.length from List.length_map ..] at this;omega);obtain ⟨i,hi⟩:∃ i,posL LBk.name lt L.bs bk=i:=⟨_,rfl⟩;obtain ⟨th,hth⟩:∃ th,thereL LBk.name lt L.bs bk=th:=⟨_,rfl⟩;have hbs:SortB LBk.name lt L.bs:=sortB_map (key:=LBk.name) LBk.b (fun _=>rfl) hok.bs;have hfd:=findBk_any L.pb nb L.cb L.bs bk w3 hnb (by omega) (fun h0=>by rw [← hnb];exact (hA.sb.2.1 h0).1) (hA.sb.only0 oAll).1 hbs
 rw [hi,hth,hpb] at hfd;have hfb:=findB_eq (bk:=bk) hi;rw [hth] at hfb;have Hfb:=Lib.hid hfb;have HF:=Lib.hid hfd;have HA:=Lib.hid hA;have Hok:=Lib.hid hok;have HO:=Lib.hid oAll;have Hw:=Lib.hid hw3;have Hr1:=Lib.hid r1;have Hr2:=Lib.hid r2;have Hr3:=Lib.hid r3;have HH:Hid (L.bs.length=nb∧L.pb=pb∧posL LBk.name lt L.bs bk=i∧thereL LBk.name lt L.bs bk=th):=Lib.hid ⟨hnb,hpb,hi,hth⟩;rw [show lcV L=.agg #[.slice pb nb L.cb,.slice L.pf nf L.cf] by unfold lcV;rw [hnb,hnf,hpb]];unfold idV;have c0:=r1.cell (i:=0) rfl;clear hnb hnf hpb hi hth hbs hfd hA hok oAll hw3 s3 s2 s1 o1 o2 o3 hw1 hw2 r1 r2 r3 hfb
 go_enter Tryz.func23,Tryz.ntmps23
 go_upto_region 1 with (fail)
 rw [← Hw.out];clear Hw;go_wp2_with fail;refine HF.out.mono ?_;rintro e w4 ⟨rfl,o4⟩;clear HF c0;have HO4:=Lib.hid o4
 cases th with
 | false =>
  have Hfn:Hid (findU L.cat bk ky id=none):=Lib.hid (by unfold findU;rw [Hfb.out,if_neg (by simp)];rfl);have hz:=Hr3.out.only0 o4;have z0:=hz.cell (i:=0) rfl;have z1:=hz.cell (i:=1) rfl;have z2:=hz.cell (i:=2) rfl;have z3:=hz.cell (i:=3) rfl;have z4:=hz.cell (i:=4) rfl;have f0:=hz.free 0;have f1:=hz.free 1;have f2:=hz.free 2;have f3:=hz.free 3;have f4:=hz.free 4;obtain ⟨wz,hwz⟩:∃ wz,wz=(((((w4.setCell ⟨w0.heap.size+1+1,0,none⟩ (.int .i64 0)).setCell ⟨w0.heap.size+1+1,1,none⟩ (.int .i64 0)).setCell ⟨w0.heap.size+1+1,2,none⟩ (.int .i64 0)).setCell ⟨w0.heap.size+1+1,3,none⟩ (.string ⟨#[]⟩)).setCell ⟨w0.heap.size+1+1,4,none⟩ (.slice none 0 0)):=⟨_,rfl⟩
  have hrz:=Row.set5 hz (.int .i64 0) (.int .i64 0) (.int .i64 0) (.string ⟨#[]⟩) (.slice none 0 0);have hst:=only_set5 w4 (w0.heap.size+1+1) (.int .i64 0) (.int .i64 0) (.int .i64 0) (.string ⟨#[]⟩) (.slice none 0 0);rw [← hwz] at hrz hst;have HE:Hid (Only [] w0 wz):=Lib.hid ((HO.out.trans0 o4).transN hst (fun z hz=>by rw [List.mem_singleton.1 hz];omega));have Hrz:=Lib.hid hrz;have Hwz:=Lib.hid hwz;clear hwz hrz hst;clear hz o4;go_wp2_with fail;rw [← Hwz.out];refine bodyPost_ret (results_c2 rfl _ _ _ rfl Hrz.out Tryz.underlying54 luInfo) rfl ⟨⟨zUpl,none,0⟩,?_,?_,OwnK.nil _ _ _ _,HE.out⟩
  ·rw [Hfn.out];rfl
  ·rw [Hfn.out];rfl
 | true =>
  obtain ⟨b,hb,-⟩:=there_at HH.out.2.2.2;rw [HH.out.2.2.1] at hb;have hfb2:findB L.cat bk=some b.b:=(by rw [Hfb.out,if_pos (by trivial),hb];rfl);have hilt:i < nb:=(by have:=(List.getElem?_eq_some_iff.1 hb).1;have:=HH.out.1;omega);have hbm:=List.mem_of_getElem? hb;have hbk:BkOk b.b:=Hok.out.bk _ (List.mem_map_of_mem hbm);obtain ⟨nu,hnu⟩:∃ n,b.us.length=n:=⟨_,rfl⟩;have hnul:nu≤16:=(by have:=hbk.ul;rw [show b.b.upls.length=b.us.length from List.length_map ..] at this;omega);have hrd:=(HA.out.sb.only0 (HO.out.trans0 o4)).1;have hne:L.bs.flatMap lbCells≠[]:=fun e'=>by have:=flat_get lbCells 5 lbCells_len L.bs _ b 0 hb (by omega);rw [e'] at this;cases this
  obtain ⟨bq,off,hg,-⟩:=hrd.lt hne;rw [hg] at hrd;obtain rfl:=HH.out.2.1.symm.trans hg;have d4:=rd_elem lbCells_len hrd hb (r:=4) rfl;rw [Addr.add_lit,← Nat.add_assoc] at d4;rw [hnu] at d4;obtain ⟨pu,hpu⟩:∃ p,b.pu=p:=⟨_,rfl⟩;rw [hpu] at d4;obtain ⟨j,hj⟩:∃ j,posL LUpl.id ltI b.us id=j:=⟨_,rfl⟩;obtain ⟨t2,ht2⟩:∃ t,thereL LUpl.id ltI b.us id=t:=⟨_,rfl⟩;have hss:SortB LUpl.id ltI b.us:=sortB_map (key:=LUpl.id) LUpl.u (fun _=>rfl) hbk.us;have hBA:=HA.out.bk b hbm;have hfd:=fun (W:World) (h:Only [] w0 W)=>findUp_any b.pu nu b.cu b.us id W hnu (by omega) (fun h0=>by rw [← hnu];exact (hBA.su.2.1 h0).1) (hBA.su.only0 h).1 hss
  rw [hj,ht2,hpu] at hfd;unfold idV at hfd;have HF:=Lib.hid hfd;have hao:=atU_eq (b:=b) hj;rw [ht2] at hao;have HG:Hid (atL CUpl.id ltI b.b.upls id=(if t2=true then (b.us[j]?).map LUpl.u else none)∧BkAt w0 b∧BkOk b.b∧b.us.length=nu∧b.pu=pu∧posL LUpl.id ltI b.us id=j∧thereL LUpl.id ltI b.us id=t2∧findB L.cat bk=some b.b):=Lib.hid ⟨hao,hBA,hbk,hnu,hpu,hj,ht2,hfb2⟩;have c0:=(Hr1.out.only0 o4).cell (i:=0) rfl;have e0:=(Hr2.out.only0 o4).cell (i:=0) rfl;have e1:=(Hr2.out.only0 o4).cell (i:=1) rfl;have e2:=(Hr2.out.only0 o4).cell (i:=2) rfl
  have hii:(i:Int) < (nb:Int):=(by omega);clear hb hfb2 hilt hbm hbk hnu hrd hne hg hpu hj ht2 hss hBA hfd hao o4
  go_upto_region 4 with (fail)
  refine wp_region_rg2 (Only []) [[(4,none)],[(24,some 0)],[(10,none)],[(25,some 1),(26,some 0)],[(27,some 0)],[(28,some 0)],[(7,none)],[(29,some 1),(30,some 0)],[(31,some 0)],[(23,some 0)],[(23,some 1)],[(32,some 1)],[(33,some 1)]] [(11,0),(12,1)] [none,none,none,none,none,none,none,none,none,none,none,some 11,some 12,none,none,none,none,none,none,none,none,none,none,some 23,some 24,some 25,some 26,some 27,some 28,some 29,some 30,some 31,some 32,some 33,none,none,none,none,none,none,none,none,none,none,none,none,none,none,none,none,none,none,none,none,none,none,none,none,none,none,none] (by kernel_rfl) rfl (by kernel_rfl) (fun _=>Only.refl _ _) (fun _ _ _ h k=>h.trans0 k) (Only.drew _) (by kernel_rfl) ?_
  apply rg_ev
  ·rintro a w hR ⟨(e4:_=_),-⟩;refine rg_plain rfl fun K hK=>?_;go_simp;exact hK _ _ rfl (Only.refl _ _)
  apply rg_ev
  ·rintro a w hR ⟨(e24:_=_),-⟩;refine rg_plain rfl fun K hK=>?_;have g0:=hR.cell c0 (by simp);go_simp;exact hK _ _ rfl (Only.refl _ _)
  apply rg_ev
  ·rintro a w hR ⟨(e10:_=_),-⟩;refine rg_plain rfl fun K hK=>?_;go_simp;exact hK _ _ rfl (Only.refl _ _)
  apply rg_ev
  ·rintro a w hR ⟨(e25:_=_),(e26:_=_),-⟩;refine rg_plain rfl fun K hK=>?_;have hlti:(i:Int) < (nb:Int):=hii;go_simp;exact hK _ _ rfl (Only.refl _ _)
  apply rg_ev
  ·rintro a w hR ⟨(e27:_=_),-⟩;refine rg_plain rfl fun K hK=>?_;go_simp;exact hK _ _ rfl (Only.refl _ _)
  apply rg_ev
  ·rintro a w hR ⟨(e28:_=_),-⟩;refine rg_plain rfl fun K hK=>?_;have g4:=hR.cell d4 (by simp);go_simp;exact hK _ _ rfl (Only.refl _ _)
  apply rg_ev
  ·rintro a w hR ⟨(e7:_=_),-⟩;refine rg_plain rfl fun K hK=>?_;have g0:=hR.cell e0 (by simp);have g1:=hR.cell e1 (by simp);have g2:=hR.cell e2 (by simp);go_simp;exact hK _ _ rfl (Only.refl _ _)
  apply rg_ev
  ·rintro a w hR ⟨(e29:_=_),(e30:_=_),-⟩;refine rg_plain rfl fun K hK=>?_;go_simp;(with_reducible refine (HF.out w ((HO.out.trans0 HO4.out).trans0 hR)).mono ?_);rintro e w' ⟨rfl,o'⟩;exact hK _ _ rfl o'
  apply rg_ev
  ·rintro a w hR ⟨(e31:_=_),-⟩;refine rg_plain rfl fun K hK=>?_;go_simp;exact hK _ _ rfl (Only.refl _ _)
  apply rg_ev
  ·rintro a w hR ⟨(e23:_=_),-⟩;refine rg_plain rfl fun K hK=>?_;go_simp;exact hK _ _ rfl (Only.refl _ _)
  apply rg_ev
  ·rintro a w hR ⟨(e23:_=_),-⟩;refine rg_plain rfl fun K hK=>?_;go_simp;exact hK _ _ rfl (Only.refl _ _)
  apply rg_ev
  ·rintro a w hR ⟨(e32:_=_),-⟩;refine rg_plain rfl fun K hK=>?_;go_simp;exact hK _ _ rfl (Only.refl _ _)
  apply rg_ev
  ·rintro a w hR ⟨(e33:_=_),-⟩;refine rg_plain rfl fun K hK=>?_;go_simp;exact hK _ _ rfl (Only.refl _ _)
  intro f4r w4r hR4 hf;dsimp only [mergeT];obtain ⟨e11,e12,-⟩:=hf;replace e11:f4r 11=_:=e11;rw [e11];replace e12:f4r 12=_:=e12;rw [e12];have HO5:=Lib.hid (HO4.out.trans0 hR4);have c0':=hR4.cell c0 (by simp);have d4':=hR4.cell d4 (by simp);clear HF d4 c0 e0 e1 e2 hR4
  cases t2 with
  | false =>
   have Hfn:Hid (findU L.cat bk ky id=none):=Lib.hid (by unfold findU;rw [HG.out.2.2.2.2.2.2.2];show (atL CUpl.id ltI b.b.upls id).bind _=none;rw [HG.out.1,if_neg (by simp)];rfl);have hz:=Hr3.out.only0 HO5.out;have z0:=hz.cell (i:=0) rfl;have z1:=hz.cell (i:=1) rfl;have z2:=hz.cell (i:=2) rfl;have z3:=hz.cell (i:=3) rfl;have z4:=hz.cell (i:=4) rfl;have f0:=hz.free 0;have f1:=hz.free 1;have f2:=hz.free 2;have f3:=hz.free 3;have f4:=hz.free 4;obtain ⟨wz,hwz⟩:∃ wz,wz=(((((w4r.setCell ⟨w0.heap.size+1+1,0,none⟩ (.int .i64 0)).setCell ⟨w0.heap.size+1+1,1,none⟩ (.int .i64 0)).setCell ⟨w0.heap.size+1+1,2,none⟩ (.int .i64 0)).setCell ⟨w0.heap.size+1+1,3,none⟩ (.string ⟨#[]⟩)).setCell ⟨w0.heap.size+1+1,4,none⟩ (.slice none 0 0)):=⟨_,rfl⟩
   have hrz:=Row.set5 hz (.int .i64 0) (.int .i64 0) (.int .i64 0) (.string ⟨#[]⟩) (.slice none 0 0);have hst:=only_set5 w4r (w0.heap.size+1+1) (.int .i64 0) (.int .i64 0) (.int .i64 0) (.string ⟨#[]⟩) (.slice none 0 0);rw [← hwz] at hrz hst;have HE:Hid (Only [] w0 wz):=Lib.hid ((HO.out.trans0 HO5.out).transN hst (fun z hz=>by rw [List.mem_singleton.1 hz];omega));have Hrz:=Lib.hid hrz;have Hwz:=Lib.hid hwz;clear hwz hrz hst;clear hz;go_wp2_with fail;rw [← Hwz.out];refine bodyPost_ret (results_c2 rfl _ _ _ rfl Hrz.out Tryz.underlying54 luInfo) rfl ⟨⟨zUpl,none,0⟩,?_,?_,OwnK.nil _ _ _ _,HE.out⟩
   ·rw [Hfn.out];rfl
   ·rw [Hfn.out];rfl
  | true =>
   obtain ⟨x,hx,-⟩:=there_at HG.out.2.2.2.2.2.2.1;rw [HG.out.2.2.2.2.2.1] at hx;have hjlt:j < nu:=(by have:=(List.getElem?_eq_some_iff.1 hx).1;have:=HG.out.2.2.2.1;omega);have hxm:=List.mem_of_getElem? hx;have hrd:=(HG.out.2.1.su.only0 (HO.out.trans0 HO5.out)).1;have hne:b.us.flatMap luCells≠[]:=fun e'=>(by have:=flat_get luCells 5 luCells_len b.us _ x 0 hx (by omega);rw [e'] at this;cases this);obtain ⟨bp,op,hg2,-⟩:=hrd.lt hne;rw [hg2] at hrd;obtain rfl:=HG.out.2.2.2.2.1.symm.trans hg2;have x0:=rd_elem luCells_len hrd hx (r:=0) rfl;have x1:=rd_elem luCells_len hrd hx (r:=1) rfl
   have x2:=rd_elem luCells_len hrd hx (r:=2) rfl;have x3:=rd_elem luCells_len hrd hx (r:=3) rfl;have x4:=rd_elem luCells_len hrd hx (r:=4) rfl;rw [Addr.add_lit,← Nat.add_assoc] at x0 x1 x2 x3 x4;rw [Nat.add_zero] at x0;have hpl:x.u.parts.length≤1000000:=Nat.le_trans (HG.out.2.2.1.up x.u (List.mem_map_of_mem hxm)).len (by omega)
   have hfu:findU L.cat bk ky id=if x.u.key=ky then some x.u else none:=by
    unfold findU;rw [HG.out.2.2.2.2.2.2.2];show (atL CUpl.id ltI b.b.upls id).bind _=_;rw [HG.out.1,if_pos (by trivial),hx]
    rfl
   have hkk:=str_eqb x.u.key ky;have hjj:(j:Int) < (nu:Int):=(by omega);have hup:=(HG.out.2.1.up x hxm).only0 (HO.out.trans0 HO5.out);have Hup:=Lib.hid hup;have Hpl:=Lib.hid hpl;have Hfu:=Lib.hid hfu;clear hx hjlt hxm hrd hne hg2 hpl hfu hup
   by_cases hkey:x.u.key=ky
   ·rw [decide_eq_true hkey] at hkk;have Hfn:=Lib.hid (Hfu.out.trans (if_pos hkey));have hcp:=copyUpload_any x w4r Hup.out Hpl.out;unfold luV at hcp;have HC:=Lib.hid hcp;clear hcp hkey;go_wp2_with fail;refine HC.out.mono ?_;rintro e w6 ⟨q,c,rfl,hown,o6⟩;clear HC d4' c0' x0 x1 x2 x3 x4 hkk;obtain ⟨np,hnp⟩:∃ n,x.u.parts.length=n:=⟨_,rfl⟩;have hz:=Hr3.out.only0 (HO5.out.trans0 o6);have z0:=hz.cell (i:=0) rfl;have z1:=hz.cell (i:=1) rfl;have z2:=hz.cell (i:=2) rfl;have z3:=hz.cell (i:=3) rfl;have z4:=hz.cell (i:=4) rfl;have f0:=hz.free 0;have f1:=hz.free 1
    have f2:=hz.free 2;have f3:=hz.free 3;have f4:=hz.free 4;obtain ⟨wz,hwz⟩:∃ wz,wz=(((((w6.setCell ⟨w0.heap.size+1+1,0,none⟩ (.int .i64 x.u.id.node)).setCell ⟨w0.heap.size+1+1,1,none⟩ (.int .i64 x.u.id.boot)).setCell ⟨w0.heap.size+1+1,2,none⟩ (.int .i64 x.u.id.seq)).setCell ⟨w0.heap.size+1+1,3,none⟩ (.string (str x.u.key))).setCell ⟨w0.heap.size+1+1,4,none⟩ (.slice q np c)):=⟨_,rfl⟩;have hrz:=Row.set5 hz (.int .i64 x.u.id.node) (.int .i64 x.u.id.boot) (.int .i64 x.u.id.seq) (.string (str x.u.key)) (.slice q np c);have hst:=only_set5 w6 (w0.heap.size+1+1) (.int .i64 x.u.id.node) (.int .i64 x.u.id.boot) (.int .i64 x.u.id.seq) (.string (str x.u.key)) (.slice q np c)
    rw [← hwz] at hrz hst;have hlo:=hown.view.2.2.2.2.2.2;have hsz4:w0.heap.size+1+1 < w4r.heap.size:=(Hr3.out.only0 HO5.out).lt;have HE:Hid (UpOwn wz w0.heap.size ⟨x.u,q,c⟩∧Only [] w0 wz∧x.u.parts.length=np):=Lib.hid ⟨(hown.onlyB hst (fun z hz hm=>by have:=(hlo z hz).1;rw [List.mem_singleton.1 hm] at this;omega)).weaken (show w0.heap.size≤w4r.heap.size by omega),((HO.out.trans0 HO5.out).trans0 o6).transN hst (fun z hz=>by rw [List.mem_singleton.1 hz];omega),hnp⟩;have Hrz:=Lib.hid hrz;have Hwz:=Lib.hid hwz;rw [hnp];clear hown o6 hnp hz hwz hrz hst hlo
    go_wp2_with fail;rw [← Hwz.out];refine bodyPost_ret (results_c2 rfl _ _ _ rfl Hrz.out Tryz.underlying54 luInfo) rfl ⟨⟨x.u,q,c⟩,?_,?_,HE.out.1,HE.out.2.1⟩
    ·rw [Hfn.out];unfold luV;dsimp only;rw [HE.out.2.2];rfl
    ·rw [Hfn.out];rfl
   ·rw [decide_eq_false hkey] at hkk;have Hfn:=Lib.hid (Hfu.out.trans (if_neg hkey));have hz:=Hr3.out.only0 HO5.out;have z0:=hz.cell (i:=0) rfl;have z1:=hz.cell (i:=1) rfl;have z2:=hz.cell (i:=2) rfl;have z3:=hz.cell (i:=3) rfl;have z4:=hz.cell (i:=4) rfl;have f0:=hz.free 0;have f1:=hz.free 1;have f2:=hz.free 2;have f3:=hz.free 3;have f4:=hz.free 4;obtain ⟨wz,hwz⟩:∃ wz,wz=(((((w4r.setCell ⟨w0.heap.size+1+1,0,none⟩ (.int .i64 0)).setCell ⟨w0.heap.size+1+1,1,none⟩ (.int .i64 0)).setCell ⟨w0.heap.size+1+1,2,none⟩ (.int .i64 0)).setCell ⟨w0.heap.size+1+1,3,none⟩ (.string ⟨#[]⟩)).setCell ⟨w0.heap.size+1+1,4,none⟩ (.slice none 0 0)):=⟨_,rfl⟩
    have hrz:=Row.set5 hz (.int .i64 0) (.int .i64 0) (.int .i64 0) (.string ⟨#[]⟩) (.slice none 0 0);have hst:=only_set5 w4r (w0.heap.size+1+1) (.int .i64 0) (.int .i64 0) (.int .i64 0) (.string ⟨#[]⟩) (.slice none 0 0);rw [← hwz] at hrz hst;have HE:Hid (Only [] w0 wz):=Lib.hid ((HO.out.trans0 HO5.out).transN hst (fun z hz=>by rw [List.mem_singleton.1 hz];omega));have Hrz:=Lib.hid hrz;have Hwz:=Lib.hid hwz;clear hwz hrz hst;clear hz hkey;go_wp2_with fail;rw [← Hwz.out];refine bodyPost_ret (results_c2 rfl _ _ _ rfl Hrz.out Tryz.underlying54 luInfo) rfl ⟨⟨zUpl,none,0⟩,?_,?_,OwnK.nil _ _ _ _,HE.out⟩
    ·rw [Hfn.out];rfl
    ·rw [Hfn.out];rfl
end
end Go.Proofs.YtfeglnpmpgipiaaGreatDoor
