/- CatPk, part 33: CatBk5W. -/
import Derived.Test.YtfeglnpmpgipiaaGreatDoorCatPk28
import Derived.Test.YtfeglnpmpgipiaaGreatDoorCatPk32
set_option linter.unusedVariables false
set_option maxRecDepth 100000
set_option linter.unusedSimpArgs false
namespace Go.Proofs.YtfeglnpmpgipiaaGreatDoor
section
open Go.RowKit
set_option maxHeartbeats 16000000 in
theorem inBk5_any (b:LBk) (m:LCmd) (g o B:Nat) (cur:List Value) (w0:World) (hrow:Row w0 g 60 cur) (hat:RecAt o cur (lbCells b)) (hown:BkOwn w0 B b) (hg:g ∉ b.fp) (hB:B≤w0.heap.size) (hbo:BkOk b.b) (hx:CmdOk m.x) (hca:CmAt w0 m) (hk:m.x.kind=5) :
  Calls Tryz.prog 57 #[.pointer (some ⟨g,o,none⟩),lmV m] w0 (InBkQ b m g o B cur w0):=by
 obtain ⟨np,hnp⟩:∃ n,m.x.parts.length=n:=⟨_,rfl⟩;obtain ⟨nu,hnu⟩:∃ n,b.us.length=n:=⟨_,rfl⟩;obtain ⟨no,hno⟩:∃ n,b.os.length=n:=⟨_,rfl⟩;have hnol:no≤128:=(by have:=hbo.ol;rw [show b.b.objs.length=b.os.length from List.length_map ..] at this;omega);have hnul:nu≤16:=(by have:=hbo.ul;rw [show b.b.upls.length=b.us.length from List.length_map ..] at this;omega);obtain ⟨w1,hw1⟩:∃ w1,w1=w0.alloc (.cells #[.int .i64 5,.int .i64 m.x.id.node,.int .i64 m.x.id.boot,.int .i64 m.x.id.seq,.string (str m.x.bucket),.string (str m.x.key),.int .i64 m.x.upload.node,.int .i64 m.x.upload.boot,.int .i64 m.x.upload.seq,.int .i64 m.x.piece.blob.node,.int .i64 m.x.piece.blob.boot,.int .i64 m.x.piece.blob.seq,.int .i64 m.x.piece.size,.string (str m.x.piece.etag),.int .i64 m.x.part,.slice m.p np m.c,.int .i64 m.x.time,.int .i64 m.x.days] 36):=⟨_,rfl⟩
 have o1:Only [] w0 w1:=(by rw [hw1];exact Only.alloc _ _);have s1:w1.heap.size=w0.heap.size+1:=(by rw [hw1];simp);have r1:Row w1 (w0.heap.size) 36 [.int .i64 5,.int .i64 m.x.id.node,.int .i64 m.x.id.boot,.int .i64 m.x.id.seq,.string (str m.x.bucket),.string (str m.x.key),.int .i64 m.x.upload.node,.int .i64 m.x.upload.boot,.int .i64 m.x.upload.seq,.int .i64 m.x.piece.blob.node,.int .i64 m.x.piece.blob.boot,.int .i64 m.x.piece.blob.seq,.int .i64 m.x.piece.size,.string (str m.x.piece.etag),.int .i64 m.x.part,.slice m.p np m.c,.int .i64 m.x.time,.int .i64 m.x.days]:=by rw [hw1];exact Row.newOf _ _ _ _ rfl
 obtain ⟨w2,hw2⟩:∃ w2,w2=w1.alloc (.cells #[.int .i64 0,.string ⟨#[]⟩] 38):=⟨_,rfl⟩;have o2:Only [] w1 w2:=(by rw [hw2];exact Only.alloc _ _);have s2:w2.heap.size=w0.heap.size+1+1:=(by rw [hw2];simp [s1]);have r2:Row w2 (w0.heap.size+1) 38 [.int .i64 0,.string ⟨#[]⟩]:=(by rw [← s1,hw2];exact Row.newOf _ _ _ _ rfl);replace r1:=r1.only0 o2;have oAll:Only [] w0 w2:=(o1.trans0 o2);rw [hw1] at hw2;have hatc:=hat;unfold lbCells at hatc;rw [hno,hnu] at hatc;have hfpl:=hown.lo;have Hr1:=Lib.hid r1;have Hr2:=Lib.hid r2;have HO:=Lib.hid oAll;have Hw:=Lib.hid hw2
 have Hsz:Hid (w2.heap.size=w0.heap.size+1+1):=Lib.hid s2;have Hrow:=Lib.hid (hrow.only0 oAll);have Hat:=Lib.hid hatc;have HH:Hid (BkOwn w0 B b∧g ∉ b.fp∧Row w0 g 60 cur∧RecAt o cur (lbCells b)∧(∀ z∈b.fp,B≤z∧z < w0.heap.size)∧b.us.length=nu∧b.os.length=no∧B≤w0.heap.size∧BkOk b.b∧CmdOk m.x∧CmAt w0 m∧m.x.parts.length=np):=Lib.hid ⟨hown,hg,hrow,hat,hfpl,hnu,hno,hB,hbo,hx,hca,hnp⟩;have Hk:=Lib.hid hk;have hgl:g < w0.heap.size:=hrow.lt;have m0:=r1.cell (i:=0) rfl;have m1:=r1.cell (i:=1) rfl;have m2:=r1.cell (i:=2) rfl
 have m3:=r1.cell (i:=3) rfl;have m5:=r1.cell (i:=5) rfl;rw [show lmV m=.agg #[.int .i64 5,.int .i64 m.x.id.node,.int .i64 m.x.id.boot,.int .i64 m.x.id.seq,.string (str m.x.bucket),.string (str m.x.key),.int .i64 m.x.upload.node,.int .i64 m.x.upload.boot,.int .i64 m.x.upload.seq,.int .i64 m.x.piece.blob.node,.int .i64 m.x.piece.blob.boot,.int .i64 m.x.piece.blob.seq,.int .i64 m.x.piece.size,.string (str m.x.piece.etag),.int .i64 m.x.part,.slice m.p np m.c,.int .i64 m.x.time,.int .i64 m.x.days] by unfold lmV;rw [hnp,hk]];clear hrow hat hown hg hB hbo hx hca hnp hnu hno hatc hfpl r1 r2 oAll hw2 s2 s1 o1 o2 hw1 hk
 go_enter Tryz.func57,Tryz.ntmps57
 go_upto_region 1 with (fail)
 rw [← Hw.out];have z4:=Hat.out.cell Hrow.out (r:=4) rfl;have HRO:=Lib.hid Hr2.out
 by_cases h16:16≤nu
 ·have h16i:(16:Int)≤(nu:Int):=(by omega);obtain ⟨hown,hg,hrow,hat,hfpl,hnu,hno,hB,hbo,hx,hca,hnp⟩:=HH.out
  have HE0:Hid (inBuck smL b.b m.x=(b.b,⟨7,[]⟩)∧BkRes w0 w2 B g o cur b [] cur b∧w0.heap.size+1 ∉ b.fp):=Lib.hid ⟨by
   unfold inBuck
   rw [if_neg (by have:=Hk.out;omega),if_neg (by have:=Hk.out;omega),if_pos Hk.out,if_pos (by rw [show b.b.upls.length=b.us.length from List.length_map ..];omega)],BkRes.refl hrow hat hown _ HO.out,fun hm=>by have:=(hfpl _ hm).2;omega⟩
  clear hown hg hrow hat hfpl hnu hno hB hbo hx hca hnp;go_wp2_with fail;refine (done_any 7 w2).mono ?_;rintro e w9 ⟨rfl,o9⟩;unfold oucV;have rO:=HRO.out.only0 o9;have c0:=rO.cell (i:=0) rfl;have c1:=rO.cell (i:=1) rfl;have f0:=rO.free 0;have f1:=rO.free 1;have hrz:=rO.set2 (.int .i64 7) (.string (str []));have hst:=only_set2 w9 (w0.heap.size+1) (.int .i64 7) (.string (str []));obtain ⟨wz,hwz⟩:∃ wz,wz=(w9.setCell ⟨w0.heap.size+1,0,none⟩ (.int .i64 7)).setCell ⟨w0.heap.size+1,1,none⟩ (.string (str [])):=⟨_,rfl⟩;rw [← hwz] at hrz hst;have Hrz:=Lib.hid hrz
  have HE:Hid (BkRes w0 wz B g o cur b [] cur b):=Lib.hid ((HE0.out.2.1.step o9).stepN hst (by simp;omega) (fun z hz=>by rw [List.mem_singleton.1 hz];exact ⟨by omega,HE0.out.2.2⟩));have Hwz:=Lib.hid hwz;clear rO hrz hst hwz o9;go_wp2_with fail;rw [← Hwz.out];exact bodyPost_ret (results_c1 rfl _ _ _ rfl Hrz.out Tryz.underlying38 oucInfo) rfl ⟨b,cur,by rw [HE0.out.1];rfl,by rw [HE0.out.1],HE.out⟩
 ·have h16i:¬ (16:Int)≤(nu:Int):=(by omega);obtain ⟨YS,hYS⟩:∃ YS,putL LUpl.id ltI b.us m.x.id (⟨⟨m.x.id,m.x.key,[]⟩,none,0⟩:LUpl)=YS:=⟨_,rfl⟩;obtain ⟨ny,hny⟩:∃ ny,YS.length=ny:=⟨_,rfl⟩
  have hset:∀ (W:World),Only [] w0 W→w2.heap.size≤W.heap.size→Calls Tryz.prog 100 #[.slice b.pu nu b.cu,.agg #[.int .i64 m.x.id.node,.int .i64 m.x.id.boot,.int .i64 m.x.id.seq],.func (.func 70) #[] #[],.agg #[.int .i64 m.x.id.node,.int .i64 m.x.id.boot,.int .i64 m.x.id.seq,.string (str m.x.key),.slice none 0 0]] W fun e' w'=>∃ p' c',e'=.returned (.slice p' ny c')∧OwnK w' B 54 5 (.slice p' ny c') ny (YS.flatMap luCells)∧Only (blk b.pu) W w'∧∀ z∈blk p',z∈blk b.pu∨w2.heap.size≤z:=fun W hW hW2=>by
   obtain ⟨hown,hg,hrow,hat,hfpl,hnu,hno,hB,hbo,hx,hca,hnp⟩:=HH.out;have h9:=hown.su.only0 hW;rw [hnu] at h9;have h:=setUp_any b.pu nu b.cu b.us m.x.id (⟨⟨m.x.id,m.x.key,[]⟩,none,0⟩:LUpl) B W hnu (by omega) h9 (Nat.le_trans hB hW.size) (sortB_map (key:=LUpl.id) LUpl.u (fun _=>rfl) hbo.us);rw [hYS,hny] at h;refine h.mono ?_;rintro e' w' ⟨p',c',h1,h2,h3,h4⟩;exact ⟨p',c',h1,h2,h3,fun z hz=>(h4 z hz).imp id (fun h5=>by omega)⟩
  have HS:=Lib.hid hset;have HY:Hid (putL LUpl.id ltI b.us m.x.id (⟨⟨m.x.id,m.x.key,[]⟩,none,0⟩:LUpl)=YS∧YS.length=ny):=Lib.hid ⟨hYS,hny⟩;clear hset hYS hny;have hgN:g < w2.heap.size:=Hrow.out.lt;have hgp:g ∉ blk b.pu:=fun h=>HH.out.2.1 (by unfold LBk.fp;simp [h])
  have hnx:w0.heap.size ∉ g :: blk b.pu:=fun h=>by
   rcases List.mem_cons.1 h with h | h
   ·omega
   ·have:=(HH.out.2.2.2.2.1 w0.heap.size (by unfold LBk.fp;simp [h])).2;omega
  have HX:Hid (∀ w,Only (g :: blk b.pu) w2 w→w.cell? ⟨w0.heap.size,1,none⟩=some (.int .i64 m.x.id.node)∧w.cell? ⟨w0.heap.size,2,none⟩=some (.int .i64 m.x.id.boot)∧w.cell? ⟨w0.heap.size,3,none⟩=some (.int .i64 m.x.id.seq)∧w.cell? ⟨w0.heap.size,5,none⟩=some (.string (str m.x.key))):=Lib.hid (fun w h=>⟨h.cell m1 hnx,h.cell m2 hnx,h.cell m3 hnx,h.cell m5 hnx⟩);have HatL:=Hat.out
  go_upto_region 13 with (fail)
  clear z4 m0 m1 m2 m3 m5;have HSO:∀ z∈[g],z < w2.heap.size∧z ∉ blk b.pu:=fun z hz=>(by rw [List.mem_singleton.1 hz];exact ⟨hgN,hgp⟩);have hRr:∀ x,(Only (g :: blk b.pu)) x x:=fun x=>Only.refl _ _;have hRt:∀ x y z,(Only (g :: blk b.pu)) x y→(Only (g :: blk b.pu)) y z→(Only (g :: blk b.pu)) x z:=fun _ _ _ h k=>h.trans k (fun _ h _=>h);have hRd:(Only (g :: blk b.pu)) w2 w2.drew:=(Only.drew _).mono (by simp)
  have hRs:∀ j w,DirtR [(12,Only (blk b.pu)),(15,Only [g])] j w w:=DirtR.refl (by
   intro x hx w;simp only [List.mem_cons,List.not_mem_nil,or_false] at hx
   rcases hx with rfl | rfl <;> exact Only.refl _ _)
  have hC0:∀ d∈[12,15],(fun (i:Nat) (a:World)=>(i=12→Only [] w2 a)∧(i=15→Row a g 60 cur)) d w2.drew:=fun _ _=>⟨fun _=>Only.drew _,fun _=>Hrow.out.only0 (Only.drew _)⟩;refine wp_region_rg7 (Only (g :: blk b.pu)) (DirtR [(12,Only (blk b.pu)),(15,Only [g])]) (fun (i:Nat) (a:World)=>(i=12→Only [] w2 a)∧(i=15→Row a g 60 cur)) [12,15] [[(0,none)],[(0,none)],[(66,some 0)],[(67,some 0)],[(68,some 0)],[(3,none)],[(70,some 0)],[(3,none)],[(72,some 0)],[(3,none)],[(74,some 0)],[(73,some 2),(75,some 0)],[(69,some 7),(71,some 5),(76,some 0)],[(65,some 12)],[(78,some 0)],[(79,some 0),(77,some 2)]] [] [0] [none,none,none,none,none,none,none,none,none,none,none,none,none,none,none,none,none,none,none,none,none,none,none,none,none,none,none,none,none,none,none,none,none,none,none,none,none,none,none,none,none,none,none,none,none,none,none,none,none,none,none,none,none,none,none,none,none,none,none,none,none,none,none,none,none,some 65,some 66,some 67,some 68,some 69,some 70,some 71,some 72,some 73,some 74,some 75,some 76,some 77,some 78,some 79,none,none,none,none,none,none,none,none,none,none,none,none,none,none,none,none,none,none,none,none,none,none,none,none,none,none,none,none,none,none,none,none,none,none,none,none,none,none,none] (by kernel_rfl) rfl (by kernel_rfl) hRr hRt hRs hRd hC0 (by kernel_rfl) (by kernel_rfl) ?_
  apply rg7_ev
  ·rintro a w hR hC ⟨(e0:_=_),-⟩;refine rg_plain rfl fun K hK=>?_;go_simp;exact hK _ _ rfl ⟨hRr _,hRs _ _,fun _ _ _ _ h=>h⟩
  apply rg7_ev
  ·rintro a w hR hC ⟨(e0:_=_),-⟩;refine rg_plain rfl fun K hK=>?_;go_simp;exact hK _ _ rfl ⟨hRr _,hRs _ _,fun _ _ _ _ h=>h⟩
  apply rg7_ev
  ·rintro a w hR hC ⟨(e66:_=_),-⟩;refine rg_plain rfl fun K hK=>?_;go_simp;exact hK _ _ rfl ⟨hRr _,hRs _ _,fun _ _ _ _ h=>h⟩
  apply rg7_ev
  ·rintro a w hR hC ⟨(e67:_=_),-⟩;refine rg_plain rfl fun K hK=>?_;go_simp;exact hK _ _ rfl ⟨hRr _,hRs _ _,fun _ _ _ _ h=>h⟩
  apply rg7_ev
  ·rintro a w hR hC ⟨(e68:_=_),-⟩;refine rg_plain rfl fun K hK=>?_;have rz:=(hC 15 (by simp) (by kernel_rfl)).2 rfl;have z4:=HatL.cell rz (r:=4) rfl;go_simp;exact hK _ _ rfl ⟨hRr _,hRs _ _,fun _ _ _ _ h=>h⟩
  apply rg7_ev
  ·rintro a w hR hC ⟨(e3:_=_),-⟩;refine rg_plain rfl fun K hK=>?_;go_simp;exact hK _ _ rfl ⟨hRr _,hRs _ _,fun _ _ _ _ h=>h⟩
  apply rg7_ev
  ·rintro a w hR hC ⟨(e70:_=_),-⟩;refine rg_plain rfl fun K hK=>?_;obtain ⟨q0,q1,q2,q3⟩:=HX.out w hR;go_simp;exact hK _ _ rfl ⟨hRr _,hRs _ _,fun _ _ _ _ h=>h⟩
  apply rg7_ev
  ·rintro a w hR hC ⟨(e3:_=_),-⟩;refine rg_plain rfl fun K hK=>?_;go_simp;exact hK _ _ rfl ⟨hRr _,hRs _ _,fun _ _ _ _ h=>h⟩
  apply rg7_ev
  ·rintro a w hR hC ⟨(e72:_=_),-⟩;refine rg_plain rfl fun K hK=>?_;obtain ⟨q0,q1,q2,q3⟩:=HX.out w hR;go_simp;exact hK _ _ rfl ⟨hRr _,hRs _ _,fun _ _ _ _ h=>h⟩
  apply rg7_ev
  ·rintro a w hR hC ⟨(e3:_=_),-⟩;refine rg_plain rfl fun K hK=>?_;go_simp;exact hK _ _ rfl ⟨hRr _,hRs _ _,fun _ _ _ _ h=>h⟩
  apply rg7_ev
  ·rintro a w hR hC ⟨(e74:_=_),-⟩;refine rg_plain rfl fun K hK=>?_;obtain ⟨q0,q1,q2,q3⟩:=HX.out w hR;go_simp;exact hK _ _ rfl ⟨hRr _,hRs _ _,fun _ _ _ _ h=>h⟩
  apply rg7_ev
  ·rintro a w hR hC ⟨(e73:_=_),(e75:_=_),-⟩;refine rg_plain rfl fun K hK=>?_;have e73':=e73;rw [Array.getD_eq_getD_getElem?] at e73';have e75':=e75;rw [Array.getD_eq_getD_getElem?] at e75';go_simp;exact hK _ _ rfl ⟨hRr _,hRs _ _,fun _ _ _ _ h=>h⟩
  refine ⟨SlP luCells 54 5 B b.pu w2.heap.size ny YS,stands5_of SlP.stable (by intro x hx hk;simp only [List.mem_cons,List.not_mem_nil,or_false] at hx;rcases hx with rfl | rfl <;> first | exact Bool.noConfusion (hk.symm.trans (by kernel_rfl:_=true)) | (refine SlP.stableO ?_;exact HSO;done)),fun a w hR hC hf=>?_,?_⟩
  ·obtain ⟨e69,e71,e76,-⟩:=hf;replace e69:a.tmps.getD 69 undef=_:=e69;replace e71:a.tmps.getD 71 undef=_:=e71;replace e76:a.tmps.getD 76 undef=_:=e76;refine rg_plain rfl fun K hK=>?_;have hC5:=(hC 12 (by simp) (by kernel_rfl)).1 rfl;go_simp;(with_reducible refine (HS.out w (HO.out.trans0 hC5) hC5.size).mono ?_);rintro e w' ⟨p',c',rfl,h1,h2,h3⟩;exact hK _ _ ⟨_,_,rfl,h1,h3⟩ ⟨h2.mono (fun x hx=>List.mem_cons_of_mem _ hx),h2,fun i hi hne ha hc=>⟨fun e=>absurd e hne,fun e=>(hc.2 e).only h2 hgp⟩⟩
  apply rg7_ev
  ·rintro a w hR hC ⟨(e65:_=_),-⟩;refine rg_plain rfl fun K hK=>?_;go_simp;exact hK _ _ rfl ⟨hRr _,hRs _ _,fun _ _ _ _ h=>h⟩
  apply rg7_ev
  ·rintro a w hR hC ⟨(e78:_=_),-⟩;refine rg_plain rfl fun K hK=>?_;go_simp;exact hK _ _ rfl ⟨hRr _,hRs _ _,fun _ _ _ _ h=>h⟩
  refine ⟨SlR luCells 54 5 B b.pu w2.heap.size ny YS (g) 60 cur (o+4),stands5_of SlR.stable (by intro x hx hk;simp only [List.mem_cons,List.not_mem_nil,or_false] at hx;rcases hx with rfl | rfl <;> exact Bool.noConfusion (hk.symm.trans (by kernel_rfl:_=true))),fun a w hR hC hf=>?_,?_⟩
  ·obtain ⟨e79,e77,-⟩:=hf;replace e79:a.tmps.getD 79 undef=_:=e79;replace e77:SlP luCells 54 5 B b.pu w2.heap.size ny YS (a.tmps.getD 77 undef) w:=e77;refine rg_plain rfl fun K hK=>?_;obtain ⟨p',c',e77,hown',hb'⟩:=e77;have rz:=(hC 15 (by simp) (by kernel_rfl)).2 rfl;have zc:=HatL.cell rz (r:=4) rfl;have zf:=rz.free (o+4);go_simp;have hst:=Only.setCell w ⟨g,o+4,none⟩ (.slice p' (ny) c');refine hK undef _ ⟨p',c',hown'.onlyB hst (fun z hz hm=>?_),hb',rz.setCell (o+4) _⟩ ⟨hst.mono (by simp),hst,fun i hi hne ha hc=>?_⟩
   ·rcases hb' z hz with h4 | h4
    ·exact (HSO z hm).2 h4
    ·have:=(HSO z hm).1;omega
   ·simp only [List.mem_cons,List.not_mem_nil,or_false] at hi
    rcases hi with rfl | rfl
    ·exact Bool.noConfusion (ha.symm.trans (by kernel_rfl:_=true))
    ·exact absurd rfl hne
  intro fb wb hRb hf hlb;dsimp only [mergeT];obtain ⟨l15,-⟩:=hlb;replace l15:∃ v,(SlR luCells 54 5 B b.pu w2.heap.size ny YS (g) 60 cur (o+4)) v wb:=l15;obtain ⟨_,p',c',h1,h2,h3⟩:=l15;obtain ⟨hown,hg,hrow,hat,hfpl,hnu,hno,hB,hbo,hx,hca,hnp⟩:=HH.out;obtain ⟨hYS,hny⟩:=HY.out;have hown2:=hown.only0 HO.out
  have hbo':=hown2.upls (S:=g :: blk b.pu) (us':=YS) (p':=p') (c':=c') (new:=[]) hRb (fun z hz=>by
   rcases List.mem_cons.1 hz with rfl | hz
   ·exact .inr ⟨hg,by simp⟩
   ·exact .inl hz) (by rw [hny];exact h1) (fun y hy=>by
   rw [← hYS] at hy
   rcases put_mem hy with rfl | h
   ·exact .inr ⟨OwnK.nil _ _ _ _,fun z hz=>by simp [blk] at hz⟩
   ·exact .inl h) h2 (by
   obtain ⟨sub,k1,k2⟩:=put_perm (key:=LUpl.id) (l:=ltI) (fun x:LUpl=>blk x.q) b.us m.x.id (⟨⟨m.x.id,m.x.key,[]⟩,none,0⟩:LUpl);rw [hYS] at k1
   exact ⟨sub,by simpa [blk] using k1,k2⟩) List.nodup_nil (by simp)
  obtain ⟨hb1,hb2⟩:=hbo'
  have hra:RecAt o (cur.set (o+4) (.slice p' ny c')) (lbCells { b with us:=YS,pu:=p',cu:=c' }):=by
   have h9:=hat.set (i:=4) (.slice p' ny c') (by rw [lbCells_len];omega);rw [← hny] at h9 ⊢;exact h9
  have hres:BkRes w2 wb B g o cur b [] (cur.set (o+4) (.slice p' ny c')) { b with us:=YS,pu:=p',cu:=c' }:=⟨h3,hra,Outside.set o 5 cur _ (by omega) (by omega),hb1,hb2,hRb.mono (fun z hz=>by
   rcases List.mem_cons.1 hz with rfl | hz
   ·exact List.mem_cons_self ..
   ·exact List.mem_cons_of_mem _ (by unfold LBk.fp;simp [hz]))⟩
  have hA2:w0.heap.size+1 ∉ ({ b with us:=YS,pu:=p',cu:=c' }:LBk).fp:=fun hm=>by
   rcases hb2 _ hm with h | h | h
   ·have:=(hfpl _ h).2;omega
   ·cases h
   ·have:=Hsz.out;omega
  have HE0:Hid (inBuck smL b.b m.x=(({ b with us:=YS,pu:=p',cu:=c' }:LBk).b,⟨0,[]⟩)∧BkRes w0 wb B g o cur b [] (cur.set (o+4) (.slice p' ny c')) { b with us:=YS,pu:=p',cu:=c' }∧w0.heap.size+1 ∉ ({ b with us:=YS,pu:=p',cu:=c' }:LBk).fp):=Lib.hid ⟨by
   unfold inBuck;rw [if_neg (by have:=Hk.out;omega),if_neg (by have:=Hk.out;omega),if_pos Hk.out,if_neg (by rw [show b.b.upls.length=b.us.length from List.length_map ..];omega),show b.b.upls=b.us.map LUpl.u from rfl];rw [show (⟨m.x.id,m.x.key,[]⟩:CUpl)=((⟨⟨m.x.id,m.x.key,[]⟩,none,0⟩:LUpl)).u from rfl,← putL_map (key:=LUpl.id) LUpl.u (fun _=>rfl),hYS]
   rfl,hres.base HO.out,hA2⟩
  have HROb:=HRO.out.only hRb (fun hm=>by
   rcases List.mem_cons.1 hm with h | h
   ·omega
   ·have:=(hfpl (w0.heap.size+1) (by unfold LBk.fp;simp [h])).2;omega)
  clear HRO;have HRO:=Lib.hid HROb;clear HROb h1 h2 h3 hYS hny hown2 hb1 hb2 hra hres hA2 hRb hRr hRt hRd hRs hC0 HSO HatL hgp hgN hnx;clear hown hg hrow hat hfpl hnu hno hB hbo hx hca hnp;go_wp2_with fail;refine (done_any 0 wb).mono ?_;rintro e w9 ⟨rfl,o9⟩;unfold oucV;have rO:=HRO.out.only0 o9;have c0:=rO.cell (i:=0) rfl;have c1:=rO.cell (i:=1) rfl;have f0:=rO.free 0;have f1:=rO.free 1;have hrz:=rO.set2 (.int .i64 0) (.string (str []));have hst:=only_set2 w9 (w0.heap.size+1) (.int .i64 0) (.string (str []));obtain ⟨wz,hwz⟩:∃ wz,wz=(w9.setCell ⟨w0.heap.size+1,0,none⟩ (.int .i64 0)).setCell ⟨w0.heap.size+1,1,none⟩ (.string (str [])):=⟨_,rfl⟩
  rw [← hwz] at hrz hst;have Hrz:=Lib.hid hrz;have HE:Hid (BkRes w0 wz B g o cur b [] (cur.set (o+4) (.slice p' ny c')) { b with us:=YS,pu:=p',cu:=c' }):=Lib.hid ((HE0.out.2.1.step o9).stepN hst (by simp;omega) (fun z hz=>by rw [List.mem_singleton.1 hz];exact ⟨by omega,HE0.out.2.2⟩));have Hwz:=Lib.hid hwz;clear rO hrz hst hwz o9;go_wp2_with fail;rw [← Hwz.out];exact bodyPost_ret (results_c1 rfl _ _ _ rfl Hrz.out Tryz.underlying38 oucInfo) rfl ⟨{ b with us:=YS,pu:=p',cu:=c' },(cur.set (o+4) (.slice p' ny c')),by rw [HE0.out.1];rfl,by rw [HE0.out.1],HE.out⟩
end
end Go.Proofs.YtfeglnpmpgipiaaGreatDoor
