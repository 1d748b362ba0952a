/- GrwPk, part 28: CatPutW, SetUpW, InsPtW, SetPtW. -/
import Derived.Test.YtfeglnpmpgipiaaGreatDoorGrwPk09
import Derived.Test.YtfeglnpmpgipiaaGreatDoorGrwPk11
import Derived.Test.YtfeglnpmpgipiaaGreatDoorGrwPk12
import Derived.Test.YtfeglnpmpgipiaaGreatDoorGrwPk13
import Derived.Test.YtfeglnpmpgipiaaGreatDoorGrwPk15
import Derived.Test.YtfeglnpmpgipiaaGreatDoorGrwPk16
import Derived.Test.YtfeglnpmpgipiaaGreatDoorGrwPk25
import Derived.Lib.Overlaps
set_option linter.unusedVariables false
set_option maxRecDepth 100000
set_option linter.unusedSimpArgs false
namespace Go.Proofs.YtfeglnpmpgipiaaGreatDoor
section
open Go.RowKit
def zJr (b:LBk) (x:qG) (g o B:Nat) (cur:List Value) (w0:World):Ending→World→Prop:=fun e w'=>∃ b' cur',e=.returned (xM (zAF b.b x.o).2)∧b'.b=(zAF b.b x.o).1∧qX w0 w' B g o cur b (blk x.q) cur' b'∧b'.us=b.us∧b'.pu=b.pu∧b'.cu=b.cu
set_option maxHeartbeats 16000000 in
theorem zGM (b:LBk) (x:qG) (g o B:Nat) (cur:List Value) (w0:World) (hrow:Row w0 g 60 cur) (hat:jF o cur (zD b)) (hown:qZ w0 B b) (hg:g ∉ b.fp) (hx:zCc w0 B x) (hxq:∀ z∈blk x.q,z ∉ b.fp∧z≠g) (hB:B≤w0.heap.size) (hs:jD zAd.key lt (b.os.map qG.o)) (hl:b.os.length≤128) :
  Calls Tryz.prog 98 #[.pointer (some ⟨g,o,none⟩),loV x] w0 (zJr b x g o B cur w0):=by
 obtain ⟨n,hn⟩:∃ n,b.os.length=n:=⟨_,rfl⟩;obtain ⟨nq,hnq⟩:∃ nq,x.o.pcs.length=nq:=⟨_,rfl⟩;obtain ⟨nu,hnu⟩:∃ nu,b.us.length=nu:=⟨_,rfl⟩;obtain ⟨w1,hw1⟩:∃ w1,w1=w0.alloc (.cells #[.string (str x.o.key),.int .i64 x.o.size,.string (str x.o.etag),.int .i64 x.o.time,.slice x.q nq x.c] 48):=⟨_,rfl⟩;have o1:Only [] w0 w1:=(by rw [hw1];exact Only.alloc _ _);have s1:w1.heap.size=w0.heap.size+1:=(by rw [hw1];simp);have r1:Row w1 (w0.heap.size) 48 [.string (str x.o.key),.int .i64 x.o.size,.string (str x.o.etag),.int .i64 x.o.time,.slice x.q nq x.c]:=by rw [hw1];exact Row.zV _ _ _ _ rfl
 obtain ⟨w2,hw2⟩:∃ w2,w2=w1.alloc (.cells #[.int .i64 0,.string ⟨#[]⟩] 38):=⟨_,rfl⟩;have o2:Only [] w1 w2:=(by rw [hw2];exact Only.alloc _ _);have s2:w2.heap.size=w0.heap.size+1+1:=(by rw [hw2];simp [s1]);have r2:Row w2 (w0.heap.size+1) 38 [.int .i64 0,.string ⟨#[]⟩]:=(by rw [← s1,hw2];exact Row.zV _ _ _ _ rfl);replace r1:=r1.zB o2;have oAll:Only [] w0 w2:=(o1.zC o2);rw [hw1] at hw2;have hgl:=hrow.lt;have hgpo:g ∉ blk b.po:=fun h=>hg (by unfold LBk.fp;exact List.mem_append_left _ h);have hss:jD qG.key lt b.os:=zAM (key:=qG.key) qG.o (fun _=>rfl) hs
 obtain ⟨i,hi⟩:∃ i,qV qG.key lt b.os x.o.key=i:=⟨_,rfl⟩;obtain ⟨th,hth⟩:∃ th,qC qG.key lt b.os x.o.key=th:=⟨_,rfl⟩;have hfind:=fun (W:World) (h:Only [] w0 W)=>zCn b.po n b.co b.os x.o.key W hn (by omega) (fun h0=>by rw [← hn];exact (hown.so.view.2.2.2.1 h0).1) (hown.so.view.2.2.1.zB h) hss;rw [hi,hth] at hfind;have hset:=fun (W:World) (h:Only [] w0 W)=>zHO b.po n b.co b.os x.o.key x B W hn (by omega) (by have h9:=hown.so.zB h;rw [hn] at h9;exact h9) (Nat.le_trans hB h.size) hss;obtain ⟨YS,hYS⟩:∃ YS,jN qG.key lt b.os x.o.key x=YS:=⟨_,rfl⟩
 obtain ⟨ny,hny⟩:∃ ny,YS.length=ny:=⟨_,rfl⟩;rw [hYS] at hset;rw [hny] at hset;have hpt:=zJK b x;rw [hth,hn,hYS] at hpt;have hatc:=hat;unfold zD at hatc;rw [hn,hnu] at hatc;have HF:=Lib.hid hfind
 have hset2:∀ (W:World),Only [] w0 W→w2.heap.size≤W.heap.size→Calls Tryz.prog 133 #[.slice b.po n b.co,.string (str x.o.key),.func (.func 67) #[] #[],.agg #[.string (str x.o.key),.int .i64 x.o.size,.string (str x.o.etag),.int .i64 x.o.time,.slice x.q nq x.c]] W fun e' w'=>∃ p' c',e'=.returned (.slice p' ny c')∧zN w' B 48 5 (.slice p' ny c') ny (YS.flatMap zH)∧Only (blk b.po) W w'∧∀ z∈blk p',z∈blk b.po∨w2.heap.size≤z:=fun W hW0 hW2=>by
  have hW:=hW0;have h:=hset W hW;unfold loV at h;rw [hnq] at h;refine h.mono ?_;rintro e' w' ⟨p',c',h1,h2,h3,h4⟩;exact ⟨p',c',h1,h2,h3,fun z hz=>(h4 z hz).imp id (fun h5=>by omega)⟩
 have HS:=Lib.hid hset2;have Hat:=Lib.hid hatc;have Hrow:=Lib.hid (hrow.zB oAll);have HO:=Lib.hid oAll;have Hw:=Lib.hid hw2;have Hsz:Hid (w2.heap.size=w0.heap.size+1+1):=Lib.hid s2;have Hr1:=Lib.hid r1;have Hr2:=Lib.hid r2;have HP:=Lib.hid hpt;have hHB:Hid (qZ w0 B b∧g ∉ b.fp∧zCc w0 B x∧(∀ z∈blk x.q,z ∉ b.fp∧z≠g)∧Row w0 g 60 cur∧jF o cur (zD b)):=Lib.hid ⟨hown,hg,hx,hxq,hrow,hat⟩;have HY:Hid (jN qG.key lt b.os x.o.key x=YS∧YS.length=ny∧b.us.length=nu):=Lib.hid ⟨hYS,hny,hnu⟩;have hgN:g < w0.heap.size:=hgl
 have h1i:=fun (r:Nat) (v:Value)=>hatc.cell (r:=r) (v:=v) (hrow.zB oAll);have z3:=h1i 3 _ rfl;have a0:=r1.cell (i:=0) rfl;have a2:=r1.cell (i:=2) rfl;have Hz3:=Lib.hid z3;have Ha0:=Lib.hid a0;clear hfind hset hset2 hpt hatc hat hrow oAll hw2 s2 s1 r1 r2 o1 o2 hw1 hYS hny hss hs hown hg hx hxq hgl hi hth h1i hn;rw [show loV x=.agg #[.string (str x.o.key),.int .i64 x.o.size,.string (str x.o.etag),.int .i64 x.o.time,.slice x.q nq x.c] by unfold loV;rw [hnq]];clear hnq hnu z3 a0
 go_enter Tryz.func98,Tryz.ntmps98
 go_upto_region 1 with (fail)
 rw [← Hw.out];refine qY (Only []) [[(0,none)],[(8,some 0)],[(9,some 0)],[(10,some 0)],[(3,none)],[(12,some 0)],[(11,some 2),(13,some 0)],[(14,some 0)],[(7,some 0)],[(7,some 1)],[(15,some 1)],[(16,some 1)]] [(5,1),(6,0)] [none,none,none,none,none,some 5,some 6,some 7,some 8,some 9,some 10,some 11,some 12,some 13,some 14,some 15,some 16,none,none,none,none,none,none,none,none,none,none,none,none,none,none,none,none,none,none,none,none,none,none,none,none,none] (by kernel_rfl) rfl (by kernel_rfl) (fun _=>Only.refl _ _) (fun _ _ _ h k=>h.zC k) (Only.drew _) (by kernel_rfl) ?_
 apply zJ
 ·rintro a w hR ⟨(e0:_=_),-⟩;refine zA rfl fun K hK=>?_;go_simp;exact hK _ _ rfl (Only.refl _ _)
 apply zJ
 ·rintro a w hR ⟨(e8:_=_),-⟩;refine zA rfl fun K hK=>?_;go_simp;exact hK _ _ rfl (Only.refl _ _)
 apply zJ
 ·rintro a w hR ⟨(e9:_=_),-⟩;refine zA rfl fun K hK=>?_;go_simp;exact hK _ _ rfl (Only.refl _ _)
 apply zJ
 ·rintro a w hR ⟨(e10:_=_),-⟩;refine zA rfl fun K hK=>?_;have g3:=hR.cell Hz3.out (by simp);go_simp;exact hK _ _ rfl (Only.refl _ _)
 apply zJ
 ·rintro a w hR ⟨(e3:_=_),-⟩;refine zA rfl fun K hK=>?_;go_simp;exact hK _ _ rfl (Only.refl _ _)
 apply zJ
 ·rintro a w hR ⟨(e12:_=_),-⟩;refine zA rfl fun K hK=>?_;have g0:=hR.cell Ha0.out (by simp);go_simp;exact hK _ _ rfl (Only.refl _ _)
 apply zJ
 ·rintro a w hR ⟨(e11:_=_),(e13:_=_),-⟩;refine zA rfl fun K hK=>?_;go_simp;(with_reducible refine (HF.out w (HO.out.zC hR)).mono ?_);rintro e w' ⟨rfl,o'⟩;exact hK _ _ rfl o'
 apply zJ
 ·rintro a w hR ⟨(e14:_=_),-⟩;refine zA rfl fun K hK=>?_;go_simp;exact hK _ _ rfl (Only.refl _ _)
 apply zJ
 ·rintro a w hR ⟨(e7:_=_),-⟩;refine zA rfl fun K hK=>?_;go_simp;exact hK _ _ rfl (Only.refl _ _)
 apply zJ
 ·rintro a w hR ⟨(e7:_=_),-⟩;refine zA rfl fun K hK=>?_;go_simp;exact hK _ _ rfl (Only.refl _ _)
 apply zJ
 ·rintro a w hR ⟨(e15:_=_),-⟩;refine zA rfl fun K hK=>?_;go_simp;exact hK _ _ rfl (Only.refl _ _)
 apply zJ
 ·rintro a w hR ⟨(e16:_=_),-⟩;refine zA rfl fun K hK=>?_;go_simp;exact hK _ _ rfl (Only.refl _ _)
 intro fa wa hRa hf;dsimp only [qE];obtain ⟨e5,e6,-⟩:=hf;replace e5:fa 5=_:=e5;rw [e5];replace e6:fa 6=_:=e6;rw [e6];have HOa:Hid (Only [] w2 wa):=Lib.hid hRa;have rO:=Hr2.out.zB hRa;have g3:=hRa.cell Hz3.out (by simp);clear hRa HF
 by_cases hfull:th=false∧128≤n
 ·have HP1:Hid (zAF b.b x.o=(b.b,⟨7,[]⟩)):=Lib.hid ((HP.out none 0).trans (if_pos hfull));clear HP;obtain ⟨rfl,h128⟩:=hfull;have h128i:(128:Int)≤(n:Int):=(by omega);go_wp2_with fail;refine (vM 7 wa).mono ?_;rintro e w' ⟨rfl,o'⟩;unfold xM;have rO':=rO.zB o';have c0:=rO'.cell (i:=0) rfl;have c1:=rO'.cell (i:=1) rfl;have f0:=rO'.free 0;have f1:=rO'.free 1;have hrz:=rO'.set2 (.int .i64 7) (.string (str []));have hst:=qB w' (w0.heap.size+1) (.int .i64 7) (.string (str []));obtain ⟨wz,hwz⟩:∃ wz,wz=(w'.setCell ⟨w0.heap.size+1,0,none⟩ (.int .i64 7)).setCell ⟨w0.heap.size+1,1,none⟩ (.string (str [])):=⟨_,rfl⟩
  rw [← hwz] at hrz hst;have Hrz:=Lib.hid hrz;obtain ⟨hown,hg,hx,hxq,hrow,hat⟩:=hHB.out;have HE:Hid (zAF b.b x.o=(b.b,⟨7,[]⟩)∧qX w0 wz B g o cur b (blk x.q) cur b):=Lib.hid ⟨HP1.out,(qX.refl hrow hat hown _ ((HO.out.zC HOa.out).zC o')).zAC hst (by simp;omega) (fun z hz=>by rw [List.mem_singleton.1 hz];exact ⟨by omega,fun hm=>by have:=(hown.lo _ hm).2;omega⟩)⟩;have Hwz:=Lib.hid hwz;clear rO rO' hrz hst hwz o' hown hg hx hxq hrow hat hHB g3;go_wp2_with fail;rw [← Hwz.out];exact bodyPost_ret (qO rfl _ _ _ rfl Hrz.out Tryz.underlying38 jH) rfl ⟨b,cur,by rw [HE.out.1];rfl,by rw [HE.out.1],HE.out.2,rfl,rfl,rfl⟩
 ·have hcase:th=true∨(th=false∧n < 128):=by
   cases th
   ·exact .inr ⟨rfl,by simp at hfull;omega⟩
   ·exact .inl rfl
  have HPn:Hid (∀ p' c',zAF b.b x.o=(({ b with os:=YS,po:=p',co:=c' }:LBk).b,⟨0,x.o.etag⟩)):=Lib.hid (fun p' c'=>(HP.out p' c').trans (if_neg hfull));clear HP;clear hfull
  rcases hcase with rfl | ⟨rfl,hlt⟩
  rotate_left
  ·have h128i:¬ (128:Int)≤(n:Int):=by omega
   skip
   go_upto_region 4 with (fail)
   have HRowa:=Lib.hid (Hrow.out.zB HOa.out);have HatL:=Hat.out;have hgp:g ∉ blk b.po:=hgpo;have hgN2:g < w2.heap.size:=(by have:=Hsz.out;omega);replace hgN:=hgN2
   have hnx:w0.heap.size ∉ g :: blk b.po:=fun h=>by
    have h5:=hHB.out
    rcases List.mem_cons.1 h with h | h
    ·have:=h5.2.2.2.2.1.lt;omega
    ·have:=(h5.1.so.view.2.2.2.2.2.2 _ h).2;omega
   have hxa:=Hr1.out.zB HOa.out;have x0:=hxa.cell (i:=0) rfl;have x1:=hxa.cell (i:=1) rfl;have x2:=hxa.cell (i:=2) rfl;have x3:=hxa.cell (i:=3) rfl;have x4:=hxa.cell (i:=4) rfl;have HX:Hid (∀ w,Only (g :: blk b.po) wa w→w.cell? ⟨w0.heap.size,0,none⟩=some (.string (str x.o.key))∧w.cell? ⟨w0.heap.size,1,none⟩=some (.int .i64 x.o.size)∧w.cell? ⟨w0.heap.size,2,none⟩=some (.string (str x.o.etag))∧w.cell? ⟨w0.heap.size,3,none⟩=some (.int .i64 x.o.time)∧w.cell? ⟨w0.heap.size,4,none⟩=some (.slice x.q nq x.c)):=Lib.hid (fun w h=>⟨h.cell x0 hnx,h.cell x1 hnx,h.cell x2 hnx,h.cell x3 hnx,h.cell x4 hnx⟩)
   clear hxa x0 x1 x2 x3 x4;have HSO:∀ z∈[g],z < w2.heap.size∧z ∉ blk b.po:=fun z hz=>(by rw [List.mem_singleton.1 hz];exact ⟨hgN,hgp⟩);have hRr:∀ x,(Only (g :: blk b.po)) x x:=fun x=>Only.refl _ _;have hRt:∀ x y z,(Only (g :: blk b.po)) x y→(Only (g :: blk b.po)) y z→(Only (g :: blk b.po)) x z:=fun _ _ _ h k=>h.trans k (fun _ h _=>h);have hRd:(Only (g :: blk b.po)) wa wa.drew:=(Only.drew _).mono (by simp)
   have hRs:∀ j w,zZ [(8,Only (blk b.po)),(11,Only [g])] j w w:=zZ.refl (by
    intro x hx w;simp only [List.mem_cons,List.not_mem_nil,or_false] at hx
    rcases hx with rfl | rfl <;> exact Only.refl _ _)
   have hC0:∀ d∈[8,11],(fun (i:Nat) (a:World)=>(i=8→Only [] wa a)∧(i=11→Row a g 60 cur)) d wa.drew:=fun _ _=>⟨fun _=>Only.drew _,fun _=>HRowa.out.zB (Only.drew _)⟩;refine zU (Only (g :: blk b.po)) (zZ [(8,Only (blk b.po)),(11,Only [g])]) (fun (i:Nat) (a:World)=>(i=8→Only [] wa a)∧(i=11→Row a g 60 cur)) [8,11] [[(0,none)],[(0,none)],[(29,some 0)],[(30,some 0)],[(31,some 0)],[(3,none)],[(33,some 0)],[(3,none)],[(32,some 3),(34,some 1),(35,some 0)],[(28,some 8)],[(37,some 0)],[(38,some 0),(36,some 2)]] [] [0] [none,none,none,none,none,none,none,none,none,none,none,none,none,none,none,none,none,none,none,none,none,none,none,none,none,none,none,none,some 28,some 29,some 30,some 31,some 32,some 33,some 34,some 35,some 36,some 37,some 38,none,none,none] (by kernel_rfl) rfl (by kernel_rfl) hRr hRt hRs hRd hC0 (by kernel_rfl) (by kernel_rfl) ?_
   apply zF
   ·rintro a w hR hC ⟨(e0:_=_),-⟩;refine zA rfl fun K hK=>?_;go_simp;exact hK _ _ rfl ⟨hRr _,hRs _ _,fun _ _ _ _ h=>h⟩
   apply zF
   ·rintro a w hR hC ⟨(e0:_=_),-⟩;refine zA rfl fun K hK=>?_;go_simp;exact hK _ _ rfl ⟨hRr _,hRs _ _,fun _ _ _ _ h=>h⟩
   apply zF
   ·rintro a w hR hC ⟨(e29:_=_),-⟩;refine zA rfl fun K hK=>?_;go_simp;exact hK _ _ rfl ⟨hRr _,hRs _ _,fun _ _ _ _ h=>h⟩
   apply zF
   ·rintro a w hR hC ⟨(e30:_=_),-⟩;refine zA rfl fun K hK=>?_;go_simp;exact hK _ _ rfl ⟨hRr _,hRs _ _,fun _ _ _ _ h=>h⟩
   apply zF
   ·rintro a w hR hC ⟨(e31:_=_),-⟩;refine zA rfl fun K hK=>?_;have rz:=(hC 11 (by simp) (by kernel_rfl)).2 rfl;have z3:=HatL.cell rz (r:=3) rfl;go_simp;exact hK _ _ rfl ⟨hRr _,hRs _ _,fun _ _ _ _ h=>h⟩
   apply zF
   ·rintro a w hR hC ⟨(e3:_=_),-⟩;refine zA rfl fun K hK=>?_;go_simp;exact hK _ _ rfl ⟨hRr _,hRs _ _,fun _ _ _ _ h=>h⟩
   apply zF
   ·rintro a w hR hC ⟨(e33:_=_),-⟩;refine zA rfl fun K hK=>?_;obtain ⟨q0,q1,q2,q3,q4⟩:=HX.out w hR;go_simp;exact hK _ _ rfl ⟨hRr _,hRs _ _,fun _ _ _ _ h=>h⟩
   apply zF
   ·rintro a w hR hC ⟨(e3:_=_),-⟩;refine zA rfl fun K hK=>?_;obtain ⟨q0,q1,q2,q3,q4⟩:=HX.out w hR;go_simp;exact hK _ _ rfl ⟨hRr _,hRs _ _,fun _ _ _ _ h=>h⟩
   refine ⟨SlP zH 48 5 B b.po w2.heap.size ny YS,zL SlP.stable (by intro x hx hk;simp only [List.mem_cons,List.not_mem_nil,or_false] at hx;rcases hx with rfl | rfl <;> first | exact Bool.noConfusion (hk.symm.trans (by kernel_rfl:_=true)) | (refine SlP.jC ?_;exact HSO;done)),fun a w hR hC hf=>?_,?_⟩
   ·obtain ⟨e32,e34,e35,-⟩:=hf;replace e32:a.tmps.getD 32 undef=_:=e32;replace e34:a.tmps.getD 34 undef=_:=e34;replace e35:a.tmps.getD 35 undef=_:=e35;refine zA rfl fun K hK=>?_;have hC5:=(hC 8 (by simp) (by kernel_rfl)).1 rfl;go_simp;(with_reducible refine (HS.out w (HO.out.zC (HOa.out.zC hC5)) (HOa.out.zC hC5).size).mono ?_);rintro e w' ⟨p',c',rfl,h1,h2,h3⟩;replace h3:∀ z∈blk p',z∈blk b.po∨w2.heap.size≤z:=h3;exact hK _ _ ⟨_,_,rfl,h1,h3⟩ ⟨h2.mono (fun x hx=>List.mem_cons_of_mem _ hx),h2,fun i hi hne ha hc=>⟨fun e=>absurd e hne,fun e=>(hc.2 e).only h2 hgp⟩⟩
   apply zF
   ·rintro a w hR hC ⟨(e28:_=_),-⟩;refine zA rfl fun K hK=>?_;go_simp;exact hK _ _ rfl ⟨hRr _,hRs _ _,fun _ _ _ _ h=>h⟩
   apply zF
   ·rintro a w hR hC ⟨(e37:_=_),-⟩;refine zA rfl fun K hK=>?_;go_simp;exact hK _ _ rfl ⟨hRr _,hRs _ _,fun _ _ _ _ h=>h⟩
   refine ⟨SlR zH 48 5 B b.po w2.heap.size ny YS (g) 60 cur (o+3),zL SlR.stable (by intro x hx hk;simp only [List.mem_cons,List.not_mem_nil,or_false] at hx;rcases hx with rfl | rfl <;> exact Bool.noConfusion (hk.symm.trans (by kernel_rfl:_=true))),fun a w hR hC hf=>?_,?_⟩
   ·obtain ⟨e38,e36,-⟩:=hf;replace e38:a.tmps.getD 38 undef=_:=e38;replace e36:SlP zH 48 5 B b.po w2.heap.size ny YS (a.tmps.getD 36 undef) w:=e36;refine zA rfl fun K hK=>?_;obtain ⟨p',c',e36,hown',hb'⟩:=e36;have rz:=(hC 11 (by simp) (by kernel_rfl)).2 rfl;have zc:=HatL.cell rz (r:=3) rfl;have zf:=rz.free (o+3);go_simp;have hst:=Only.setCell w ⟨g,o+3,none⟩ (.slice p' (ny) c');refine hK undef _ ⟨p',c',hown'.jL hst (fun z hz hm=>?_),hb',rz.setCell (o+3) _⟩ ⟨hst.mono (by simp),hst,fun i hi hne ha hc=>?_⟩
    ·rcases hb' z hz with h4 | h4
     ·exact (HSO z hm).2 h4
     ·have:=(HSO z hm).1;omega
    ·simp only [List.mem_cons,List.not_mem_nil,or_false] at hi
     rcases hi with rfl | rfl
     ·exact Bool.noConfusion (ha.symm.trans (by kernel_rfl:_=true))
     ·exact absurd rfl hne
   intro fb wb hRb hf hlb;dsimp only [qE];obtain ⟨l11,-⟩:=hlb;replace l11:∃ v,(SlR zH 48 5 B b.po w2.heap.size ny YS (g) 60 cur (o+3)) v wb:=l11;have HOb:=Lib.hid hRb;obtain ⟨_,p',c',h1,h2,h3⟩:=l11;obtain ⟨hown,hg,hx,hxq,hrow,hat⟩:=hHB.out;obtain ⟨hYS,hny,hnu⟩:=HY.out;rw [← hny] at h1;have ho2:Only (g :: blk b.po) w2 wb:=(HOa.out.mono (by simp)).trans hRb (fun _ h _=>h);have hown2:=hown.zB HO.out;have hx2:zCc w2 B x:=zN.zB hx HO.out
   have hbo:=hown2.vC (S:=g :: blk b.po) (new:=blk x.q) ho2 (fun z hz=>by
    rcases List.mem_cons.1 hz with rfl | hz
    ·exact .inr ⟨hg,fun h=>(hxq _ h).2 rfl⟩
    ·exact .inl hz) h1 (fun y hy=>by
    rw [← hYS] at hy
    rcases put_mem hy with rfl | h
    ·exact .inr ⟨hx2,fun z hz=>hz⟩
    ·exact .inl h) h2 (by rw [← hYS];exact zBy (fun x:qG=>blk x.q) b.os x.o.key x) (yU _) (fun z hz=>⟨(hxq z hz).1,(ownIn hx2 z hz).2⟩)
   obtain ⟨hb1,hb2⟩:=hbo
   have hra:jF o (cur.set (o+3) (.slice p' ny c')) (zD { b with os:=YS,po:=p',co:=c' }):=by
    have h9:=hat.set (i:=3) (.slice p' ny c') (by rw [zQ];omega);rw [← hny] at h9 ⊢;exact h9
   have hres:qX w2 wb B g o cur b (blk x.q) (cur.set (o+3) (.slice p' ny c')) { b with os:=YS,po:=p',co:=c' }:=⟨h3,hra,Outside.set o 5 cur _ (by omega) (by omega),hb1,hb2,ho2.mono (fun z hz=>by
    rcases List.mem_cons.1 hz with rfl | hz
    ·exact List.mem_cons_self ..
    ·exact List.mem_cons_of_mem _ (by unfold LBk.fp;exact List.mem_append_left _ hz))⟩
   have hA2:w0.heap.size+1 ∉ ({ b with os:=YS,po:=p',co:=c' }:LBk).fp:=fun hm=>by
    rcases hb2 _ hm with h | h | h
    ·have:=(hown.lo _ h).2;omega
    ·have:=(ownIn hx _ h).2;omega
    ·have:=Hsz.out;omega
   have hnA:w0.heap.size+1 ∉ g :: blk b.po:=fun h=>by
    rcases List.mem_cons.1 h with h | h
    ·have:=hrow.lt;omega
    ·have:=(hown.so.view.2.2.2.2.2.2 _ h).2;omega
   have rOb:=rO.only hRb hnA;have c0:=rOb.cell (i:=0) rfl;have c1:=rOb.cell (i:=1) rfl;have f0:=rOb.free 0;have f1:=rOb.free 1;have e2:=(HX.out wb hRb).2.2.1;have hrz:=rOb.set2 (.int .i64 0) (.string (str x.o.etag));have hst:=qB wb (w0.heap.size+1) (.int .i64 0) (.string (str x.o.etag));obtain ⟨wz,hwz⟩:∃ wz,wz=(wb.setCell ⟨w0.heap.size+1,0,none⟩ (.int .i64 0)).setCell ⟨w0.heap.size+1,1,none⟩ (.string (str x.o.etag)):=⟨_,rfl⟩;rw [← hwz] at hrz hst;have Hrz:=Lib.hid hrz;have HE:Hid (zAF b.b x.o=(({ b with os:=YS,po:=p',co:=c' }:LBk).b,⟨0,x.o.etag⟩)∧qX w0 wz B g o cur b (blk x.q) (cur.set (o+3) (.slice p' ny c')) { b with os:=YS,po:=p',co:=c' }):=Lib.hid ⟨HPn.out p' c',(hres.base HO.out).zAC hst (by have:=hrow.lt;simp;omega) (fun z hz=>by rw [List.mem_singleton.1 hz];exact ⟨by omega,hA2⟩)⟩
   have Hwz:=Lib.hid hwz;clear rO rOb hrz hst hwz hown hg hx hxq hrow hat hHB g3 h1 h2 h3 hYS hny hnu ho2 hown2 hx2 hb1 hb2 hra hres hA2 hnA hRb hRr hRt hRd hRs hC0 HSO HatL hgp hgN hnx;go_wp2_with fail;rw [← Hwz.out];exact bodyPost_ret (qO rfl _ _ _ rfl Hrz.out Tryz.underlying38 jH) rfl ⟨{ b with os:=YS,po:=p',co:=c' },cur.set (o+3) (.slice p' ny c'),by rw [HE.out.1];rfl,by rw [HE.out.1],HE.out.2,rfl,rfl,rfl⟩
  ·skip
   go_upto_region 4 with (fail)
   have HRowa:=Lib.hid (Hrow.out.zB HOa.out);have HatL:=Hat.out;have hgp:g ∉ blk b.po:=hgpo;have hgN2:g < w2.heap.size:=(by have:=Hsz.out;omega);replace hgN:=hgN2
   have hnx:w0.heap.size ∉ g :: blk b.po:=fun h=>by
    have h5:=hHB.out
    rcases List.mem_cons.1 h with h | h
    ·have:=h5.2.2.2.2.1.lt;omega
    ·have:=(h5.1.so.view.2.2.2.2.2.2 _ h).2;omega
   have hxa:=Hr1.out.zB HOa.out;have x0:=hxa.cell (i:=0) rfl;have x1:=hxa.cell (i:=1) rfl;have x2:=hxa.cell (i:=2) rfl;have x3:=hxa.cell (i:=3) rfl;have x4:=hxa.cell (i:=4) rfl;have HX:Hid (∀ w,Only (g :: blk b.po) wa w→w.cell? ⟨w0.heap.size,0,none⟩=some (.string (str x.o.key))∧w.cell? ⟨w0.heap.size,1,none⟩=some (.int .i64 x.o.size)∧w.cell? ⟨w0.heap.size,2,none⟩=some (.string (str x.o.etag))∧w.cell? ⟨w0.heap.size,3,none⟩=some (.int .i64 x.o.time)∧w.cell? ⟨w0.heap.size,4,none⟩=some (.slice x.q nq x.c)):=Lib.hid (fun w h=>⟨h.cell x0 hnx,h.cell x1 hnx,h.cell x2 hnx,h.cell x3 hnx,h.cell x4 hnx⟩)
   clear hxa x0 x1 x2 x3 x4;have HSO:∀ z∈[g],z < w2.heap.size∧z ∉ blk b.po:=fun z hz=>(by rw [List.mem_singleton.1 hz];exact ⟨hgN,hgp⟩);have hRr:∀ x,(Only (g :: blk b.po)) x x:=fun x=>Only.refl _ _;have hRt:∀ x y z,(Only (g :: blk b.po)) x y→(Only (g :: blk b.po)) y z→(Only (g :: blk b.po)) x z:=fun _ _ _ h k=>h.trans k (fun _ h _=>h);have hRd:(Only (g :: blk b.po)) wa wa.drew:=(Only.drew _).mono (by simp)
   have hRs:∀ j w,zZ [(8,Only (blk b.po)),(11,Only [g])] j w w:=zZ.refl (by
    intro x hx w;simp only [List.mem_cons,List.not_mem_nil,or_false] at hx
    rcases hx with rfl | rfl <;> exact Only.refl _ _)
   have hC0:∀ d∈[8,11],(fun (i:Nat) (a:World)=>(i=8→Only [] wa a)∧(i=11→Row a g 60 cur)) d wa.drew:=fun _ _=>⟨fun _=>Only.drew _,fun _=>HRowa.out.zB (Only.drew _)⟩;refine zU (Only (g :: blk b.po)) (zZ [(8,Only (blk b.po)),(11,Only [g])]) (fun (i:Nat) (a:World)=>(i=8→Only [] wa a)∧(i=11→Row a g 60 cur)) [8,11] [[(0,none)],[(0,none)],[(29,some 0)],[(30,some 0)],[(31,some 0)],[(3,none)],[(33,some 0)],[(3,none)],[(32,some 3),(34,some 1),(35,some 0)],[(28,some 8)],[(37,some 0)],[(38,some 0),(36,some 2)]] [] [0] [none,none,none,none,none,none,none,none,none,none,none,none,none,none,none,none,none,none,none,none,none,none,none,none,none,none,none,none,some 28,some 29,some 30,some 31,some 32,some 33,some 34,some 35,some 36,some 37,some 38,none,none,none] (by kernel_rfl) rfl (by kernel_rfl) hRr hRt hRs hRd hC0 (by kernel_rfl) (by kernel_rfl) ?_
   apply zF
   ·rintro a w hR hC ⟨(e0:_=_),-⟩;refine zA rfl fun K hK=>?_;go_simp;exact hK _ _ rfl ⟨hRr _,hRs _ _,fun _ _ _ _ h=>h⟩
   apply zF
   ·rintro a w hR hC ⟨(e0:_=_),-⟩;refine zA rfl fun K hK=>?_;go_simp;exact hK _ _ rfl ⟨hRr _,hRs _ _,fun _ _ _ _ h=>h⟩
   apply zF
   ·rintro a w hR hC ⟨(e29:_=_),-⟩;refine zA rfl fun K hK=>?_;go_simp;exact hK _ _ rfl ⟨hRr _,hRs _ _,fun _ _ _ _ h=>h⟩
   apply zF
   ·rintro a w hR hC ⟨(e30:_=_),-⟩;refine zA rfl fun K hK=>?_;go_simp;exact hK _ _ rfl ⟨hRr _,hRs _ _,fun _ _ _ _ h=>h⟩
   apply zF
   ·rintro a w hR hC ⟨(e31:_=_),-⟩;refine zA rfl fun K hK=>?_;have rz:=(hC 11 (by simp) (by kernel_rfl)).2 rfl;have z3:=HatL.cell rz (r:=3) rfl;go_simp;exact hK _ _ rfl ⟨hRr _,hRs _ _,fun _ _ _ _ h=>h⟩
   apply zF
   ·rintro a w hR hC ⟨(e3:_=_),-⟩;refine zA rfl fun K hK=>?_;go_simp;exact hK _ _ rfl ⟨hRr _,hRs _ _,fun _ _ _ _ h=>h⟩
   apply zF
   ·rintro a w hR hC ⟨(e33:_=_),-⟩;refine zA rfl fun K hK=>?_;obtain ⟨q0,q1,q2,q3,q4⟩:=HX.out w hR;go_simp;exact hK _ _ rfl ⟨hRr _,hRs _ _,fun _ _ _ _ h=>h⟩
   apply zF
   ·rintro a w hR hC ⟨(e3:_=_),-⟩;refine zA rfl fun K hK=>?_;obtain ⟨q0,q1,q2,q3,q4⟩:=HX.out w hR;go_simp;exact hK _ _ rfl ⟨hRr _,hRs _ _,fun _ _ _ _ h=>h⟩
   refine ⟨SlP zH 48 5 B b.po w2.heap.size ny YS,zL SlP.stable (by intro x hx hk;simp only [List.mem_cons,List.not_mem_nil,or_false] at hx;rcases hx with rfl | rfl <;> first | exact Bool.noConfusion (hk.symm.trans (by kernel_rfl:_=true)) | (refine SlP.jC ?_;exact HSO;done)),fun a w hR hC hf=>?_,?_⟩
   ·obtain ⟨e32,e34,e35,-⟩:=hf;replace e32:a.tmps.getD 32 undef=_:=e32;replace e34:a.tmps.getD 34 undef=_:=e34;replace e35:a.tmps.getD 35 undef=_:=e35;refine zA rfl fun K hK=>?_;have hC5:=(hC 8 (by simp) (by kernel_rfl)).1 rfl;go_simp;(with_reducible refine (HS.out w (HO.out.zC (HOa.out.zC hC5)) (HOa.out.zC hC5).size).mono ?_);rintro e w' ⟨p',c',rfl,h1,h2,h3⟩;replace h3:∀ z∈blk p',z∈blk b.po∨w2.heap.size≤z:=h3;exact hK _ _ ⟨_,_,rfl,h1,h3⟩ ⟨h2.mono (fun x hx=>List.mem_cons_of_mem _ hx),h2,fun i hi hne ha hc=>⟨fun e=>absurd e hne,fun e=>(hc.2 e).only h2 hgp⟩⟩
   apply zF
   ·rintro a w hR hC ⟨(e28:_=_),-⟩;refine zA rfl fun K hK=>?_;go_simp;exact hK _ _ rfl ⟨hRr _,hRs _ _,fun _ _ _ _ h=>h⟩
   apply zF
   ·rintro a w hR hC ⟨(e37:_=_),-⟩;refine zA rfl fun K hK=>?_;go_simp;exact hK _ _ rfl ⟨hRr _,hRs _ _,fun _ _ _ _ h=>h⟩
   refine ⟨SlR zH 48 5 B b.po w2.heap.size ny YS (g) 60 cur (o+3),zL SlR.stable (by intro x hx hk;simp only [List.mem_cons,List.not_mem_nil,or_false] at hx;rcases hx with rfl | rfl <;> exact Bool.noConfusion (hk.symm.trans (by kernel_rfl:_=true))),fun a w hR hC hf=>?_,?_⟩
   ·obtain ⟨e38,e36,-⟩:=hf;replace e38:a.tmps.getD 38 undef=_:=e38;replace e36:SlP zH 48 5 B b.po w2.heap.size ny YS (a.tmps.getD 36 undef) w:=e36;refine zA rfl fun K hK=>?_;obtain ⟨p',c',e36,hown',hb'⟩:=e36;have rz:=(hC 11 (by simp) (by kernel_rfl)).2 rfl;have zc:=HatL.cell rz (r:=3) rfl;have zf:=rz.free (o+3);go_simp;have hst:=Only.setCell w ⟨g,o+3,none⟩ (.slice p' (ny) c');refine hK undef _ ⟨p',c',hown'.jL hst (fun z hz hm=>?_),hb',rz.setCell (o+3) _⟩ ⟨hst.mono (by simp),hst,fun i hi hne ha hc=>?_⟩
    ·rcases hb' z hz with h4 | h4
     ·exact (HSO z hm).2 h4
     ·have:=(HSO z hm).1;omega
    ·simp only [List.mem_cons,List.not_mem_nil,or_false] at hi
     rcases hi with rfl | rfl
     ·exact Bool.noConfusion (ha.symm.trans (by kernel_rfl:_=true))
     ·exact absurd rfl hne
   intro fb wb hRb hf hlb;dsimp only [qE];obtain ⟨l11,-⟩:=hlb;replace l11:∃ v,(SlR zH 48 5 B b.po w2.heap.size ny YS (g) 60 cur (o+3)) v wb:=l11;have HOb:=Lib.hid hRb;obtain ⟨_,p',c',h1,h2,h3⟩:=l11;obtain ⟨hown,hg,hx,hxq,hrow,hat⟩:=hHB.out;obtain ⟨hYS,hny,hnu⟩:=HY.out;rw [← hny] at h1;have ho2:Only (g :: blk b.po) w2 wb:=(HOa.out.mono (by simp)).trans hRb (fun _ h _=>h);have hown2:=hown.zB HO.out;have hx2:zCc w2 B x:=zN.zB hx HO.out
   have hbo:=hown2.vC (S:=g :: blk b.po) (new:=blk x.q) ho2 (fun z hz=>by
    rcases List.mem_cons.1 hz with rfl | hz
    ·exact .inr ⟨hg,fun h=>(hxq _ h).2 rfl⟩
    ·exact .inl hz) h1 (fun y hy=>by
    rw [← hYS] at hy
    rcases put_mem hy with rfl | h
    ·exact .inr ⟨hx2,fun z hz=>hz⟩
    ·exact .inl h) h2 (by rw [← hYS];exact zBy (fun x:qG=>blk x.q) b.os x.o.key x) (yU _) (fun z hz=>⟨(hxq z hz).1,(ownIn hx2 z hz).2⟩)
   obtain ⟨hb1,hb2⟩:=hbo
   have hra:jF o (cur.set (o+3) (.slice p' ny c')) (zD { b with os:=YS,po:=p',co:=c' }):=by
    have h9:=hat.set (i:=3) (.slice p' ny c') (by rw [zQ];omega);rw [← hny] at h9 ⊢;exact h9
   have hres:qX w2 wb B g o cur b (blk x.q) (cur.set (o+3) (.slice p' ny c')) { b with os:=YS,po:=p',co:=c' }:=⟨h3,hra,Outside.set o 5 cur _ (by omega) (by omega),hb1,hb2,ho2.mono (fun z hz=>by
    rcases List.mem_cons.1 hz with rfl | hz
    ·exact List.mem_cons_self ..
    ·exact List.mem_cons_of_mem _ (by unfold LBk.fp;exact List.mem_append_left _ hz))⟩
   have hA2:w0.heap.size+1 ∉ ({ b with os:=YS,po:=p',co:=c' }:LBk).fp:=fun hm=>by
    rcases hb2 _ hm with h | h | h
    ·have:=(hown.lo _ h).2;omega
    ·have:=(ownIn hx _ h).2;omega
    ·have:=Hsz.out;omega
   have hnA:w0.heap.size+1 ∉ g :: blk b.po:=fun h=>by
    rcases List.mem_cons.1 h with h | h
    ·have:=hrow.lt;omega
    ·have:=(hown.so.view.2.2.2.2.2.2 _ h).2;omega
   have rOb:=rO.only hRb hnA;have c0:=rOb.cell (i:=0) rfl;have c1:=rOb.cell (i:=1) rfl;have f0:=rOb.free 0;have f1:=rOb.free 1;have e2:=(HX.out wb hRb).2.2.1;have hrz:=rOb.set2 (.int .i64 0) (.string (str x.o.etag));have hst:=qB wb (w0.heap.size+1) (.int .i64 0) (.string (str x.o.etag));obtain ⟨wz,hwz⟩:∃ wz,wz=(wb.setCell ⟨w0.heap.size+1,0,none⟩ (.int .i64 0)).setCell ⟨w0.heap.size+1,1,none⟩ (.string (str x.o.etag)):=⟨_,rfl⟩;rw [← hwz] at hrz hst;have Hrz:=Lib.hid hrz;have HE:Hid (zAF b.b x.o=(({ b with os:=YS,po:=p',co:=c' }:LBk).b,⟨0,x.o.etag⟩)∧qX w0 wz B g o cur b (blk x.q) (cur.set (o+3) (.slice p' ny c')) { b with os:=YS,po:=p',co:=c' }):=Lib.hid ⟨HPn.out p' c',(hres.base HO.out).zAC hst (by have:=hrow.lt;simp;omega) (fun z hz=>by rw [List.mem_singleton.1 hz];exact ⟨by omega,hA2⟩)⟩
   have Hwz:=Lib.hid hwz;clear rO rOb hrz hst hwz hown hg hx hxq hrow hat hHB g3 h1 h2 h3 hYS hny hnu ho2 hown2 hx2 hb1 hb2 hra hres hA2 hnA hRb hRr hRt hRd hRs hC0 HSO HatL hgp hgN hnx;go_wp2_with fail;rw [← Hwz.out];exact bodyPost_ret (qO rfl _ _ _ rfl Hrz.out Tryz.underlying38 jH) rfl ⟨{ b with os:=YS,po:=p',co:=c' },cur.set (o+3) (.slice p' ny c'),by rw [HE.out.1];rfl,by rw [HE.out.1],HE.out.2,rfl,rfl,rfl⟩
end
section
open Go.RowKit
set_option maxHeartbeats 8000000 in
theorem zHJ (p:Option Addr) (n c:Nat) (xs:List qN) (k:Cid) (x:qN) (base:Nat) (w0:World) (hn:xs.length=n) (hb:n≤100000) (hown:zN w0 base 54 5 (.slice p n c) n (xs.flatMap zG)) (hbase:base≤w0.heap.size) (hs:jD qN.id ltI xs) :
  Calls Tryz.prog 100 #[.slice p n c,idV k,.func (.func 70) #[] #[],luV x] w0 fun e' w'=>∃ p' c',e'=.returned (.slice p' (jN qN.id ltI xs k x).length c')∧zN w' base 54 5 (.slice p' (jN qN.id ltI xs k x).length c') (jN qN.id ltI xs k x).length ((jN qN.id ltI xs k x).flatMap zG)∧Only (blk p) w0 w'∧∀ z∈blk p',z∈blk p∨w0.heap.size≤z:=by
 generalize hYS:jN qN.id ltI xs k x=YS;obtain ⟨i,hi⟩:∃ i,qV qN.id ltI xs k=i:=⟨_,rfl⟩;obtain ⟨b,hbt⟩:∃ b,qC qN.id ltI xs k=b:=⟨_,rfl⟩;have hile:i≤n:=(by rw [← hi,← hn];exact zAr _ _);obtain ⟨wa,hwa⟩:∃ wa,wa=w0.alloc (.cells #[.int .i64 k.node,.int .i64 k.boot,.int .i64 k.seq] 31):=⟨_,rfl⟩;obtain ⟨wb,hwb⟩:∃ wb,wb=wa.alloc (.cells #[.int .i64 x.u.id.node,.int .i64 x.u.id.boot,.int .i64 x.u.id.seq,.string (str x.u.key),.slice x.q x.u.parts.length x.c] 54):=⟨_,rfl⟩;have sa:wa.heap.size=w0.heap.size+1:=by rw [hwa];simp
 have owa:Only [] w0 wa:=(by rw [hwa];exact Only.alloc _ _);have owab:Only [] wa wb:=(by rw [hwb];exact Only.alloc _ _);have owb:Only [] w0 wb:=owa.zC owab;have rk:Row wb w0.heap.size 31 (zI k):=(show Row wa w0.heap.size 31 (zI k) by rw [hwa];exact Row.zV _ _ _ _ rfl).zB owab;have rb:Row wb (w0.heap.size+1) 54 [.int .i64 x.u.id.node,.int .i64 x.u.id.boot,.int .i64 x.u.id.seq,.string (str x.u.key),.slice x.q x.u.parts.length x.c]:=(by rw [← sa,hwb];exact Row.zV _ _ _ _ rfl);have k0:=rk.cell (i:=0) rfl;have k1:=rk.cell (i:=1) rfl;have k2:=rk.cell (i:=2) rfl
 rw [hwa] at hwb;unfold idV;clear rk owab owa sa hwa;have hbs:=zEH p n c xs k wb hn (by omega) (fun h=>(hown.view.2.2.2.1 h).1) (hown.view.2.2.1.zB owb) hs;rw [hi,hbt] at hbs;unfold idV at hbs;have Hw:=Lib.hid hwb;have Ho:=Lib.hid owb;have Hrb:=Lib.hid rb;have Hb:=Lib.hid hbs;have hile2:(i:Int)≤(n:Int):=by omega
 cases b with
 | true =>
  have hput:YS=xs.set i x:=(by rw [← hYS];unfold jN;rw [hbt,if_pos rfl,hi]);obtain ⟨y,hy,-⟩:=jQ hbt;rw [hi] at hy;have hin:i < n:=(by have:=(List.getElem?_eq_some_iff.1 hy).1;omega);have hini:(i:Int) < (n:Int):=(by omega);obtain ⟨g,-,rfl,-,-⟩:=hown.rowOf (by omega);obtain ⟨rest,hrow,hlen,hnc,hcm,hgb,-⟩:=hown.row;have hYl:YS.length=n:=(by rw [hput,List.length_set,hn]);rw [hYl];have Hrow:=Lib.hid hrow;have HF:Hid (YS=xs.set i x∧xs[i]?=some y∧xs.length=n∧base≤g∧n≤c∧c≤9223372036854775807∧(xs.flatMap zG ++ rest).length=c * 5):=Lib.hid ⟨hput,hy,hn,hgb,hnc,hcm,hlen⟩
  clear hYS hi hbt hwb owb rb hbs hput hy hown hrow hlen hnc hcm hgb hYl hn hs;unfold luV
  go_enter Tryz.func100,Tryz.ntmps100
  go_wp2_with fail;rw [← Hw.out];refine Hb.out.mono ?_;clear k0 k1 k2;rintro e1 w1 ⟨rfl,o1⟩;have o01:Only [] w0 w1:=Ho.out.zC o1;have r1:=Hrow.out.zB o01;have rx:=Hrb.out.zB o1;obtain ⟨h1,hy,hn,hgb,hnc,hcm,hlen⟩:=HF.out;have hra:=jZ (rest:=rest) zT hy;have x0:=hra.cell r1 (r:=0) rfl;have x1:=hra.cell r1 (r:=1) rfl;have x2:=hra.cell r1 (r:=2) rfl;have x3:=hra.cell r1 (r:=3) rfl;have x4:=hra.cell r1 (r:=4) rfl;rw [Nat.add_zero] at x0;have y0:=r1.free (i * 5);have y1:=r1.free (i * 5+1);have y2:=r1.free (i * 5+2)
  have y3:=r1.free (i * 5+3);have y4:=r1.free (i * 5+4);have a0:=rx.cell (i:=0) rfl;have a1:=rx.cell (i:=1) rfl;have a2:=rx.cell (i:=2) rfl;have a3:=rx.cell (i:=3) rfl;have a4:=rx.cell (i:=4) rfl;obtain ⟨wz,hwz⟩:∃ wz,wz=(((((w1.setCell ⟨g,i * 5,none⟩ (.int .i64 x.u.id.node)).setCell ⟨g,i * 5+1,none⟩ (.int .i64 x.u.id.boot)).setCell ⟨g,i * 5+2,none⟩ (.int .i64 x.u.id.seq)).setCell ⟨g,i * 5+3,none⟩ (.string (str x.u.key))).setCell ⟨g,i * 5+4,none⟩ (.slice x.q x.u.parts.length x.c)):=⟨_,rfl⟩;have ozz:Only [g] w1 wz:=by rw [hwz];exact (((((Only.setCell _ ⟨g,i * 5,none⟩ _).trans (Only.setCell _ ⟨g,i * 5+1,none⟩ _) (fun _ h _=>h)).trans (Only.setCell _ ⟨g,i * 5+2,none⟩ _) (fun _ h _=>h)).trans (Only.setCell _ ⟨g,i * 5+3,none⟩ _) (fun _ h _=>h)).trans (Only.setCell _ ⟨g,i * 5+4,none⟩ _) (fun _ h _=>h))
  have hra2:=(((((hra.set (i:=0) (.int .i64 x.u.id.node) (by simp only [List.length_set,zT];omega)).set (i:=1) (.int .i64 x.u.id.boot) (by simp only [List.length_set,zT];omega)).set (i:=2) (.int .i64 x.u.id.seq) (by simp only [List.length_set,zT];omega)).set (i:=3) (.string (str x.u.key)) (by simp only [List.length_set,zT];omega)).set (i:=4) (.slice x.q x.u.parts.length x.c) (by simp only [List.length_set,zT];omega));have hrz:=(((((r1.setCell (i * 5) (.int .i64 x.u.id.node)).setCell (i * 5+1) (.int .i64 x.u.id.boot)).setCell (i * 5+2) (.int .i64 x.u.id.seq)).setCell (i * 5+3) (.string (str x.u.key))).setCell (i * 5+4) (.slice x.q x.u.parts.length x.c))
  rw [← hwz] at hrz;have hE:=zN.zAz (y:=x) (by omega) zT hgb hn hin hnc hcm hlen hrz (((((Outside.set (i * 5) 5 _ (i:=i * 5) (.int .i64 x.u.id.node) (by omega) (by omega)).trans (Outside.set (i * 5) 5 _ (i:=i * 5+1) (.int .i64 x.u.id.boot) (by omega) (by omega))).trans (Outside.set (i * 5) 5 _ (i:=i * 5+2) (.int .i64 x.u.id.seq) (by omega) (by omega))).trans (Outside.set (i * 5) 5 _ (i:=i * 5+3) (.string (str x.u.key)) (by omega) (by omega))).trans (Outside.set (i * 5) 5 _ (i:=i * 5+4) (.slice x.q x.u.parts.length x.c) (by omega) (by omega))) hra2;rw [← h1] at hE
  have HE:Hid (zN wz base 54 5 (.slice (some ⟨g,0,none⟩) n c) n (YS.flatMap zG)∧Only (blk (some (⟨g,0,none⟩:Addr))) w0 wz):=Lib.hid ⟨hE,(o01.mono (fun _ h=>by cases h)).trans ozz (fun _ h _=>h)⟩;have Hz:=Lib.hid hwz;clear hwz ozz hra hra2 hrz hE r1 rx o1 o01 h1 hy hn hgb hnc hcm hlen HF Hrow Hrb Hb;go_wp2_with fail;rw [← Hz.out]
  go_ret
  exact ⟨_,_,rfl,HE.out.1,HE.out.2,fun z hz=>.inl hz⟩
 | false =>
  have hput:YS=xs.take i ++ x :: xs.drop i:=(by rw [← hYS];unfold jN;rw [hbt,if_neg (by simp),hi]);have hYl:YS.length=n+1:=(by rw [hput];simp;omega);rw [hYl];have HF:Hid (YS=xs.take i ++ x :: xs.drop i∧xs.length=n∧zN w0 base 54 5 (.slice p n c) n (xs.flatMap zG)):=Lib.hid ⟨hput,hn,hown⟩;clear hYS hi hbt hwb owb rb hbs hput hown hYl hn hs;unfold luV
  go_enter Tryz.func100,Tryz.ntmps100
  go_wp2_with fail;rw [← Hw.out];refine Hb.out.mono ?_;clear k0 k1 k2;rintro e1 w1 ⟨rfl,o1⟩;have o01:Only [] w0 w1:=Ho.out.zC o1;have rx:=Hrb.out.zB o1;obtain ⟨h1,hn,hown⟩:=HF.out;obtain ⟨wv,hwv⟩:∃ wv,wv=w1.alloc (.cells #[.int .i64 x.u.id.node,.int .i64 x.u.id.boot,.int .i64 x.u.id.seq,.string (str x.u.key),.slice x.q x.u.parts.length x.c] 54):=⟨_,rfl⟩;have ov:Only [] w1 wv:=(by rw [hwv];exact Only.alloc _ _);have rv:Row wv w1.heap.size 54 (zG x):=(by rw [hwv];exact Row.zV _ _ _ _ rfl);have hlo:=hown.view.2.2.2.2.2.2;have hsz:=o01.size
  have hins:=zGi p n c xs x i w1.heap.size base wv (hown.zB (o01.zC ov)) (by have:=ov.size;omega) hn hile (by omega) rv (fun hm=>by have:=(hlo _ hm).2;omega);rw [← h1] at hins;have Hi:=Lib.hid hins;have Hv:=Lib.hid hwv;have Hov:Hid (Only [] w0 wv):=Lib.hid (o01.zC ov);have a0:=rx.cell (i:=0) rfl;have a1:=rx.cell (i:=1) rfl;have a2:=rx.cell (i:=2) rfl;have a3:=rx.cell (i:=3) rfl;have a4:=rx.cell (i:=4) rfl;clear hins hwv ov rv hlo rx o1 h1 hn hown HF Hrb Hb;go_wp2_with fail;rw [← Hv.out];refine Hi.out.mono ?_;rintro e2 w2 ⟨p',c',rfl,h1,h2,h3⟩
  have HE:Hid (zN w2 base 54 5 (.slice p' (n+1) c') (n+1) (YS.flatMap zG)∧Only (blk p) w0 w2∧∀ z∈blk p',z∈blk p∨w0.heap.size≤z):=Lib.hid ⟨h1,(Hov.out.mono (fun _ h=>by cases h)).trans h2 (fun _ h _=>h),fun z hz=>(h3 z hz).imp id (fun h=>by have:=Hov.out.size;omega)⟩;clear h1 h2 h3 Hi Hv Hov;go_wp2_with fail
  go_ret
  exact ⟨_,_,rfl,HE.out⟩
end
section
open Go.RowKit
set_option maxHeartbeats 8000000 in
theorem zHD (p:Option Addr) (n c:Nat) (xs:List qU) (x:qU) (i vb base:Nat) (w:World) (hown:zN w base 111 6 (.slice p n c) n (xs.flatMap zM)) (hbase:base≤w.heap.size) (hl:xs.length=n) (hin:i≤n) (hnb:n≤1000000) (hv:Row w vb 111 (zM x)) (hvp:vb ∉ blk p) :
  Calls Tryz.prog 152 #[.slice p n c,.int .i64 (i:Int),.slice (some ⟨vb,0,none⟩) 1 1] w fun e' w'=>∃ p' c',e'=.returned (.slice p' (n+1) c')∧zN w' base 111 6 (.slice p' (n+1) c') (n+1) ((xs.take i ++ x :: xs.drop i).flatMap zM)∧Only (blk p) w w'∧∀ z∈blk p',z∈blk p∨w.heap.size≤z:=by
 generalize hYS:xs.take i ++ x :: xs.drop i=YS
 by_cases hi:i=n
 ·subst hi;obtain ⟨p',c',w2,hr,o2,h2⟩:=xN (P:=Tryz.prog) (t:=52) (ty:=52) (m:=1) (c:=1) (q:=some ⟨vb,0,none⟩) (news:=zM x) w Tryz.underlying52 Tryz.infoPt rfl (by omega) hown hv.rd0 (by rw [zW]) (by simp) (yH x) (by omega) (by omega) hbase;have hat:=xR (P:=Tryz.prog) (t:=52) (ty:=52) (m:=1) (c:=1) (q:=some ⟨vb,0,none⟩) (news:=zM x) w Tryz.underlying52 Tryz.infoPt rfl (by omega) hown hv.rd0 (by rw [zW]) (by simp) (yH x) (by omega) (by omega) hr;have Hr:=Lib.hid hr
  have HE:Hid (zN w2 base 111 6 (.slice p' (i+1) c') (i+1) (YS.flatMap zM)∧Only (blk p) w w2∧∀ z∈blk p',z∈blk p∨w.heap.size≤z):=Lib.hid ⟨by
   rw [← hYS,List.take_of_length_le (by omega),List.drop_eq_nil_of_le (by omega),List.flatMap_append,List.flatMap_cons,List.flatMap_nil,List.append_nil];exact o2,h2,fun z hz=>by
   rcases hat with rfl | ⟨g,rfl,hg⟩
   ·exact .inl hz
   ·simp [blk] at hz;subst hz;exact .inr hg⟩
  clear hr o2 h2 hat hown hv hvp hbase hYS
  go_enter Tryz.func152,Tryz.ntmps152
  go_wp2_with (first | (at_builtin;refine qP (s:=.tmp 23) (x:=.tmp 24) rfl rfl rfl rfl Hr.out ?_))
  all_goals
   go_ret
   exact ⟨p',c',rfl,HE.out⟩
 ·have hlt:i < n:=(by omega);obtain ⟨g,rfl,hgb,hgl⟩:=hown.at (by omega);have hvw:=hown.view;have hold:Rd w (some ⟨g,0,none⟩) ((xs.take i).flatMap zM):=zBw zW hvw.2.2.1 i
  have hsrc:∀ W:World,Only [] w W→∀ j v,((xs.drop i).flatMap zM)[j]?=some v→W.cell? ((⟨g,i * 6,none⟩:Addr).add j)=some v:=fun W ho j v hj=>by
   rw [← xU zM 6 zW,List.getElem?_drop] at hj;have:=(hvw.2.2.1.zB ho).cells _ _ hj;rw [Addr.add_lit] at this ⊢;rw [Nat.zero_add] at this;exact this
  have hA:((xs.take i).flatMap zM).length=i * 6:=(by rw [qR zM 6 zW,List.length_take];congr 1;omega);have hB:((xs.drop i).flatMap zM).length=(n - i) * 6:=(by rw [qR zM 6 zW,List.length_drop,hl]);have hsz:(Tryz.prog.info? 111).map (·.size)=some 6:=(by kernel_rfl);have h1B:∀ v∈(xs.drop i).flatMap zM,v.oneCell'=true:=fun v hv=>vD zM yH hv;have hxl:=zW x;have hgv:g≠vb:=fun e1=>hvp (by simp [blk,e1]);have hi0:¬ ((i:Int)=(n:Int)):=(by omega);have hq0:((i:Int) == (n:Int))=false:=beq_eq_false_iff_ne.2 hi0
  have hw1:IntKind.i64.wrap ((n:Int)+1)=(n:Int)+1:=(by rw [IntKind.wrap_i64];omega);have hw2:IntKind.i64.wrap ((i:Int)+1)=(i:Int)+1:=(by rw [IntKind.wrap_i64];omega);have hini:(i:Int)≤(n:Int):=(by omega);have hvsrc:∀ W:World,Row W vb 111 (zM x)→∀ j v,(zM x)[j]?=some v→W.cell? ((⟨vb,0,none⟩:Addr).add j)=some v:=fun W r j v hj=>by rw [Addr.add_lit,Nat.zero_add];exact r.cell hj
  by_cases hroom:n+1≤c
  ·-- room: in place
   obtain ⟨rest,hrow,hlen,hnc,hcm,hgB,hA0⟩:=hown.row;obtain ⟨L,hL⟩:∃ L,L=xs.flatMap zM ++ rest:=⟨_,rfl⟩;rw [← hL] at hrow hlen;have hAt:L.take (i * 6)=(xs.take i).flatMap zM:=(by rw [hL,List.take_append_of_le_length (by rw [hA0];exact Nat.mul_le_mul_right _ hin),yI zM 6 zW]);have e1:(i+1) * 6=i * 6+6:=Nat.succ_mul i 6;have hnk:i * 6+6+(n - i) * 6=(n+1) * 6:=(by rw [← e1,← Nat.add_mul];congr 1;omega);have hcK:=Nat.mul_le_mul_right 6 hroom
   have hsrcL:∀ W:World,Row W g 111 L→∀ j v,((xs.drop i).flatMap zM)[j]?=some v→W.cell? ((⟨g,i * 6,none⟩:Addr).add j)=some v:=fun W r j v hj=>by
    rw [Addr.add_lit];refine r.cell ?_;have hj1:=(List.getElem?_eq_some_iff.1 hj).1;have hik:=Nat.mul_le_mul_right 6 hin;have hdd:i * 6+(n - i) * 6=n * 6:=(by rw [← Nat.add_mul];congr 1;omega);rw [hL,List.getElem?_append_left (by rw [hA0];omega),← List.getElem?_drop,xU zM 6 zW];exact hj
   have hcp1:=fun (W:World) (r:Row W g 111 L) (ty:TypeId) (dl dc sl sc:Nat) (hm:Nat.min sl dl=n - i)=>yG (P:=Tryz.prog) (dT:=52) (sT:=52) (ty:=ty) W (dLen:=dl) (dCap:=dc) (sLen:=sl) (sCap:=sc) (m:=n - i) (o:=(i+1) * 6) (a:=⟨g,i * 6,none⟩) Tryz.underlying52 hsz r hm hB (hsrcL W r) (by rw [hB,hlen];omega) h1B;have hcp2:=fun (W:World) (r:Row W g 111 (L.take ((i+1) * 6) ++ (xs.drop i).flatMap zM ++ L.drop ((i+1) * 6+((xs.drop i).flatMap zM).length))) (rx:Row W vb 111 (zM x)) (ty:TypeId) (dl dc:Nat) (hm:Nat.min 1 dl=1)=>yG (P:=Tryz.prog) (dT:=52) (sT:=52) (ty:=ty) W (dLen:=dl) (dCap:=dc) (sLen:=1) (sCap:=1) (m:=1) (o:=i * 6) (a:=⟨vb,0,none⟩) Tryz.underlying52 hsz r hm (by rw [hxl]) (hvsrc W rx) (by rw [hxl];simp only [List.length_append,List.length_take,List.length_drop];omega) (yH x)
   have hfin:=zFA hA hxl hB (R:=L) (by rw [hlen];omega) hAt
   have hov:∀ lb cb,(callFunc 164 #[.slice (some ⟨vb,0,none⟩) 1 1,.slice (some ⟨g,(i+1) * 6,none⟩) lb cb]).run Tryz.prog w=.ok (.value (.bool false)) w:=fun lb cb=>by
    rw [run_callFunc_extern Tryz.func164 (by kernel_rfl) (by kernel_rfl) (by kernel_rfl) (e:=Extern.SlicesOverlaps.overlaps #[52,52] #[4]) (by kernel_rfl),
     Lib.run_overlaps_apart w 52 4 111 Tryz.underlying52 6 (fun w=>by unfold sizeOf typeInfo;obtain ⟨ii,hii,-,hs2,-⟩:=info_partsK Tryz.infoPt;simp [hii,hs2]) ⟨vb,0,none⟩ ⟨g,(i+1) * 6,none⟩ 1 1 lb cb (fun e'=>hgv e'.symm) 111 111 _ _ (vH hv) (vH hrow) (by rw [List.size_toArray,hlen];omega) (hv.free 0) (hv.free _)]
    rfl
   have Hcp1:=Lib.hid hcp1;have Hcp2:=Lib.hid hcp2;have HF:Hid (base≤g∧n+1≤c∧c≤9223372036854775807∧L.length=c * 6∧xs.length=n∧i * 6+6+(n - i) * 6=(n+1) * 6∧(n+1) * 6≤c * 6∧((xs.drop i).flatMap zM).length=(n - i) * 6∧((xs.take i).flatMap zM).length=i * 6):=Lib.hid ⟨hgB,hroom,hcm,hlen,hl,hnk,hcK,hB,hA⟩;have Hfin:=Lib.hid hfin;have HYS:=Lib.hid hYS;have Hr0:=Lib.hid hrow;have Hv0:=Lib.hid hv;have Hgv:=Lib.hid hgv;have hroomI:(n:Int)+1≤(c:Int):=(by omega);have hroomJ:¬ (c:Int) < (n:Int)+1:=by omega
   have htn:((i:Int)+1).toNat=i+1:=(by omega);have htn2:((n:Int)+1).toNat=n+1:=(by omega);have hc1:¬ c=i+1:=(by omega);have hc0:¬ c=i:=(by omega);have hi01:(0:Int)≤(i:Int)+1:=(by omega);have hin1:(i:Int)+1≤(n:Int)+1:=(by omega);have hin2:(i:Int)≤(n:Int)+1:=(by omega);have hn01:(0:Int)≤(n:Int)+1:=(by omega);clear hYS hcp1 hcp2 hfin hL hAt hA0 hgB hcm hlen hnk hcK hrow hsrcL hold hsrc hA hB hown hv hvsrc h1B hsz hxl e1 hvp hgv hvw
   go_enter Tryz.func152,Tryz.ntmps152
   go_upto_region 15 with (simp only [hov])
   clear hov;have hRr:∀ x,(Only [g]) x x:=fun x=>Only.refl _ _;have hRt:∀ x b e,(Only [g]) x b→(Only [g]) b e→(Only [g]) x e:=fun _ _ _ h k=>h.trans k (fun _ h _=>h);have hRd:(Only [g]) w w.drew:=(Only.drew _).mono (by simp)
   have hRs:∀ j w,zZ [(8,Only [g])] j w w:=zZ.refl (by
    intro x hx w;simp only [List.mem_cons,List.not_mem_nil,or_false] at hx
    rcases hx with rfl
    exact Only.refl _ _)
   have hC0:∀ d∈[8],(fun (_:Nat) (a:World)=>Row a g 111 L) d w.drew:=fun _ _=>Hr0.out.zB (Only.drew _);refine zU (Only [g]) (zZ [(8,Only [g])]) (fun (_:Nat) (a:World)=>Row a g 111 L) [8] [[(0,none)],[(1,none)],[(7,none)],[(70,some 1),(71,some 0)],[(69,some 3),(72,some 0)],[(0,none)],[(1,none)],[(74,some 1),(75,some 0)],[(73,some 3),(76,some 0)]] [] [0] [none,none,none,none,none,none,none,none,none,none,none,none,none,none,none,none,none,none,none,none,none,none,none,none,none,none,none,none,none,none,none,none,none,none,none,none,none,none,none,none,none,none,none,none,none,none,none,none,none,none,none,none,none,none,none,none,none,none,none,none,none,none,none,none,none,none,none,none,none,some 69,some 70,some 71,some 72,some 73,some 74,some 75,some 76,some 77,none,none,none,none,none,none,none,none,none,none,none,none,none,none,none,none,none] (by kernel_rfl) rfl (by kernel_rfl) hRr hRt hRs hRd hC0 (by kernel_rfl) (by kernel_rfl) ?_
   apply zF
   ·rintro a w hR hC ⟨(e0:_=_),-⟩;refine zA rfl fun K hK=>?_;go_simp;exact hK _ _ rfl ⟨hRr _,hRs _ _,fun _ _ _ _ h=>h⟩
   apply zF
   ·rintro a w hR hC ⟨(e1:_=_),-⟩;refine zA rfl fun K hK=>?_;go_simp;exact hK _ _ rfl ⟨hRr _,hRs _ _,fun _ _ _ _ h=>h⟩
   apply zF
   ·rintro a w hR hC ⟨(e7:_=_),-⟩;refine zA rfl fun K hK=>?_;go_simp;exact hK _ _ rfl ⟨hRr _,hRs _ _,fun _ _ _ _ h=>h⟩
   apply zF
   ·rintro a w hR hC ⟨(e70:_=_),(e71:_=_),-⟩;refine zA rfl fun K hK=>?_;go_simp;exact hK _ _ rfl ⟨hRr _,hRs _ _,fun _ _ _ _ h=>h⟩
   apply zF
   ·rintro a w hR hC ⟨(e69:_=_),(e72:_=_),-⟩;refine zA rfl fun K hK=>?_;go_simp;exact hK _ _ rfl ⟨hRr _,hRs _ _,fun _ _ _ _ h=>h⟩
   apply zF
   ·rintro a w hR hC ⟨(e0:_=_),-⟩;refine zA rfl fun K hK=>?_;go_simp;exact hK _ _ rfl ⟨hRr _,hRs _ _,fun _ _ _ _ h=>h⟩
   apply zF
   ·rintro a w hR hC ⟨(e1:_=_),-⟩;refine zA rfl fun K hK=>?_;go_simp;exact hK _ _ rfl ⟨hRr _,hRs _ _,fun _ _ _ _ h=>h⟩
   apply zF
   ·rintro a w hR hC ⟨(e74:_=_),(e75:_=_),-⟩;refine zA rfl fun K hK=>?_;go_simp;exact hK _ _ rfl ⟨hRr _,hRs _ _,fun _ _ _ _ h=>h⟩
   refine ⟨qH g 111 (L.take ((i+1) * 6) ++ (xs.drop i).flatMap zM ++ L.drop ((i+1) * 6+((xs.drop i).flatMap zM).length)),zL qH.stable (by intro x hx hk;simp only [List.mem_cons,List.not_mem_nil,or_false] at hx;rcases hx with rfl;exact Bool.noConfusion (hk.symm.trans (by kernel_rfl:_=true))),fun a w hR hC hf=>?_,?_⟩
   ·obtain ⟨e73,e76,-⟩:=hf;replace e73:a.tmps.getD 73 undef=_:=e73;replace e76:a.tmps.getD 76 undef=_:=e76;refine zA rfl fun K hK=>?_;have rz:Row w g 111 L:=hC 8 (by simp) (by kernel_rfl);have hst:=Only.setRow w g ((L.take ((i+1) * 6) ++ (xs.drop i).flatMap zM ++ L.drop ((i+1) * 6+((xs.drop i).flatMap zM).length))).toArray;refine yV (s:=.tmp 73) (x:=.tmp 76) rfl e73 e76 (Hcp1.out w rz _ _ _ _ _ (by simp only [Nat.min_def];split <;> omega)) ?_;exact hK _ _ (rz.setRow _) ⟨hst,hst,fun i hi hne ha hc=>absurd hi (by simp;omega)⟩
   intro f15 w15 hR15 hf hl15;dsimp only [qE];obtain ⟨l8,-⟩:=hl15;replace l8:∃ v,(qH g 111 (L.take ((i+1) * 6) ++ (xs.drop i).flatMap zM ++ L.drop ((i+1) * 6+((xs.drop i).flatMap zM).length))) v w15:=l8;have r1:Row w15 g 111 (L.take ((i+1) * 6) ++ (xs.drop i).flatMap zM ++ L.drop ((i+1) * 6+((xs.drop i).flatMap zM).length)):=(by obtain ⟨v,h⟩:=l8;exact h);have rx:=Hv0.out.only hR15 (by simpa using fun e=>Hgv.out e.symm);obtain ⟨h1,h2,h3,h4,h5,h6,h7,h8,h9⟩:=HF.out;obtain ⟨w4,hw4⟩:∃ w4,w4=w15.setRow g ((L.take ((i+1) * 6) ++ (xs.drop i).flatMap zM ++ L.drop ((i+1) * 6+((xs.drop i).flatMap zM).length)).take (i * 6) ++ zM x ++ (L.take ((i+1) * 6) ++ (xs.drop i).flatMap zM ++ L.drop ((i+1) * 6+((xs.drop i).flatMap zM).length)).drop (i * 6+(zM x).length)).toArray:=⟨_,rfl⟩
   have H2:=fun ty dl dc hm=>Hcp2.out w15 r1 rx ty dl dc hm;have o4:Only [g] w15 w4:=(by rw [hw4];exact Only.setRow _ _ _);have r4:=r1.setRow ((L.take ((i+1) * 6) ++ (xs.drop i).flatMap zM ++ L.drop ((i+1) * 6+((xs.drop i).flatMap zM).length)).take (i * 6) ++ zM x ++ (L.take ((i+1) * 6) ++ (xs.drop i).flatMap zM ++ L.drop ((i+1) * 6+((xs.drop i).flatMap zM).length)).drop (i * 6+(zM x).length));rw [← hw4] at r4 H2;have hxl:=zW x;have e1:(i+1) * 6=i * 6+6:=Nat.succ_mul i 6;rw [e1,hxl,h8,Hfin.out] at r4
   have hE:zN w4 base 111 6 (.slice (some ⟨g,0,none⟩) (n+1) c) (n+1) (YS.flatMap zM):=zN.ofRow r4 h1 h2 h3 (by rw [List.length_append,List.length_append,List.length_append,List.length_drop,h9,h8,hxl,h4];omega) (by
    have hlen:((xs.take i).flatMap zM ++ zM x ++ (xs.drop i).flatMap zM).length=(n+1) * 6:=by rw [List.length_append,List.length_append,h9,h8,hxl];omega
    rw [← HYS.out,List.take_left' hlen,List.flatMap_append,List.flatMap_cons,List.append_assoc])
   have HE:Hid (zN w4 base 111 6 (.slice (some ⟨g,0,none⟩) (n+1) c) (n+1) (YS.flatMap zM)∧Only (blk (some (⟨g,0,none⟩:Addr))) w w4∧∀ z∈blk (some (⟨g,0,none⟩:Addr)),z∈blk (some (⟨g,0,none⟩:Addr))∨w.heap.size≤z):=Lib.hid ⟨hE,hR15.trans o4 (fun _ h _=>h),fun z hz=>.inl hz⟩;have H2h:=Lib.hid H2;clear r1 rx h1 h2 h3 h4 h5 h6 h7 h8 h9 H2 o4 r4 hxl e1 hE HF Hfin HYS Hcp1 Hcp2 Hr0 Hv0 Hgv hRr hRt hRd hRs hC0 l8 hw4
   go_upto_region 17 with (fail)
   rw [H2h.out _ _ _ (by simp only [Nat.min_def];split <;> omega)];go_wp2_with fail
   go_ret
   exact ⟨some ⟨g,0,none⟩,c,rfl,HE.out⟩
  ·-- a new block
   have hk:i+(n+1 - i)=n+1:=(by omega);obtain ⟨g2,c2,w2,rest,hr,r2,hrl,hc2,hcm,hg2,o2⟩:=zFa (P:=Tryz.prog) (tn:=3) (kn:=.i64) (kq:=.i64) (ty:=52) (cap:=c) (k:=n+1 - i) w Tryz.underlying52 Tryz.underlying3 Tryz.infoPt rfl (by omega) hold hA (by omega) (by omega) (by omega) (by omega);rw [hk] at hr hc2;have hRl:((xs.take i).flatMap zM ++ rest).length=c2 * 6:=(by rw [List.length_append,hA];omega);have hcp1:=fun ty dc=>yG (P:=Tryz.prog) (sT:=52) (ty:=ty) w2 (dLen:=n+1 - i) (dCap:=dc) (sLen:=1) (sCap:=1) (m:=1) (o:=i * 6) (a:=⟨vb,0,none⟩) Tryz.underlying52 hsz r2 (by simp only [Nat.min_def];split <;> omega) (by rw [hxl]) (hvsrc w2 (hv.zB o2)) (by rw [hxl,hRl];have:=Nat.mul_le_mul_right 6 hc2;omega) (yH x)
   obtain ⟨w3,hw3⟩:∃ w3,w3=w2.setRow g2 (((xs.take i).flatMap zM ++ rest).take (i * 6) ++ zM x ++ ((xs.take i).flatMap zM ++ rest).drop (i * 6+(zM x).length)).toArray:=⟨_,rfl⟩;have r3:=r2.setRow (((xs.take i).flatMap zM ++ rest).take (i * 6) ++ zM x ++ ((xs.take i).flatMap zM ++ rest).drop (i * 6+(zM x).length));have o3:Only [g2] w2 w3:=(by rw [hw3];exact Only.setRow _ _ _);rw [← hw3] at r3 hcp1;rw [hxl] at r3;have o13:Only [] w w3:=o2.zY o3 (by simpa using hg2);have e1:(i+1) * 6=i * 6+6:=Nat.succ_mul i 6;have hnk:(n - i) * 6+(i+1) * 6=(n+1) * 6:=by rw [← Nat.add_mul];congr 1;omega
   have hc2K:=Nat.mul_le_mul_right 6 hc2
   have hl3:(((xs.take i).flatMap zM ++ rest).take (i * 6) ++ zM x ++ ((xs.take i).flatMap zM ++ rest).drop (i * 6+6)).length=c2 * 6:=by
    rw [List.length_append,List.length_append,List.length_take,List.length_drop,hRl,hxl];omega
   obtain ⟨L3,hL3⟩:∃ L3,L3=((xs.take i).flatMap zM ++ rest).take (i * 6) ++ zM x ++ ((xs.take i).flatMap zM ++ rest).drop (i * 6+6):=⟨_,rfl⟩;rw [← hL3] at r3 hl3
   have hcp2:=fun (W:World) (ho:Only [g2] w3 W) (r:Row W g2 111 L3) (ty:TypeId) (dl dc sl sc:Nat) (hm:Nat.min sl dl=n - i)=>yG (P:=Tryz.prog) (dT:=52) (sT:=52) (ty:=ty) W (dLen:=dl) (dCap:=dc) (sLen:=sl) (sCap:=sc) (m:=n - i) (o:=(i+1) * 6) (a:=⟨g,i * 6,none⟩) Tryz.underlying52 hsz r hm hB (fun j v hj=>by
    have h:=hsrc w3 o13 j v hj;rw [Addr.add_lit] at h ⊢
    exact ho.cell h (by simp;omega)) (by rw [hB,hl3];omega) h1B
   have hfin:=zIZ hA hxl hB (R:=(xs.take i).flatMap zM ++ rest) (by rw [hRl];omega) (List.take_left' hA);rw [← hL3] at hfin;have HF:Hid (base≤g2∧n+1≤c2∧c2≤9223372036854775807∧((xs.take i).flatMap zM ++ rest).length=c2 * 6∧(n - i) * 6+(i+1) * 6=(n+1) * 6∧(n+1) * 6≤c2 * 6∧((xs.drop i).flatMap zM).length=(n - i) * 6∧((xs.take i).flatMap zM).length=i * 6∧w.heap.size≤g2):=Lib.hid ⟨by omega,hc2,hcm,hRl,hnk,hc2K,hB,hA,hg2⟩;have Hfin:=Lib.hid hfin;have HYS:=Lib.hid hYS;have HO13:=Lib.hid o13;have HR3:=Lib.hid r3
   have Hcp2:=Lib.hid hcp2;have Hr:=Lib.hid hr;have H1:=Lib.hid (hcp1 3);have hroomI:¬ ((n:Int)+1≤(c:Int)):=(by omega);have hroomJ:(c:Int) < (n:Int)+1:=(by omega);have hkz:IntKind.i64.wrap ((n:Int)+1 - (i:Int))=((n+1 - i:Nat):Int):=(by rw [IntKind.wrap_i64];omega);have hkz2:wrap64 ((n:Int)+1 - (i:Int))=((n+1 - i:Nat):Int):=(by rw [IntWalk.wrap64_in _ (by omega)];omega);have htn:((i:Int)+1).toNat=i+1:=(by omega);have hcb:¬ c2=i:=(by omega);have hcb1:¬ c2=i+1:=(by omega);have hcbi:¬ c=i:=by have:=hvw.2.2.2.2.1;omega
   have hic2:(i:Int)≤(c2:Int):=(by omega);have hi01:(0:Int)≤(i:Int)+1:=(by omega);have hin1:(i:Int)+1≤(n:Int)+1:=(by omega);have hci:(i:Int)≤(c:Int):=(by have:=hvw.2.2.2.2.1;omega);clear hYS hr hcp1 hcp2 hfin hL3 r2 r3 o2 o3 o13 hw3 hvw hold hsrc hA hB hRl hl3 hown hv hvsrc h1B hsz hxl hc2K hnk e1 hrl hvp
   go_enter Tryz.func152,Tryz.ntmps152
   go_upto_region 11 with (at_builtin;refine qP (s:=.tmp 34) (x:=.tmp 39) rfl rfl rfl rfl Hr.out ?_)
   have h1:=H1.out (c2 - i);rw [h1];clear h1
   go_upto_region 11 with (fail)
   have hRr:∀ x,(Only [g2]) x x:=fun x=>Only.refl _ _;have hRt:∀ x b e,(Only [g2]) x b→(Only [g2]) b e→(Only [g2]) x e:=fun _ _ _ h k=>h.trans k (fun _ h _=>h);have hRd:(Only [g2]) w3 w3.drew:=(Only.drew _).mono (by simp)
   have hRs:∀ j w,zZ [(8,Only [g2])] j w w:=zZ.refl (by
    intro x hx w;simp only [List.mem_cons,List.not_mem_nil,or_false] at hx
    rcases hx with rfl
    exact Only.refl _ _)
   have hC0:∀ d∈[8],(fun (_:Nat) (a:World)=>Row a g2 111 L3) d w3.drew:=fun _ _=>HR3.out.zB (Only.drew _);refine zU (Only [g2]) (zZ [(8,Only [g2])]) (fun (_:Nat) (a:World)=>Row a g2 111 L3) [8] [[(9,none)],[(1,none)],[(7,none)],[(47,some 1),(48,some 0)],[(46,some 3),(49,some 0)],[(0,none)],[(1,none)],[(51,some 1),(52,some 0)],[(50,some 3),(53,some 0)]] [] [0] [none,none,none,none,none,none,none,none,none,none,none,none,none,none,none,none,none,none,none,none,none,none,none,none,none,none,none,none,none,none,none,none,none,none,none,none,none,none,none,none,none,none,none,none,none,none,some 46,some 47,some 48,some 49,some 50,some 51,some 52,some 53,some 54,none,none,none,none,none,none,none,none,none,none,none,none,none,none,none,none,none,none,none,none,none,none,none,none,none,none,none,none,none,none,none,none,none,none,none,none,none,none,none,none] (by kernel_rfl) rfl (by kernel_rfl) hRr hRt hRs hRd hC0 (by kernel_rfl) (by kernel_rfl) ?_
   apply zF
   ·rintro a w hR hC ⟨(e9:_=_),-⟩;refine zA rfl fun K hK=>?_;go_simp;exact hK _ _ rfl ⟨hRr _,hRs _ _,fun _ _ _ _ h=>h⟩
   apply zF
   ·rintro a w hR hC ⟨(e1:_=_),-⟩;refine zA rfl fun K hK=>?_;go_simp;exact hK _ _ rfl ⟨hRr _,hRs _ _,fun _ _ _ _ h=>h⟩
   apply zF
   ·rintro a w hR hC ⟨(e7:_=_),-⟩;refine zA rfl fun K hK=>?_;go_simp;exact hK _ _ rfl ⟨hRr _,hRs _ _,fun _ _ _ _ h=>h⟩
   apply zF
   ·rintro a w hR hC ⟨(e47:_=_),(e48:_=_),-⟩;refine zA rfl fun K hK=>?_;go_simp;exact hK _ _ rfl ⟨hRr _,hRs _ _,fun _ _ _ _ h=>h⟩
   apply zF
   ·rintro a w hR hC ⟨(e46:_=_),(e49:_=_),-⟩;refine zA rfl fun K hK=>?_;go_simp;exact hK _ _ rfl ⟨hRr _,hRs _ _,fun _ _ _ _ h=>h⟩
   apply zF
   ·rintro a w hR hC ⟨(e0:_=_),-⟩;refine zA rfl fun K hK=>?_;go_simp;exact hK _ _ rfl ⟨hRr _,hRs _ _,fun _ _ _ _ h=>h⟩
   apply zF
   ·rintro a w hR hC ⟨(e1:_=_),-⟩;refine zA rfl fun K hK=>?_;go_simp;exact hK _ _ rfl ⟨hRr _,hRs _ _,fun _ _ _ _ h=>h⟩
   apply zF
   ·rintro a w hR hC ⟨(e51:_=_),(e52:_=_),-⟩;refine zA rfl fun K hK=>?_;go_simp;exact hK _ _ rfl ⟨hRr _,hRs _ _,fun _ _ _ _ h=>h⟩
   refine ⟨qH g2 111 (L3.take ((i+1) * 6) ++ (xs.drop i).flatMap zM ++ L3.drop ((i+1) * 6+((xs.drop i).flatMap zM).length)),zL qH.stable (by intro x hx hk;simp only [List.mem_cons,List.not_mem_nil,or_false] at hx;rcases hx with rfl;exact Bool.noConfusion (hk.symm.trans (by kernel_rfl:_=true))),fun a w hR hC hf=>?_,?_⟩
   ·obtain ⟨e50,e53,-⟩:=hf;replace e50:a.tmps.getD 50 undef=_:=e50;replace e53:a.tmps.getD 53 undef=_:=e53;refine zA rfl fun K hK=>?_;have rz:Row w g2 111 L3:=hC 8 (by simp) (by kernel_rfl);have hst:=Only.setRow w g2 ((L3.take ((i+1) * 6) ++ (xs.drop i).flatMap zM ++ L3.drop ((i+1) * 6+((xs.drop i).flatMap zM).length))).toArray;refine yV (s:=.tmp 50) (x:=.tmp 53) rfl e50 e53 (Hcp2.out w hR rz _ _ _ _ _ (by simp only [Nat.min_def];split <;> omega)) ?_;exact hK _ _ (rz.setRow _) ⟨hst,hst,fun i hi hne ha hc=>absurd hi (by simp;omega)⟩
   intro f11 w11 hR11 hf hl11;dsimp only [qE];obtain ⟨l8,-⟩:=hl11;replace l8:∃ v,(qH g2 111 (L3.take ((i+1) * 6) ++ (xs.drop i).flatMap zM ++ L3.drop ((i+1) * 6+((xs.drop i).flatMap zM).length))) v w11:=l8;have r4:Row w11 g2 111 (L3.take ((i+1) * 6) ++ (xs.drop i).flatMap zM ++ L3.drop ((i+1) * 6+((xs.drop i).flatMap zM).length)):=(by obtain ⟨v,h⟩:=l8;exact h);obtain ⟨h1,h2,h3,h4,h5,h6,h7,h8,h9⟩:=HF.out;have hxl:=zW x;have e1:(i+1) * 6=i * 6+6:=Nat.succ_mul i 6;rw [e1,h7,Hfin.out] at r4
   have hE:zN w11 base 111 6 (.slice (some ⟨g2,0,none⟩) (n+1) c2) (n+1) (YS.flatMap zM):=zN.ofRow r4 h1 h2 h3 (by rw [List.length_append,List.length_append,List.length_append,List.length_drop,h8,h7,hxl,h4];omega) (by
    have hlen:((xs.take i).flatMap zM ++ zM x ++ (xs.drop i).flatMap zM).length=(n+1) * 6:=by rw [List.length_append,List.length_append,h8,h7,hxl];omega
    rw [← HYS.out,List.take_left' hlen,List.flatMap_append,List.flatMap_cons,List.append_assoc])
   have HE:Hid (zN w11 base 111 6 (.slice (some ⟨g2,0,none⟩) (n+1) c2) (n+1) (YS.flatMap zM)∧Only (blk (some (⟨g,0,none⟩:Addr))) w w11∧∀ z∈blk (some (⟨g2,0,none⟩:Addr)),z∈blk (some (⟨g,0,none⟩:Addr))∨w.heap.size≤z):=Lib.hid ⟨hE,((HO13.out.zY hR11 (by simpa using h9))).mono (by simp),fun z hz=>.inr (by simp [blk] at hz;omega)⟩;clear r4 h1 h2 h3 h4 h5 h6 h7 h8 h9 hxl e1 hE HF Hfin HYS HO13 HR3 Hcp2 hRr hRt hRd hRs hC0 l8;go_wp2_with fail
   go_ret
   exact ⟨some ⟨g2,0,none⟩,c2,rfl,HE.out⟩
end
section
open Go.RowKit
set_option maxHeartbeats 8000000 in
theorem zGs (p:Option Addr) (n c:Nat) (xs:List qU) (k:Int) (x:qU) (base:Nat) (w0:World) (hn:xs.length=n) (hb:n≤100000) (hown:zN w0 base 111 6 (.slice p n c) n (xs.flatMap zM)) (hbase:base≤w0.heap.size) (hs:jD qU.num ltZ xs) :
  Calls Tryz.prog 135 #[.slice p n c,.int .i64 k,.func (.func 136) #[] #[],ptV x] w0 fun e' w'=>∃ p' c',e'=.returned (.slice p' (jN qU.num ltZ xs k x).length c')∧zN w' base 111 6 (.slice p' (jN qU.num ltZ xs k x).length c') (jN qU.num ltZ xs k x).length ((jN qU.num ltZ xs k x).flatMap zM)∧Only (blk p) w0 w'∧∀ z∈blk p',z∈blk p∨w0.heap.size≤z:=by
 generalize hYS:jN qU.num ltZ xs k x=YS;obtain ⟨i,hi⟩:∃ i,qV qU.num ltZ xs k=i:=⟨_,rfl⟩;obtain ⟨b,hbt⟩:∃ b,qC qU.num ltZ xs k=b:=⟨_,rfl⟩;have hile:i≤n:=(by rw [← hi,← hn];exact zAr _ _);obtain ⟨wb,hwb⟩:∃ wb,wb=w0.alloc (.cells #[.int .i64 x.num,.int .i64 x.pc.blob.node,.int .i64 x.pc.blob.boot,.int .i64 x.pc.blob.seq,.int .i64 x.pc.size,.string (str x.pc.etag)] 111):=⟨_,rfl⟩;have owb:Only [] w0 wb:=(by rw [hwb];exact Only.alloc _ _);have rb:Row wb w0.heap.size 111 [.int .i64 x.num,.int .i64 x.pc.blob.node,.int .i64 x.pc.blob.boot,.int .i64 x.pc.blob.seq,.int .i64 x.pc.size,.string (str x.pc.etag)]:=by rw [hwb];exact Row.zV _ _ _ _ rfl
 have hbs:=zDv p n c xs k wb hn (by omega) (fun h=>(hown.view.2.2.2.1 h).1) (hown.view.2.2.1.zB owb) hs;rw [hi,hbt] at hbs;have Hw:=Lib.hid hwb;have Ho:=Lib.hid owb;have Hrb:=Lib.hid rb;have Hb:=Lib.hid hbs;have hile2:(i:Int)≤(n:Int):=by omega
 cases b with
 | true =>
  have hput:YS=xs.set i x:=(by rw [← hYS];unfold jN;rw [hbt,if_pos rfl,hi]);obtain ⟨y,hy,-⟩:=jQ hbt;rw [hi] at hy;have hin:i < n:=(by have:=(List.getElem?_eq_some_iff.1 hy).1;omega);have hini:(i:Int) < (n:Int):=(by omega);obtain ⟨g,-,rfl,-,-⟩:=hown.rowOf (by omega);obtain ⟨rest,hrow,hlen,hnc,hcm,hgb,-⟩:=hown.row;have hYl:YS.length=n:=(by rw [hput,List.length_set,hn]);rw [hYl];have Hrow:=Lib.hid hrow;have HF:Hid (YS=xs.set i x∧xs[i]?=some y∧xs.length=n∧base≤g∧n≤c∧c≤9223372036854775807∧(xs.flatMap zM ++ rest).length=c * 6):=Lib.hid ⟨hput,hy,hn,hgb,hnc,hcm,hlen⟩
  clear hYS hi hbt hwb owb rb hbs hput hy hown hrow hlen hnc hcm hgb hYl hn hs;unfold ptV
  go_enter Tryz.func135,Tryz.ntmps135
  go_wp2_with fail;rw [← Hw.out];refine Hb.out.mono ?_;rintro e1 w1 ⟨rfl,o1⟩;have o01:Only [] w0 w1:=Ho.out.zC o1;have r1:=Hrow.out.zB o01;have rx:=Hrb.out.zB o1;obtain ⟨h1,hy,hn,hgb,hnc,hcm,hlen⟩:=HF.out;have hra:=jZ (rest:=rest) zW hy;have x0:=hra.cell r1 (r:=0) rfl;have x1:=hra.cell r1 (r:=1) rfl;have x2:=hra.cell r1 (r:=2) rfl;have x3:=hra.cell r1 (r:=3) rfl;have x4:=hra.cell r1 (r:=4) rfl;have x5:=hra.cell r1 (r:=5) rfl;rw [Nat.add_zero] at x0;have y0:=r1.free (i * 6);have y1:=r1.free (i * 6+1);have y2:=r1.free (i * 6+2)
  have y3:=r1.free (i * 6+3);have y4:=r1.free (i * 6+4);have y5:=r1.free (i * 6+5);have a0:=rx.cell (i:=0) rfl;have a1:=rx.cell (i:=1) rfl;have a2:=rx.cell (i:=2) rfl;have a3:=rx.cell (i:=3) rfl;have a4:=rx.cell (i:=4) rfl;have a5:=rx.cell (i:=5) rfl;obtain ⟨wz,hwz⟩:∃ wz,wz=((((((w1.setCell ⟨g,i * 6,none⟩ (.int .i64 x.num)).setCell ⟨g,i * 6+1,none⟩ (.int .i64 x.pc.blob.node)).setCell ⟨g,i * 6+2,none⟩ (.int .i64 x.pc.blob.boot)).setCell ⟨g,i * 6+3,none⟩ (.int .i64 x.pc.blob.seq)).setCell ⟨g,i * 6+4,none⟩ (.int .i64 x.pc.size)).setCell ⟨g,i * 6+5,none⟩ (.string (str x.pc.etag))):=⟨_,rfl⟩
  have ozz:Only [g] w1 wz:=(by rw [hwz];exact ((((((Only.setCell _ ⟨g,i * 6,none⟩ _).trans (Only.setCell _ ⟨g,i * 6+1,none⟩ _) (fun _ h _=>h)).trans (Only.setCell _ ⟨g,i * 6+2,none⟩ _) (fun _ h _=>h)).trans (Only.setCell _ ⟨g,i * 6+3,none⟩ _) (fun _ h _=>h)).trans (Only.setCell _ ⟨g,i * 6+4,none⟩ _) (fun _ h _=>h)).trans (Only.setCell _ ⟨g,i * 6+5,none⟩ _) (fun _ h _=>h)));have hra2:=((((((hra.set (i:=0) (.int .i64 x.num) (by simp only [List.length_set,zW];omega)).set (i:=1) (.int .i64 x.pc.blob.node) (by simp only [List.length_set,zW];omega)).set (i:=2) (.int .i64 x.pc.blob.boot) (by simp only [List.length_set,zW];omega)).set (i:=3) (.int .i64 x.pc.blob.seq) (by simp only [List.length_set,zW];omega)).set (i:=4) (.int .i64 x.pc.size) (by simp only [List.length_set,zW];omega)).set (i:=5) (.string (str x.pc.etag)) (by simp only [List.length_set,zW];omega))
  have hrz:=((((((r1.setCell (i * 6) (.int .i64 x.num)).setCell (i * 6+1) (.int .i64 x.pc.blob.node)).setCell (i * 6+2) (.int .i64 x.pc.blob.boot)).setCell (i * 6+3) (.int .i64 x.pc.blob.seq)).setCell (i * 6+4) (.int .i64 x.pc.size)).setCell (i * 6+5) (.string (str x.pc.etag)));rw [← hwz] at hrz;have hE:=zN.zAz (y:=x) (by omega) zW hgb hn hin hnc hcm hlen hrz ((((((Outside.set (i * 6) 6 _ (i:=i * 6) (.int .i64 x.num) (by omega) (by omega)).trans (Outside.set (i * 6) 6 _ (i:=i * 6+1) (.int .i64 x.pc.blob.node) (by omega) (by omega))).trans (Outside.set (i * 6) 6 _ (i:=i * 6+2) (.int .i64 x.pc.blob.boot) (by omega) (by omega))).trans (Outside.set (i * 6) 6 _ (i:=i * 6+3) (.int .i64 x.pc.blob.seq) (by omega) (by omega))).trans (Outside.set (i * 6) 6 _ (i:=i * 6+4) (.int .i64 x.pc.size) (by omega) (by omega))).trans (Outside.set (i * 6) 6 _ (i:=i * 6+5) (.string (str x.pc.etag)) (by omega) (by omega))) hra2
  rw [← h1] at hE;have HE:Hid (zN wz base 111 6 (.slice (some ⟨g,0,none⟩) n c) n (YS.flatMap zM)∧Only (blk (some (⟨g,0,none⟩:Addr))) w0 wz):=Lib.hid ⟨hE,(o01.mono (fun _ h=>by cases h)).trans ozz (fun _ h _=>h)⟩;have Hz:=Lib.hid hwz;clear hwz ozz hra hra2 hrz hE r1 rx o1 o01 h1 hy hn hgb hnc hcm hlen HF Hrow Hrb Hb;go_wp2_with fail;rw [← Hz.out]
  go_ret
  exact ⟨_,_,rfl,HE.out.1,HE.out.2,fun z hz=>.inl hz⟩
 | false =>
  have hput:YS=xs.take i ++ x :: xs.drop i:=(by rw [← hYS];unfold jN;rw [hbt,if_neg (by simp),hi]);have hYl:YS.length=n+1:=(by rw [hput];simp;omega);rw [hYl];have HF:Hid (YS=xs.take i ++ x :: xs.drop i∧xs.length=n∧zN w0 base 111 6 (.slice p n c) n (xs.flatMap zM)):=Lib.hid ⟨hput,hn,hown⟩;clear hYS hi hbt hwb owb rb hbs hput hown hYl hn hs;unfold ptV
  go_enter Tryz.func135,Tryz.ntmps135
  go_wp2_with fail;rw [← Hw.out];refine Hb.out.mono ?_;rintro e1 w1 ⟨rfl,o1⟩;have o01:Only [] w0 w1:=Ho.out.zC o1;have rx:=Hrb.out.zB o1;obtain ⟨h1,hn,hown⟩:=HF.out;obtain ⟨wv,hwv⟩:∃ wv,wv=w1.alloc (.cells #[.int .i64 x.num,.int .i64 x.pc.blob.node,.int .i64 x.pc.blob.boot,.int .i64 x.pc.blob.seq,.int .i64 x.pc.size,.string (str x.pc.etag)] 111):=⟨_,rfl⟩;have ov:Only [] w1 wv:=(by rw [hwv];exact Only.alloc _ _);have rv:Row wv w1.heap.size 111 (zM x):=(by rw [hwv];exact Row.zV _ _ _ _ rfl);have hlo:=hown.view.2.2.2.2.2.2;have hsz:=o01.size
  have hins:=zHD p n c xs x i w1.heap.size base wv (hown.zB (o01.zC ov)) (by have:=ov.size;omega) hn hile (by omega) rv (fun hm=>by have:=(hlo _ hm).2;omega);rw [← h1] at hins;have Hi:=Lib.hid hins;have Hv:=Lib.hid hwv;have Hov:Hid (Only [] w0 wv):=Lib.hid (o01.zC ov);have a0:=rx.cell (i:=0) rfl;have a1:=rx.cell (i:=1) rfl;have a2:=rx.cell (i:=2) rfl;have a3:=rx.cell (i:=3) rfl;have a4:=rx.cell (i:=4) rfl;have a5:=rx.cell (i:=5) rfl;clear hins hwv ov rv hlo rx o1 h1 hn hown HF Hrb Hb;go_wp2_with fail;rw [← Hv.out];refine Hi.out.mono ?_
  rintro e2 w2 ⟨p',c',rfl,h1,h2,h3⟩;have HE:Hid (zN w2 base 111 6 (.slice p' (n+1) c') (n+1) (YS.flatMap zM)∧Only (blk p) w0 w2∧∀ z∈blk p',z∈blk p∨w0.heap.size≤z):=Lib.hid ⟨h1,(Hov.out.mono (fun _ h=>by cases h)).trans h2 (fun _ h _=>h),fun z hz=>(h3 z hz).imp id (fun h=>by have:=Hov.out.size;omega)⟩;clear h1 h2 h3 Hi Hv Hov;go_wp2_with fail
  go_ret
  exact ⟨_,_,rfl,HE.out⟩
end
end Go.Proofs.YtfeglnpmpgipiaaGreatDoor
