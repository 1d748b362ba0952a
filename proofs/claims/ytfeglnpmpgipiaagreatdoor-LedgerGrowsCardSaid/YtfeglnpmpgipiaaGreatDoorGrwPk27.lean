/- GrwPk, part 27: CatBk9W, CatBk4W. -/
import Derived.Test.YtfeglnpmpgipiaaGreatDoorGrwPk14
import Derived.Test.YtfeglnpmpgipiaaGreatDoorGrwPk15
import Derived.Test.YtfeglnpmpgipiaaGreatDoorGrwPk16
import Derived.Test.YtfeglnpmpgipiaaGreatDoorGrwPk23
set_option linter.unusedVariables false
set_option maxRecDepth 100000
set_option linter.unusedSimpArgs false
namespace Go.Proofs.YtfeglnpmpgipiaaGreatDoor
section
open Go.RowKit
def zEL (b:LBk) (m:zS) (g o B:Nat) (cur:List Value) (w0:World):Ending→World→Prop:=fun e w'=>∃ b' cur',e=.returned (xM (jA smL b.b m.x).2)∧b'.b=(jA smL b.b m.x).1∧qX w0 w' B g o cur b [] cur' b'
set_option maxHeartbeats 16000000 in
theorem zHV (b:LBk) (m:zS) (g o B:Nat) (cur:List Value) (w0:World) (hrow:Row w0 g 60 cur) (hat:jF o cur (zD b)) (hown:qZ w0 B b) (hg:g ∉ b.fp) (hB:B≤w0.heap.size) (hbo:yO b.b) (hx:xJ m.x) (hca:jS w0 m) (hk:m.x.kind=9) :
  Calls Tryz.prog 57 #[.pointer (some ⟨g,o,none⟩),lmV m] w0 (zEL b m g o B cur w0):=by
 obtain ⟨np,hnp⟩:∃ n,m.x.parts.length=n:=⟨_,rfl⟩;obtain ⟨nu,hnu⟩:∃ n,b.us.length=n:=⟨_,rfl⟩;obtain ⟨no,hno⟩:∃ n,b.os.length=n:=⟨_,rfl⟩;have hnol:no≤128:=(by have:=hbo.ol;rw [show b.b.vC.length=b.os.length from List.length_map ..] at this;omega);have hnul:nu≤16:=(by have:=hbo.ul;rw [show b.b.xE.length=b.us.length from List.length_map ..] at this;omega);obtain ⟨w1,hw1⟩:∃ w1,w1=w0.alloc (.cells #[.int .i64 9,.int .i64 m.x.id.node,.int .i64 m.x.id.boot,.int .i64 m.x.id.seq,.string (str m.x.bucket),.string (str m.x.key),.int .i64 m.x.upload.node,.int .i64 m.x.upload.boot,.int .i64 m.x.upload.seq,.int .i64 m.x.piece.blob.node,.int .i64 m.x.piece.blob.boot,.int .i64 m.x.piece.blob.seq,.int .i64 m.x.piece.size,.string (str m.x.piece.etag),.int .i64 m.x.part,.slice m.p np m.c,.int .i64 m.x.time,.int .i64 m.x.days] 36):=⟨_,rfl⟩
 have o1:Only [] w0 w1:=(by rw [hw1];exact Only.alloc _ _);have s1:w1.heap.size=w0.heap.size+1:=(by rw [hw1];simp);have r1:Row w1 (w0.heap.size) 36 [.int .i64 9,.int .i64 m.x.id.node,.int .i64 m.x.id.boot,.int .i64 m.x.id.seq,.string (str m.x.bucket),.string (str m.x.key),.int .i64 m.x.upload.node,.int .i64 m.x.upload.boot,.int .i64 m.x.upload.seq,.int .i64 m.x.piece.blob.node,.int .i64 m.x.piece.blob.boot,.int .i64 m.x.piece.blob.seq,.int .i64 m.x.piece.size,.string (str m.x.piece.etag),.int .i64 m.x.part,.slice m.p np m.c,.int .i64 m.x.time,.int .i64 m.x.days]:=by rw [hw1];exact Row.zV _ _ _ _ rfl
 obtain ⟨w2,hw2⟩:∃ w2,w2=w1.alloc (.cells #[.int .i64 0,.string ⟨#[]⟩] 38):=⟨_,rfl⟩;have o2:Only [] w1 w2:=(by rw [hw2];exact Only.alloc _ _);have s2:w2.heap.size=w0.heap.size+1+1:=(by rw [hw2];simp [s1]);have r2:Row w2 (w0.heap.size+1) 38 [.int .i64 0,.string ⟨#[]⟩]:=(by rw [← s1,hw2];exact Row.zV _ _ _ _ rfl);replace r1:=r1.zB o2;have oAll:Only [] w0 w2:=(o1.zC o2);rw [hw1] at hw2;have hatc:=hat;unfold zD at hatc;rw [hno,hnu] at hatc;have hfpl:=hown.lo;have Hr1:=Lib.hid r1;have Hr2:=Lib.hid r2;have HO:=Lib.hid oAll;have Hw:=Lib.hid hw2
 have Hsz:Hid (w2.heap.size=w0.heap.size+1+1):=Lib.hid s2;have Hrow:=Lib.hid (hrow.zB oAll);have Hat:=Lib.hid hatc;have HH:Hid (qZ w0 B b∧g ∉ b.fp∧Row w0 g 60 cur∧jF o cur (zD b)∧(∀ z∈b.fp,B≤z∧z < w0.heap.size)∧b.us.length=nu∧b.os.length=no∧B≤w0.heap.size∧yO b.b∧xJ m.x∧jS w0 m∧m.x.parts.length=np):=Lib.hid ⟨hown,hg,hrow,hat,hfpl,hnu,hno,hB,hbo,hx,hca,hnp⟩;have Hk:=Lib.hid hk;have hgl:g < w0.heap.size:=hrow.lt;have m0:=r1.cell (i:=0) rfl;have m17:=r1.cell (i:=17) rfl;rw [show lmV m=.agg #[.int .i64 9,.int .i64 m.x.id.node,.int .i64 m.x.id.boot,.int .i64 m.x.id.seq,.string (str m.x.bucket),.string (str m.x.key),.int .i64 m.x.upload.node,.int .i64 m.x.upload.boot,.int .i64 m.x.upload.seq,.int .i64 m.x.piece.blob.node,.int .i64 m.x.piece.blob.boot,.int .i64 m.x.piece.blob.seq,.int .i64 m.x.piece.size,.string (str m.x.piece.etag),.int .i64 m.x.part,.slice m.p np m.c,.int .i64 m.x.time,.int .i64 m.x.days] by unfold lmV;rw [hnp,hk]]
 clear hrow hat hown hg hB hbo hx hca hnp hnu hno hatc hfpl r1 r2 oAll hw2 s2 s1 o1 o2 hw1 hk
 go_enter Tryz.func57,Tryz.ntmps57
 go_upto_region 1 with (fail)
 rw [← Hw.out];have hrb:=Hrow.out;have y2:=Hat.out.cell hrb (r:=2) rfl;have g2:=hrb.free (o+2);obtain ⟨w3,hw3⟩:∃ w3,w3=w2.setCell ⟨g,o+2,none⟩ (.int .i64 m.x.days):=⟨_,rfl⟩;have o3:Only [g] w2 w3:=(by rw [hw3];exact Only.setCell _ ⟨g,o+2,none⟩ _);have hr3:=hrb.setCell (o+2) (.int .i64 m.x.days);rw [← hw3] at hr3;obtain ⟨hown,hg,hrow,hat,hfpl,hnu,hno,hB,hbo,hx,hca,hnp⟩:=HH.out;have hra:jF o (cur.set (o+2) (.int .i64 m.x.days)) (zD { b with days:=m.x.days }):=hat.set (i:=2) (.int .i64 m.x.days) (by rw [zQ];omega)
 have hb3:qZ w3 B { b with days:=m.x.days }:=by
  have h:=(hown.zB HO.out).only o3 (fun z hz hm=>hg (by rw [← List.mem_singleton.1 hm];exact hz));exact ⟨h.so,h.su,h.ob,h.up,h.nd⟩
 have hres:qX w0 w3 B g o cur b [] (cur.set (o+2) (.int .i64 m.x.days)) { b with days:=m.x.days }:=⟨hr3,hra,Outside.set o 5 cur _ (by omega) (by omega),hb3,fun z hz=>.inl hz,((HO.out.mono (by simp)).trans o3 (fun z hz _=>by rw [List.mem_singleton.1 hz];exact List.mem_cons_self ..))⟩
 have hin:jA smL b.b m.x=(({ b with days:=m.x.days }:LBk).b,⟨0,[]⟩):=by
  unfold jA;rw [if_neg (by have:=Hk.out;omega),if_neg (by have:=Hk.out;omega),if_neg (by have:=Hk.out;omega),if_pos Hk.out]
  rfl
 have HE0:Hid (jA smL b.b m.x=(({ b with days:=m.x.days }:LBk).b,⟨0,[]⟩)∧qX w0 w3 B g o cur b [] (cur.set (o+2) (.int .i64 m.x.days)) { b with days:=m.x.days }∧w0.heap.size+1 ∉ ({ b with days:=m.x.days }:LBk).fp):=Lib.hid ⟨hin,hres,fun hm=>by have:=(hfpl _ hm).2;omega⟩;have HRO:=Lib.hid (Hr2.out.only o3 (by simp;omega));have Hw3:=Lib.hid hw3;clear hrb hw3 o3 hr3 hra hb3 hres hin;clear hown hg hrow hat hfpl hnu hno hB hbo hx hca hnp;go_wp2_with fail;rw [← Hw3.out];refine (vM 0 w3).mono ?_;rintro e w9 ⟨rfl,o9⟩;unfold xM;have rO:=HRO.out.zB o9
 have c0:=rO.cell (i:=0) rfl;have c1:=rO.cell (i:=1) rfl;have f0:=rO.free 0;have f1:=rO.free 1;have hrz:=rO.set2 (.int .i64 0) (.string (str []));have hst:=qB w9 (w0.heap.size+1) (.int .i64 0) (.string (str []));obtain ⟨wz,hwz⟩:∃ wz,wz=(w9.setCell ⟨w0.heap.size+1,0,none⟩ (.int .i64 0)).setCell ⟨w0.heap.size+1,1,none⟩ (.string (str [])):=⟨_,rfl⟩;rw [← hwz] at hrz hst;have Hrz:=Lib.hid hrz;have HE:Hid (qX w0 wz B g o cur b [] (cur.set (o+2) (.int .i64 m.x.days)) { b with days:=m.x.days }):=Lib.hid ((HE0.out.2.1.step o9).zAC hst (by simp;omega) (fun z hz=>by rw [List.mem_singleton.1 hz];exact ⟨by omega,HE0.out.2.2⟩))
 have Hwz:=Lib.hid hwz;clear rO hrz hst hwz o9;go_wp2_with fail;rw [← Hwz.out];exact bodyPost_ret (qO rfl _ _ _ rfl Hrz.out Tryz.underlying38 jH) rfl ⟨{ b with days:=m.x.days },(cur.set (o+2) (.int .i64 m.x.days)),by rw [HE0.out.1];rfl,by rw [HE0.out.1],HE.out⟩
end
section
open Go.RowKit
set_option maxHeartbeats 16000000 in
theorem zGm (b:LBk) (m:zS) (g o B:Nat) (cur:List Value) (w0:World) (hrow:Row w0 g 60 cur) (hat:jF o cur (zD b)) (hown:qZ w0 B b) (hg:g ∉ b.fp) (hB:B≤w0.heap.size) (hbo:yO b.b) (hx:xJ m.x) (hca:jS w0 m) (hk:m.x.kind=4) :
  Calls Tryz.prog 57 #[.pointer (some ⟨g,o,none⟩),lmV m] w0 (zEL b m g o B cur w0):=by
 obtain ⟨np,hnp⟩:∃ n,m.x.parts.length=n:=⟨_,rfl⟩;obtain ⟨nu,hnu⟩:∃ n,b.us.length=n:=⟨_,rfl⟩;obtain ⟨no,hno⟩:∃ n,b.os.length=n:=⟨_,rfl⟩;have hnol:no≤128:=(by have:=hbo.ol;rw [show b.b.vC.length=b.os.length from List.length_map ..] at this;omega);have hnul:nu≤16:=(by have:=hbo.ul;rw [show b.b.xE.length=b.us.length from List.length_map ..] at this;omega);obtain ⟨w1,hw1⟩:∃ w1,w1=w0.alloc (.cells #[.int .i64 4,.int .i64 m.x.id.node,.int .i64 m.x.id.boot,.int .i64 m.x.id.seq,.string (str m.x.bucket),.string (str m.x.key),.int .i64 m.x.upload.node,.int .i64 m.x.upload.boot,.int .i64 m.x.upload.seq,.int .i64 m.x.piece.blob.node,.int .i64 m.x.piece.blob.boot,.int .i64 m.x.piece.blob.seq,.int .i64 m.x.piece.size,.string (str m.x.piece.etag),.int .i64 m.x.part,.slice m.p np m.c,.int .i64 m.x.time,.int .i64 m.x.days] 36):=⟨_,rfl⟩
 have o1:Only [] w0 w1:=(by rw [hw1];exact Only.alloc _ _);have s1:w1.heap.size=w0.heap.size+1:=(by rw [hw1];simp);have r1:Row w1 (w0.heap.size) 36 [.int .i64 4,.int .i64 m.x.id.node,.int .i64 m.x.id.boot,.int .i64 m.x.id.seq,.string (str m.x.bucket),.string (str m.x.key),.int .i64 m.x.upload.node,.int .i64 m.x.upload.boot,.int .i64 m.x.upload.seq,.int .i64 m.x.piece.blob.node,.int .i64 m.x.piece.blob.boot,.int .i64 m.x.piece.blob.seq,.int .i64 m.x.piece.size,.string (str m.x.piece.etag),.int .i64 m.x.part,.slice m.p np m.c,.int .i64 m.x.time,.int .i64 m.x.days]:=by rw [hw1];exact Row.zV _ _ _ _ rfl
 obtain ⟨w2,hw2⟩:∃ w2,w2=w1.alloc (.cells #[.int .i64 0,.string ⟨#[]⟩] 38):=⟨_,rfl⟩;have o2:Only [] w1 w2:=(by rw [hw2];exact Only.alloc _ _);have s2:w2.heap.size=w0.heap.size+1+1:=(by rw [hw2];simp [s1]);have r2:Row w2 (w0.heap.size+1) 38 [.int .i64 0,.string ⟨#[]⟩]:=(by rw [← s1,hw2];exact Row.zV _ _ _ _ rfl);replace r1:=r1.zB o2;have oAll:Only [] w0 w2:=(o1.zC o2);rw [hw1] at hw2;have hatc:=hat;unfold zD at hatc;rw [hno,hnu] at hatc;have hfpl:=hown.lo;have Hr1:=Lib.hid r1;have Hr2:=Lib.hid r2;have HO:=Lib.hid oAll;have Hw:=Lib.hid hw2
 have Hsz:Hid (w2.heap.size=w0.heap.size+1+1):=Lib.hid s2;have Hrow:=Lib.hid (hrow.zB oAll);have Hat:=Lib.hid hatc;have HH:Hid (qZ w0 B b∧g ∉ b.fp∧Row w0 g 60 cur∧jF o cur (zD b)∧(∀ z∈b.fp,B≤z∧z < w0.heap.size)∧b.us.length=nu∧b.os.length=no∧B≤w0.heap.size∧yO b.b∧xJ m.x∧jS w0 m∧m.x.parts.length=np):=Lib.hid ⟨hown,hg,hrow,hat,hfpl,hnu,hno,hB,hbo,hx,hca,hnp⟩;have Hk:=Lib.hid hk;have hgl:g < w0.heap.size:=hrow.lt;have m0:=r1.cell (i:=0) rfl;have m5:=r1.cell (i:=5) rfl;rw [show lmV m=.agg #[.int .i64 4,.int .i64 m.x.id.node,.int .i64 m.x.id.boot,.int .i64 m.x.id.seq,.string (str m.x.bucket),.string (str m.x.key),.int .i64 m.x.upload.node,.int .i64 m.x.upload.boot,.int .i64 m.x.upload.seq,.int .i64 m.x.piece.blob.node,.int .i64 m.x.piece.blob.boot,.int .i64 m.x.piece.blob.seq,.int .i64 m.x.piece.size,.string (str m.x.piece.etag),.int .i64 m.x.part,.slice m.p np m.c,.int .i64 m.x.time,.int .i64 m.x.days] by unfold lmV;rw [hnp,hk]]
 clear hrow hat hown hg hB hbo hx hca hnp hnu hno hatc hfpl r1 r2 oAll hw2 s2 s1 o1 o2 hw1 hk
 go_enter Tryz.func57,Tryz.ntmps57
 go_upto_region 1 with (fail)
 rw [← Hw.out];have z3:=Hat.out.cell Hrow.out (r:=3) rfl;have Hz3:=Lib.hid z3;have Hm5:=Lib.hid m5;obtain ⟨i,hi⟩:∃ i,qV qG.key lt b.os m.x.key=i:=⟨_,rfl⟩;obtain ⟨th,hth⟩:∃ th,qC qG.key lt b.os m.x.key=th:=⟨_,rfl⟩;have hss:jD qG.key lt b.os:=zAM (key:=qG.key) qG.o (fun _=>rfl) HH.out.2.2.2.2.2.2.2.2.1.os;have hfind:=fun (W:World) (h:Only [] w0 W)=>zCn b.po no b.co b.os m.x.key W HH.out.2.2.2.2.2.2.1 (by omega) (fun h0=>by rw [← HH.out.2.2.2.2.2.2.1];exact (HH.out.1.so.view.2.2.2.1 h0).1) (HH.out.1.so.view.2.2.1.zB h) hss
 rw [hi,hth] at hfind;have HF:=Lib.hid hfind
 have hde:zDS zAd.key lt b.b.vC m.x.key=if th=true then (b.os.eraseIdx i).map qG.o else b.os.map qG.o:=by
  rw [show b.b.vC=b.os.map qG.o from rfl,← zIC (key:=qG.key) qG.o (fun _=>rfl)];unfold zDS;rw [hth,hi]
  split <;> rfl
 have Hde:=Lib.hid hde;have Hith:Hid (qV qG.key lt b.os m.x.key=i∧qC qG.key lt b.os m.x.key=th):=Lib.hid ⟨hi,hth⟩;clear z3 m5 hi hth hss hfind hde
 go_upto_region 6 with (fail)
 clear m0;refine qY (Only []) [[(0,none)],[(34,some 0)],[(35,some 0)],[(36,some 0)],[(3,none)],[(38,some 0)],[(37,some 2),(39,some 0)],[(40,some 0)],[(33,some 0)],[(33,some 1)],[(41,some 1)],[(42,some 1)]] [(6,1),(7,0)] [none,none,none,none,none,none,some 6,some 7,none,none,none,none,none,none,none,none,none,none,none,none,none,none,none,none,none,none,none,none,none,none,none,none,none,some 33,some 34,some 35,some 36,some 37,some 38,some 39,some 40,some 41,some 42,none,none,none,none,none,none,none,none,none,none,none,none,none,none,none,none,none,none,none,none,none,none,none,none,none,none,none,none,none,none,none,none,none,none,none,none,none,none,none,none,none,none,none,none,none,none,none,none,none,none,none,none,none,none,none,none,none,none,none,none,none,none,none,none,none,none,none,none,none,none,none,none,none,none,none,none] (by kernel_rfl) rfl (by kernel_rfl) (fun _=>Only.refl _ _) (fun _ _ _ h k=>h.zC k) (Only.drew _) (by kernel_rfl) ?_
 apply zJ
 ·rintro a w hR ⟨(e0:_=_),-⟩;refine zA rfl fun K hK=>?_;go_simp;exact hK _ _ rfl (Only.refl _ _)
 apply zJ
 ·rintro a w hR ⟨(e34:_=_),-⟩;refine zA rfl fun K hK=>?_;go_simp;exact hK _ _ rfl (Only.refl _ _)
 apply zJ
 ·rintro a w hR ⟨(e35:_=_),-⟩;refine zA rfl fun K hK=>?_;go_simp;exact hK _ _ rfl (Only.refl _ _)
 apply zJ
 ·rintro a w hR ⟨(e36:_=_),-⟩;refine zA rfl fun K hK=>?_;have g3:=hR.cell Hz3.out (by simp);go_simp;exact hK _ _ rfl (Only.refl _ _)
 apply zJ
 ·rintro a w hR ⟨(e3:_=_),-⟩;refine zA rfl fun K hK=>?_;go_simp;exact hK _ _ rfl (Only.refl _ _)
 apply zJ
 ·rintro a w hR ⟨(e38:_=_),-⟩;refine zA rfl fun K hK=>?_;have g5:=hR.cell Hm5.out (by simp);go_simp;exact hK _ _ rfl (Only.refl _ _)
 apply zJ
 ·rintro a w hR ⟨(e37:_=_),(e39:_=_),-⟩;refine zA rfl fun K hK=>?_;go_simp;(with_reducible refine (HF.out w (HO.out.zC hR)).mono ?_);rintro e w' ⟨rfl,o'⟩;exact hK _ _ rfl o'
 apply zJ
 ·rintro a w hR ⟨(e40:_=_),-⟩;refine zA rfl fun K hK=>?_;go_simp;exact hK _ _ rfl (Only.refl _ _)
 apply zJ
 ·rintro a w hR ⟨(e33:_=_),-⟩;refine zA rfl fun K hK=>?_;go_simp;exact hK _ _ rfl (Only.refl _ _)
 apply zJ
 ·rintro a w hR ⟨(e33:_=_),-⟩;refine zA rfl fun K hK=>?_;go_simp;exact hK _ _ rfl (Only.refl _ _)
 apply zJ
 ·rintro a w hR ⟨(e41:_=_),-⟩;refine zA rfl fun K hK=>?_;go_simp;exact hK _ _ rfl (Only.refl _ _)
 apply zJ
 ·rintro a w hR ⟨(e42:_=_),-⟩;refine zA rfl fun K hK=>?_;go_simp;exact hK _ _ rfl (Only.refl _ _)
 intro fa wa hRa hf;dsimp only [qE];obtain ⟨e6,e7,-⟩:=hf;replace e6:fa 6=_:=e6;rw [e6];replace e7:fa 7=_:=e7;rw [e7];have HOa:=Lib.hid hRa;have HRO:=Lib.hid (Hr2.out.zB hRa);have hr3:=Hrow.out.zB hRa;clear hRa HF
 cases th with
 | false =>
  obtain ⟨hown,hg,hrow,hat,hfpl,hnu,hno,hB,hbo,hx,hca,hnp⟩:=HH.out
  have HE0:Hid (jA smL b.b m.x=(b.b,⟨0,[]⟩)∧qX w0 wa B g o cur b [] cur b∧w0.heap.size+1 ∉ b.fp):=Lib.hid ⟨by
   unfold jA;rw [if_neg (by have:=Hk.out;omega),if_pos Hk.out,Hde.out,if_neg (by simp)]
   rfl,qX.refl hrow hat hown _ (HO.out.zC HOa.out),fun hm=>by have:=(hfpl _ hm).2;omega⟩
  clear hr3;clear hown hg hrow hat hfpl hnu hno hB hbo hx hca hnp;go_wp2_with fail;refine (vM 0 wa).mono ?_;rintro e w9 ⟨rfl,o9⟩;unfold xM;have rO:=HRO.out.zB o9;have c0:=rO.cell (i:=0) rfl;have c1:=rO.cell (i:=1) rfl;have f0:=rO.free 0;have f1:=rO.free 1;have hrz:=rO.set2 (.int .i64 0) (.string (str []));have hst:=qB w9 (w0.heap.size+1) (.int .i64 0) (.string (str []));obtain ⟨wz,hwz⟩:∃ wz,wz=(w9.setCell ⟨w0.heap.size+1,0,none⟩ (.int .i64 0)).setCell ⟨w0.heap.size+1,1,none⟩ (.string (str [])):=⟨_,rfl⟩;rw [← hwz] at hrz hst;have Hrz:=Lib.hid hrz
  have HE:Hid (qX w0 wz B g o cur b [] cur b):=Lib.hid ((HE0.out.2.1.step o9).zAC hst (by simp;omega) (fun z hz=>by rw [List.mem_singleton.1 hz];exact ⟨by omega,HE0.out.2.2⟩));have Hwz:=Lib.hid hwz;clear rO hrz hst hwz o9;go_wp2_with fail;rw [← Hwz.out];exact bodyPost_ret (qO rfl _ _ _ rfl Hrz.out Tryz.underlying38 jH) rfl ⟨b,cur,by rw [HE0.out.1];rfl,by rw [HE0.out.1],HE.out⟩
 | true =>
  obtain ⟨y,hy,-⟩:=jQ Hith.out.2;rw [Hith.out.1] at hy;obtain ⟨hown,hg,hrow,hat,hfpl,hnu,hno,hB,hbo,hx,hca,hnp⟩:=HH.out;have hilt:i < no:=(by have:=(List.getElem?_eq_some_iff.1 hy).1;omega);obtain ⟨d,rfl⟩:∃ d,no=d+1:=⟨no - 1,by omega⟩;have h9:=hown.so.zB (HO.out.zC HOa.out);rw [hno] at h9;have hdel:=zHX b.po d b.co b.os i B wa h9 hno (by omega) (by omega);have z3:=Hat.out.cell hr3 (r:=3) rfl;have hw1:IntKind.i64.wrap ((i:Int)+1)=(i:Int)+1:=(by rw [IntKind.wrap_i64];omega);have HD:=Lib.hid hdel;have Hr3:=Lib.hid hr3
  clear hdel h9 hy hr3;clear hown hg hrow hat hfpl hnu hno hB hbo hx hca hnp;go_wp2_with fail;refine HD.out.mono ?_;rintro e w4 ⟨rfl,h1,h2⟩;obtain ⟨hown,hg,hrow,hat,hfpl,hnu,hno,hB,hbo,hx,hca,hnp⟩:=HH.out;have hgpo:g ∉ blk b.po:=fun h=>hg (by unfold LBk.fp;exact List.mem_append_left _ h);have hr4:=Hr3.out.only h2 hgpo;have y3:=Hat.out.cell hr4 (r:=3) rfl;have g3:=hr4.free (o+3);obtain ⟨w5,hw5⟩:∃ w5,w5=w4.setCell ⟨g,o+3,none⟩ (.slice b.po d b.co):=⟨_,rfl⟩;have o5:Only [g] w4 w5:=(by rw [hw5];exact Only.setCell _ ⟨g,o+3,none⟩ _);have hr5:=hr4.setCell (o+3) (.slice b.po d b.co)
  rw [← hw5] at hr5;have ho:Only (g :: blk b.po) wa w5:=(h2.mono (fun z hz=>List.mem_cons_of_mem _ hz)).trans o5 (fun z hz _=>by rw [List.mem_singleton.1 hz];exact List.mem_cons_self ..);have hle:(b.os.eraseIdx i).length=d:=by rw [List.length_eraseIdx,if_pos (by omega)];omega
  have hbo':=(hown.zB (HO.out.zC HOa.out)).vC (S:=g :: blk b.po) (os':=b.os.eraseIdx i) (p':=b.po) (c':=b.co) (new:=[]) ho (fun z hz=>by
   rcases List.mem_cons.1 hz with rfl | hz
   ·exact .inr ⟨hg,by simp⟩
   ·exact .inl hz) (by rw [hle];exact h1.jL o5 (fun z hz hm=>hgpo (by rw [← List.mem_singleton.1 hm];exact hz))) (fun y hy=>.inl (List.mem_of_mem_eraseIdx hy)) (fun z hz=>.inl hz) ⟨_,List.Perm.refl _,zAQ (List.eraseIdx_sublist ..)⟩ List.nodup_nil (by simp)
  obtain ⟨hb1,hb2⟩:=hbo'
  have hra:jF o (cur.set (o+3) (.slice b.po d b.co)) (zD { b with os:=b.os.eraseIdx i,po:=b.po,co:=b.co }):=by
   have h9:=hat.set (i:=3) (.slice b.po d b.co) (by rw [zQ];omega);rw [← hle] at h9 ⊢;exact h9
  have hres:qX wa w5 B g o cur b [] (cur.set (o+3) (.slice b.po d b.co)) { b with os:=b.os.eraseIdx i,po:=b.po,co:=b.co }:=⟨hr5,hra,Outside.set o 5 cur _ (by omega) (by omega),hb1,hb2,ho.mono (fun z hz=>by
   rcases List.mem_cons.1 hz with rfl | hz
   ·exact List.mem_cons_self ..
   ·exact List.mem_cons_of_mem _ (by unfold LBk.fp;exact List.mem_append_left _ hz))⟩
  have hA2:w0.heap.size+1 ∉ ({ b with os:=b.os.eraseIdx i,po:=b.po,co:=b.co }:LBk).fp:=fun hm=>by
   rcases hb2 _ hm with h | h | h
   ·have:=(hfpl _ h).2;omega
   ·cases h
   ·have:=Hsz.out;have:=HOa.out.size;omega
  have HE0:Hid (jA smL b.b m.x=(({ b with os:=b.os.eraseIdx i,po:=b.po,co:=b.co }:LBk).b,⟨0,[]⟩)∧qX w0 w5 B g o cur b [] (cur.set (o+3) (.slice b.po d b.co)) { b with os:=b.os.eraseIdx i,po:=b.po,co:=b.co }∧w0.heap.size+1 ∉ ({ b with os:=b.os.eraseIdx i,po:=b.po,co:=b.co }:LBk).fp):=Lib.hid ⟨by
   unfold jA;rw [if_neg (by have:=Hk.out;omega),if_pos Hk.out,Hde.out,if_pos (by trivial)]
   rfl,hres.base (HO.out.zC HOa.out),hA2⟩
  have HRO5:=HRO.out.only ho (fun hm=>by
   rcases List.mem_cons.1 hm with h | h
   ·omega
   ·have:=(hfpl _ (by unfold LBk.fp;exact List.mem_append_left _ h)).2;omega)
  clear HRO;have HRO:=Lib.hid HRO5;have Hw5:=Lib.hid hw5;clear HRO5 HD h1 h2 hgpo hr4 hw5 o5 hr5 ho hle hb1 hb2 hra hres hA2 z3;clear hown hg hrow hat hfpl hnu hno hB hbo hx hca hnp;go_wp2_with fail;rw [← Hw5.out];refine (vM 0 w5).mono ?_;rintro e w9 ⟨rfl,o9⟩;unfold xM;have rO:=HRO.out.zB o9;have c0:=rO.cell (i:=0) rfl;have c1:=rO.cell (i:=1) rfl;have f0:=rO.free 0;have f1:=rO.free 1;have hrz:=rO.set2 (.int .i64 0) (.string (str []));have hst:=qB w9 (w0.heap.size+1) (.int .i64 0) (.string (str []));obtain ⟨wz,hwz⟩:∃ wz,wz=(w9.setCell ⟨w0.heap.size+1,0,none⟩ (.int .i64 0)).setCell ⟨w0.heap.size+1,1,none⟩ (.string (str [])):=⟨_,rfl⟩
  rw [← hwz] at hrz hst;have Hrz:=Lib.hid hrz;have HE:Hid (qX w0 wz B g o cur b [] (cur.set (o+3) (.slice b.po d b.co)) { b with os:=b.os.eraseIdx i,po:=b.po,co:=b.co }):=Lib.hid ((HE0.out.2.1.step o9).zAC hst (by simp;omega) (fun z hz=>by rw [List.mem_singleton.1 hz];exact ⟨by omega,HE0.out.2.2⟩));have Hwz:=Lib.hid hwz;clear rO hrz hst hwz o9;go_wp2_with fail;rw [← Hwz.out];exact bodyPost_ret (qO rfl _ _ _ rfl Hrz.out Tryz.underlying38 jH) rfl ⟨{ b with os:=b.os.eraseIdx i,po:=b.po,co:=b.co },(cur.set (o+3) (.slice b.po d b.co)),by rw [HE0.out.1];rfl,by rw [HE0.out.1],HE.out⟩
end
end Go.Proofs.YtfeglnpmpgipiaaGreatDoor
