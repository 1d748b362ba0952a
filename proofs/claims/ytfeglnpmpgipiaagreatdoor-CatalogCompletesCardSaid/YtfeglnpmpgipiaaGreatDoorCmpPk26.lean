/- CmpPk, part 26: CatBk9W, CatBk4W, CatObjW, CatBucW, CatUplW. -/
import Derived.Test.YtfeglnpmpgipiaaGreatDoorCmpPk04
import Derived.Test.YtfeglnpmpgipiaaGreatDoorCmpPk10
import Derived.Test.YtfeglnpmpgipiaaGreatDoorCmpPk12
import Derived.Test.YtfeglnpmpgipiaaGreatDoorCmpPk13
import Derived.Test.YtfeglnpmpgipiaaGreatDoorCmpPk14
import Derived.Test.YtfeglnpmpgipiaaGreatDoorCmpPk15
import Derived.Test.YtfeglnpmpgipiaaGreatDoorCmpPk22
set_option linter.unusedVariables false
set_option maxRecDepth 100000
set_option linter.unusedSimpArgs false
namespace Go.Proofs.YtfeglnpmpgipiaaGreatDoor
section
open Go.RowKit
def InBkQ (b:LBk) (m:LCmd) (g o B:Nat) (cur:List Value) (w0:World):Ending→World→Prop:=fun e w'=>∃ b' cur',e=.returned (oucV (inBuck smL b.b m.x).2)∧b'.b=(inBuck smL b.b m.x).1∧BkRes w0 w' B g o cur b [] cur' b'
set_option maxHeartbeats 16000000 in
theorem inBk9_any (b:LBk) (m:LCmd) (g o B:Nat) (cur:List Value) (w0:World) (hrow:Row w0 g 60 cur) (hat:RecAt o cur (lbCells b)) (hown:BkOwn w0 B b) (hg:g ∉ b.fp) (hB:B≤w0.heap.size) (hbo:BkOk b.b) (hx:CmdOk m.x) (hca:CmAt w0 m) (hk:m.x.kind=9) :
  Calls Tryz.prog 57 #[.pointer (some ⟨g,o,none⟩),lmV m] w0 (InBkQ b m g o B cur w0):=by
 obtain ⟨np,hnp⟩:∃ n,m.x.parts.length=n:=⟨_,rfl⟩;obtain ⟨nu,hnu⟩:∃ n,b.us.length=n:=⟨_,rfl⟩;obtain ⟨no,hno⟩:∃ n,b.os.length=n:=⟨_,rfl⟩;have hnol:no≤128:=(by have:=hbo.ol;rw [show b.b.objs.length=b.os.length from List.length_map ..] at this;omega);have hnul:nu≤16:=(by have:=hbo.ul;rw [show b.b.upls.length=b.us.length from List.length_map ..] at this;omega);obtain ⟨w1,hw1⟩:∃ w1,w1=w0.alloc (.cells #[.int .i64 9,.int .i64 m.x.id.node,.int .i64 m.x.id.boot,.int .i64 m.x.id.seq,.string (str m.x.bucket),.string (str m.x.key),.int .i64 m.x.upload.node,.int .i64 m.x.upload.boot,.int .i64 m.x.upload.seq,.int .i64 m.x.piece.blob.node,.int .i64 m.x.piece.blob.boot,.int .i64 m.x.piece.blob.seq,.int .i64 m.x.piece.size,.string (str m.x.piece.etag),.int .i64 m.x.part,.slice m.p np m.c,.int .i64 m.x.time,.int .i64 m.x.days] 36):=⟨_,rfl⟩
 have o1:Only [] w0 w1:=(by rw [hw1];exact Only.alloc _ _);have s1:w1.heap.size=w0.heap.size+1:=(by rw [hw1];simp);have r1:Row w1 (w0.heap.size) 36 [.int .i64 9,.int .i64 m.x.id.node,.int .i64 m.x.id.boot,.int .i64 m.x.id.seq,.string (str m.x.bucket),.string (str m.x.key),.int .i64 m.x.upload.node,.int .i64 m.x.upload.boot,.int .i64 m.x.upload.seq,.int .i64 m.x.piece.blob.node,.int .i64 m.x.piece.blob.boot,.int .i64 m.x.piece.blob.seq,.int .i64 m.x.piece.size,.string (str m.x.piece.etag),.int .i64 m.x.part,.slice m.p np m.c,.int .i64 m.x.time,.int .i64 m.x.days]:=by rw [hw1];exact Row.newOf _ _ _ _ rfl
 obtain ⟨w2,hw2⟩:∃ w2,w2=w1.alloc (.cells #[.int .i64 0,.string ⟨#[]⟩] 38):=⟨_,rfl⟩;have o2:Only [] w1 w2:=(by rw [hw2];exact Only.alloc _ _);have s2:w2.heap.size=w0.heap.size+1+1:=(by rw [hw2];simp [s1]);have r2:Row w2 (w0.heap.size+1) 38 [.int .i64 0,.string ⟨#[]⟩]:=(by rw [← s1,hw2];exact Row.newOf _ _ _ _ rfl);replace r1:=r1.only0 o2;have oAll:Only [] w0 w2:=(o1.trans0 o2);rw [hw1] at hw2;have hatc:=hat;unfold lbCells at hatc;rw [hno,hnu] at hatc;have hfpl:=hown.lo;have Hr1:=Lib.hid r1;have Hr2:=Lib.hid r2;have HO:=Lib.hid oAll;have Hw:=Lib.hid hw2
 have Hsz:Hid (w2.heap.size=w0.heap.size+1+1):=Lib.hid s2;have Hrow:=Lib.hid (hrow.only0 oAll);have Hat:=Lib.hid hatc;have HH:Hid (BkOwn w0 B b∧g ∉ b.fp∧Row w0 g 60 cur∧RecAt o cur (lbCells b)∧(∀ z∈b.fp,B≤z∧z < w0.heap.size)∧b.us.length=nu∧b.os.length=no∧B≤w0.heap.size∧BkOk b.b∧CmdOk m.x∧CmAt w0 m∧m.x.parts.length=np):=Lib.hid ⟨hown,hg,hrow,hat,hfpl,hnu,hno,hB,hbo,hx,hca,hnp⟩;have Hk:=Lib.hid hk;have hgl:g < w0.heap.size:=hrow.lt;have m0:=r1.cell (i:=0) rfl;have m17:=r1.cell (i:=17) rfl;rw [show lmV m=.agg #[.int .i64 9,.int .i64 m.x.id.node,.int .i64 m.x.id.boot,.int .i64 m.x.id.seq,.string (str m.x.bucket),.string (str m.x.key),.int .i64 m.x.upload.node,.int .i64 m.x.upload.boot,.int .i64 m.x.upload.seq,.int .i64 m.x.piece.blob.node,.int .i64 m.x.piece.blob.boot,.int .i64 m.x.piece.blob.seq,.int .i64 m.x.piece.size,.string (str m.x.piece.etag),.int .i64 m.x.part,.slice m.p np m.c,.int .i64 m.x.time,.int .i64 m.x.days] by unfold lmV;rw [hnp,hk]]
 clear hrow hat hown hg hB hbo hx hca hnp hnu hno hatc hfpl r1 r2 oAll hw2 s2 s1 o1 o2 hw1 hk
 go_enter Tryz.func57,Tryz.ntmps57
 go_upto_region 1 with (fail)
 rw [← Hw.out];have hrb:=Hrow.out;have y2:=Hat.out.cell hrb (r:=2) rfl;have g2:=hrb.free (o+2);obtain ⟨w3,hw3⟩:∃ w3,w3=w2.setCell ⟨g,o+2,none⟩ (.int .i64 m.x.days):=⟨_,rfl⟩;have o3:Only [g] w2 w3:=(by rw [hw3];exact Only.setCell _ ⟨g,o+2,none⟩ _);have hr3:=hrb.setCell (o+2) (.int .i64 m.x.days);rw [← hw3] at hr3;obtain ⟨hown,hg,hrow,hat,hfpl,hnu,hno,hB,hbo,hx,hca,hnp⟩:=HH.out;have hra:RecAt o (cur.set (o+2) (.int .i64 m.x.days)) (lbCells { b with days:=m.x.days }):=hat.set (i:=2) (.int .i64 m.x.days) (by rw [lbCells_len];omega)
 have hb3:BkOwn w3 B { b with days:=m.x.days }:=by
  have h:=(hown.only0 HO.out).only o3 (fun z hz hm=>hg (by rw [← List.mem_singleton.1 hm];exact hz));exact ⟨h.so,h.su,h.ob,h.up,h.nd⟩
 have hres:BkRes w0 w3 B g o cur b [] (cur.set (o+2) (.int .i64 m.x.days)) { b with days:=m.x.days }:=⟨hr3,hra,Outside.set o 5 cur _ (by omega) (by omega),hb3,fun z hz=>.inl hz,((HO.out.mono (by simp)).trans o3 (fun z hz _=>by rw [List.mem_singleton.1 hz];exact List.mem_cons_self ..))⟩
 have hin:inBuck smL b.b m.x=(({ b with days:=m.x.days }:LBk).b,⟨0,[]⟩):=by
  unfold inBuck;rw [if_neg (by have:=Hk.out;omega),if_neg (by have:=Hk.out;omega),if_neg (by have:=Hk.out;omega),if_pos Hk.out]
  rfl
 have HE0:Hid (inBuck smL b.b m.x=(({ b with days:=m.x.days }:LBk).b,⟨0,[]⟩)∧BkRes w0 w3 B g o cur b [] (cur.set (o+2) (.int .i64 m.x.days)) { b with days:=m.x.days }∧w0.heap.size+1 ∉ ({ b with days:=m.x.days }:LBk).fp):=Lib.hid ⟨hin,hres,fun hm=>by have:=(hfpl _ hm).2;omega⟩;have HRO:=Lib.hid (Hr2.out.only o3 (by simp;omega));have Hw3:=Lib.hid hw3;clear hrb hw3 o3 hr3 hra hb3 hres hin;clear hown hg hrow hat hfpl hnu hno hB hbo hx hca hnp;go_wp2_with fail;rw [← Hw3.out];refine (done_any 0 w3).mono ?_;rintro e w9 ⟨rfl,o9⟩;unfold oucV;have rO:=HRO.out.only0 o9
 have c0:=rO.cell (i:=0) rfl;have c1:=rO.cell (i:=1) rfl;have f0:=rO.free 0;have f1:=rO.free 1;have hrz:=rO.set2 (.int .i64 0) (.string (str []));have hst:=only_set2 w9 (w0.heap.size+1) (.int .i64 0) (.string (str []));obtain ⟨wz,hwz⟩:∃ wz,wz=(w9.setCell ⟨w0.heap.size+1,0,none⟩ (.int .i64 0)).setCell ⟨w0.heap.size+1,1,none⟩ (.string (str [])):=⟨_,rfl⟩;rw [← hwz] at hrz hst;have Hrz:=Lib.hid hrz;have HE:Hid (BkRes w0 wz B g o cur b [] (cur.set (o+2) (.int .i64 m.x.days)) { b with days:=m.x.days }):=Lib.hid ((HE0.out.2.1.step o9).stepN hst (by simp;omega) (fun z hz=>by rw [List.mem_singleton.1 hz];exact ⟨by omega,HE0.out.2.2⟩))
 have Hwz:=Lib.hid hwz;clear rO hrz hst hwz o9;go_wp2_with fail;rw [← Hwz.out];exact bodyPost_ret (results_c1 rfl _ _ _ rfl Hrz.out Tryz.underlying38 oucInfo) rfl ⟨{ b with days:=m.x.days },(cur.set (o+2) (.int .i64 m.x.days)),by rw [HE0.out.1];rfl,by rw [HE0.out.1],HE.out⟩
end
section
open Go.RowKit
set_option maxHeartbeats 16000000 in
theorem inBk4_any (b:LBk) (m:LCmd) (g o B:Nat) (cur:List Value) (w0:World) (hrow:Row w0 g 60 cur) (hat:RecAt o cur (lbCells b)) (hown:BkOwn w0 B b) (hg:g ∉ b.fp) (hB:B≤w0.heap.size) (hbo:BkOk b.b) (hx:CmdOk m.x) (hca:CmAt w0 m) (hk:m.x.kind=4) :
  Calls Tryz.prog 57 #[.pointer (some ⟨g,o,none⟩),lmV m] w0 (InBkQ b m g o B cur w0):=by
 obtain ⟨np,hnp⟩:∃ n,m.x.parts.length=n:=⟨_,rfl⟩;obtain ⟨nu,hnu⟩:∃ n,b.us.length=n:=⟨_,rfl⟩;obtain ⟨no,hno⟩:∃ n,b.os.length=n:=⟨_,rfl⟩;have hnol:no≤128:=(by have:=hbo.ol;rw [show b.b.objs.length=b.os.length from List.length_map ..] at this;omega);have hnul:nu≤16:=(by have:=hbo.ul;rw [show b.b.upls.length=b.us.length from List.length_map ..] at this;omega);obtain ⟨w1,hw1⟩:∃ w1,w1=w0.alloc (.cells #[.int .i64 4,.int .i64 m.x.id.node,.int .i64 m.x.id.boot,.int .i64 m.x.id.seq,.string (str m.x.bucket),.string (str m.x.key),.int .i64 m.x.upload.node,.int .i64 m.x.upload.boot,.int .i64 m.x.upload.seq,.int .i64 m.x.piece.blob.node,.int .i64 m.x.piece.blob.boot,.int .i64 m.x.piece.blob.seq,.int .i64 m.x.piece.size,.string (str m.x.piece.etag),.int .i64 m.x.part,.slice m.p np m.c,.int .i64 m.x.time,.int .i64 m.x.days] 36):=⟨_,rfl⟩
 have o1:Only [] w0 w1:=(by rw [hw1];exact Only.alloc _ _);have s1:w1.heap.size=w0.heap.size+1:=(by rw [hw1];simp);have r1:Row w1 (w0.heap.size) 36 [.int .i64 4,.int .i64 m.x.id.node,.int .i64 m.x.id.boot,.int .i64 m.x.id.seq,.string (str m.x.bucket),.string (str m.x.key),.int .i64 m.x.upload.node,.int .i64 m.x.upload.boot,.int .i64 m.x.upload.seq,.int .i64 m.x.piece.blob.node,.int .i64 m.x.piece.blob.boot,.int .i64 m.x.piece.blob.seq,.int .i64 m.x.piece.size,.string (str m.x.piece.etag),.int .i64 m.x.part,.slice m.p np m.c,.int .i64 m.x.time,.int .i64 m.x.days]:=by rw [hw1];exact Row.newOf _ _ _ _ rfl
 obtain ⟨w2,hw2⟩:∃ w2,w2=w1.alloc (.cells #[.int .i64 0,.string ⟨#[]⟩] 38):=⟨_,rfl⟩;have o2:Only [] w1 w2:=(by rw [hw2];exact Only.alloc _ _);have s2:w2.heap.size=w0.heap.size+1+1:=(by rw [hw2];simp [s1]);have r2:Row w2 (w0.heap.size+1) 38 [.int .i64 0,.string ⟨#[]⟩]:=(by rw [← s1,hw2];exact Row.newOf _ _ _ _ rfl);replace r1:=r1.only0 o2;have oAll:Only [] w0 w2:=(o1.trans0 o2);rw [hw1] at hw2;have hatc:=hat;unfold lbCells at hatc;rw [hno,hnu] at hatc;have hfpl:=hown.lo;have Hr1:=Lib.hid r1;have Hr2:=Lib.hid r2;have HO:=Lib.hid oAll;have Hw:=Lib.hid hw2
 have Hsz:Hid (w2.heap.size=w0.heap.size+1+1):=Lib.hid s2;have Hrow:=Lib.hid (hrow.only0 oAll);have Hat:=Lib.hid hatc;have HH:Hid (BkOwn w0 B b∧g ∉ b.fp∧Row w0 g 60 cur∧RecAt o cur (lbCells b)∧(∀ z∈b.fp,B≤z∧z < w0.heap.size)∧b.us.length=nu∧b.os.length=no∧B≤w0.heap.size∧BkOk b.b∧CmdOk m.x∧CmAt w0 m∧m.x.parts.length=np):=Lib.hid ⟨hown,hg,hrow,hat,hfpl,hnu,hno,hB,hbo,hx,hca,hnp⟩;have Hk:=Lib.hid hk;have hgl:g < w0.heap.size:=hrow.lt;have m0:=r1.cell (i:=0) rfl;have m5:=r1.cell (i:=5) rfl;rw [show lmV m=.agg #[.int .i64 4,.int .i64 m.x.id.node,.int .i64 m.x.id.boot,.int .i64 m.x.id.seq,.string (str m.x.bucket),.string (str m.x.key),.int .i64 m.x.upload.node,.int .i64 m.x.upload.boot,.int .i64 m.x.upload.seq,.int .i64 m.x.piece.blob.node,.int .i64 m.x.piece.blob.boot,.int .i64 m.x.piece.blob.seq,.int .i64 m.x.piece.size,.string (str m.x.piece.etag),.int .i64 m.x.part,.slice m.p np m.c,.int .i64 m.x.time,.int .i64 m.x.days] by unfold lmV;rw [hnp,hk]]
 clear hrow hat hown hg hB hbo hx hca hnp hnu hno hatc hfpl r1 r2 oAll hw2 s2 s1 o1 o2 hw1 hk
 go_enter Tryz.func57,Tryz.ntmps57
 go_upto_region 1 with (fail)
 rw [← Hw.out];have z3:=Hat.out.cell Hrow.out (r:=3) rfl;have Hz3:=Lib.hid z3;have Hm5:=Lib.hid m5;obtain ⟨i,hi⟩:∃ i,posL LObj.key lt b.os m.x.key=i:=⟨_,rfl⟩;obtain ⟨th,hth⟩:∃ th,thereL LObj.key lt b.os m.x.key=th:=⟨_,rfl⟩;have hss:SortB LObj.key lt b.os:=sortB_map (key:=LObj.key) LObj.o (fun _=>rfl) HH.out.2.2.2.2.2.2.2.2.1.os;have hfind:=fun (W:World) (h:Only [] w0 W)=>findOb_any b.po no b.co b.os m.x.key W HH.out.2.2.2.2.2.2.1 (by omega) (fun h0=>by rw [← HH.out.2.2.2.2.2.2.1];exact (HH.out.1.so.view.2.2.2.1 h0).1) (HH.out.1.so.view.2.2.1.only0 h) hss
 rw [hi,hth] at hfind;have HF:=Lib.hid hfind
 have hde:delL CObj.key lt b.b.objs m.x.key=if th=true then (b.os.eraseIdx i).map LObj.o else b.os.map LObj.o:=by
  rw [show b.b.objs=b.os.map LObj.o from rfl,← delL_map (key:=LObj.key) LObj.o (fun _=>rfl)];unfold delL;rw [hth,hi]
  split <;> rfl
 have Hde:=Lib.hid hde;have Hith:Hid (posL LObj.key lt b.os m.x.key=i∧thereL LObj.key lt b.os m.x.key=th):=Lib.hid ⟨hi,hth⟩;clear z3 m5 hi hth hss hfind hde
 go_upto_region 6 with (fail)
 clear m0;refine wp_region_rg2 (Only []) [[(0,none)],[(34,some 0)],[(35,some 0)],[(36,some 0)],[(3,none)],[(38,some 0)],[(37,some 2),(39,some 0)],[(40,some 0)],[(33,some 0)],[(33,some 1)],[(41,some 1)],[(42,some 1)]] [(6,1),(7,0)] [none,none,none,none,none,none,some 6,some 7,none,none,none,none,none,none,none,none,none,none,none,none,none,none,none,none,none,none,none,none,none,none,none,none,none,some 33,some 34,some 35,some 36,some 37,some 38,some 39,some 40,some 41,some 42,none,none,none,none,none,none,none,none,none,none,none,none,none,none,none,none,none,none,none,none,none,none,none,none,none,none,none,none,none,none,none,none,none,none,none,none,none,none,none,none,none,none,none,none,none,none,none,none,none,none,none,none,none,none,none,none,none,none,none,none,none,none,none,none,none,none,none,none,none,none,none,none,none,none,none,none] (by kernel_rfl) rfl (by kernel_rfl) (fun _=>Only.refl _ _) (fun _ _ _ h k=>h.trans0 k) (Only.drew _) (by kernel_rfl) ?_
 apply rg_ev
 ·rintro a w hR ⟨(e0:_=_),-⟩;refine rg_plain rfl fun K hK=>?_;go_simp;exact hK _ _ rfl (Only.refl _ _)
 apply rg_ev
 ·rintro a w hR ⟨(e34:_=_),-⟩;refine rg_plain rfl fun K hK=>?_;go_simp;exact hK _ _ rfl (Only.refl _ _)
 apply rg_ev
 ·rintro a w hR ⟨(e35:_=_),-⟩;refine rg_plain rfl fun K hK=>?_;go_simp;exact hK _ _ rfl (Only.refl _ _)
 apply rg_ev
 ·rintro a w hR ⟨(e36:_=_),-⟩;refine rg_plain rfl fun K hK=>?_;have g3:=hR.cell Hz3.out (by simp);go_simp;exact hK _ _ rfl (Only.refl _ _)
 apply rg_ev
 ·rintro a w hR ⟨(e3:_=_),-⟩;refine rg_plain rfl fun K hK=>?_;go_simp;exact hK _ _ rfl (Only.refl _ _)
 apply rg_ev
 ·rintro a w hR ⟨(e38:_=_),-⟩;refine rg_plain rfl fun K hK=>?_;have g5:=hR.cell Hm5.out (by simp);go_simp;exact hK _ _ rfl (Only.refl _ _)
 apply rg_ev
 ·rintro a w hR ⟨(e37:_=_),(e39:_=_),-⟩;refine rg_plain rfl fun K hK=>?_;go_simp;(with_reducible refine (HF.out w (HO.out.trans0 hR)).mono ?_);rintro e w' ⟨rfl,o'⟩;exact hK _ _ rfl o'
 apply rg_ev
 ·rintro a w hR ⟨(e40:_=_),-⟩;refine rg_plain rfl fun K hK=>?_;go_simp;exact hK _ _ rfl (Only.refl _ _)
 apply rg_ev
 ·rintro a w hR ⟨(e33:_=_),-⟩;refine rg_plain rfl fun K hK=>?_;go_simp;exact hK _ _ rfl (Only.refl _ _)
 apply rg_ev
 ·rintro a w hR ⟨(e33:_=_),-⟩;refine rg_plain rfl fun K hK=>?_;go_simp;exact hK _ _ rfl (Only.refl _ _)
 apply rg_ev
 ·rintro a w hR ⟨(e41:_=_),-⟩;refine rg_plain rfl fun K hK=>?_;go_simp;exact hK _ _ rfl (Only.refl _ _)
 apply rg_ev
 ·rintro a w hR ⟨(e42:_=_),-⟩;refine rg_plain rfl fun K hK=>?_;go_simp;exact hK _ _ rfl (Only.refl _ _)
 intro fa wa hRa hf;dsimp only [mergeT];obtain ⟨e6,e7,-⟩:=hf;replace e6:fa 6=_:=e6;rw [e6];replace e7:fa 7=_:=e7;rw [e7];have HOa:=Lib.hid hRa;have HRO:=Lib.hid (Hr2.out.only0 hRa);have hr3:=Hrow.out.only0 hRa;clear hRa HF
 cases th with
 | false =>
  obtain ⟨hown,hg,hrow,hat,hfpl,hnu,hno,hB,hbo,hx,hca,hnp⟩:=HH.out
  have HE0:Hid (inBuck smL b.b m.x=(b.b,⟨0,[]⟩)∧BkRes w0 wa B g o cur b [] cur b∧w0.heap.size+1 ∉ b.fp):=Lib.hid ⟨by
   unfold inBuck;rw [if_neg (by have:=Hk.out;omega),if_pos Hk.out,Hde.out,if_neg (by simp)]
   rfl,BkRes.refl hrow hat hown _ (HO.out.trans0 HOa.out),fun hm=>by have:=(hfpl _ hm).2;omega⟩
  clear hr3;clear hown hg hrow hat hfpl hnu hno hB hbo hx hca hnp;go_wp2_with fail;refine (done_any 0 wa).mono ?_;rintro e w9 ⟨rfl,o9⟩;unfold oucV;have rO:=HRO.out.only0 o9;have c0:=rO.cell (i:=0) rfl;have c1:=rO.cell (i:=1) rfl;have f0:=rO.free 0;have f1:=rO.free 1;have hrz:=rO.set2 (.int .i64 0) (.string (str []));have hst:=only_set2 w9 (w0.heap.size+1) (.int .i64 0) (.string (str []));obtain ⟨wz,hwz⟩:∃ wz,wz=(w9.setCell ⟨w0.heap.size+1,0,none⟩ (.int .i64 0)).setCell ⟨w0.heap.size+1,1,none⟩ (.string (str [])):=⟨_,rfl⟩;rw [← hwz] at hrz hst;have Hrz:=Lib.hid hrz
  have HE:Hid (BkRes w0 wz B g o cur b [] cur b):=Lib.hid ((HE0.out.2.1.step o9).stepN hst (by simp;omega) (fun z hz=>by rw [List.mem_singleton.1 hz];exact ⟨by omega,HE0.out.2.2⟩));have Hwz:=Lib.hid hwz;clear rO hrz hst hwz o9;go_wp2_with fail;rw [← Hwz.out];exact bodyPost_ret (results_c1 rfl _ _ _ rfl Hrz.out Tryz.underlying38 oucInfo) rfl ⟨b,cur,by rw [HE0.out.1];rfl,by rw [HE0.out.1],HE.out⟩
 | true =>
  obtain ⟨y,hy,-⟩:=there_at Hith.out.2;rw [Hith.out.1] at hy;obtain ⟨hown,hg,hrow,hat,hfpl,hnu,hno,hB,hbo,hx,hca,hnp⟩:=HH.out;have hilt:i < no:=(by have:=(List.getElem?_eq_some_iff.1 hy).1;omega);obtain ⟨d,rfl⟩:∃ d,no=d+1:=⟨no - 1,by omega⟩;have h9:=hown.so.only0 (HO.out.trans0 HOa.out);rw [hno] at h9;have hdel:=delOb_any b.po d b.co b.os i B wa h9 hno (by omega) (by omega);have z3:=Hat.out.cell hr3 (r:=3) rfl;have hw1:IntKind.i64.wrap ((i:Int)+1)=(i:Int)+1:=(by rw [IntKind.wrap_i64];omega);have HD:=Lib.hid hdel;have Hr3:=Lib.hid hr3
  clear hdel h9 hy hr3;clear hown hg hrow hat hfpl hnu hno hB hbo hx hca hnp;go_wp2_with fail;refine HD.out.mono ?_;rintro e w4 ⟨rfl,h1,h2⟩;obtain ⟨hown,hg,hrow,hat,hfpl,hnu,hno,hB,hbo,hx,hca,hnp⟩:=HH.out;have hgpo:g ∉ blk b.po:=fun h=>hg (by unfold LBk.fp;exact List.mem_append_left _ h);have hr4:=Hr3.out.only h2 hgpo;have y3:=Hat.out.cell hr4 (r:=3) rfl;have g3:=hr4.free (o+3);obtain ⟨w5,hw5⟩:∃ w5,w5=w4.setCell ⟨g,o+3,none⟩ (.slice b.po d b.co):=⟨_,rfl⟩;have o5:Only [g] w4 w5:=(by rw [hw5];exact Only.setCell _ ⟨g,o+3,none⟩ _);have hr5:=hr4.setCell (o+3) (.slice b.po d b.co)
  rw [← hw5] at hr5;have ho:Only (g :: blk b.po) wa w5:=(h2.mono (fun z hz=>List.mem_cons_of_mem _ hz)).trans o5 (fun z hz _=>by rw [List.mem_singleton.1 hz];exact List.mem_cons_self ..);have hle:(b.os.eraseIdx i).length=d:=by rw [List.length_eraseIdx,if_pos (by omega)];omega
  have hbo':=(hown.only0 (HO.out.trans0 HOa.out)).objs (S:=g :: blk b.po) (os':=b.os.eraseIdx i) (p':=b.po) (c':=b.co) (new:=[]) ho (fun z hz=>by
   rcases List.mem_cons.1 hz with rfl | hz
   ·exact .inr ⟨hg,by simp⟩
   ·exact .inl hz) (by rw [hle];exact h1.onlyB o5 (fun z hz hm=>hgpo (by rw [← List.mem_singleton.1 hm];exact hz))) (fun y hy=>.inl (List.mem_of_mem_eraseIdx hy)) (fun z hz=>.inl hz) ⟨_,List.Perm.refl _,sub_flat (List.eraseIdx_sublist ..)⟩ List.nodup_nil (by simp)
  obtain ⟨hb1,hb2⟩:=hbo'
  have hra:RecAt o (cur.set (o+3) (.slice b.po d b.co)) (lbCells { b with os:=b.os.eraseIdx i,po:=b.po,co:=b.co }):=by
   have h9:=hat.set (i:=3) (.slice b.po d b.co) (by rw [lbCells_len];omega);rw [← hle] at h9 ⊢;exact h9
  have hres:BkRes wa w5 B g o cur b [] (cur.set (o+3) (.slice b.po d b.co)) { b with os:=b.os.eraseIdx i,po:=b.po,co:=b.co }:=⟨hr5,hra,Outside.set o 5 cur _ (by omega) (by omega),hb1,hb2,ho.mono (fun z hz=>by
   rcases List.mem_cons.1 hz with rfl | hz
   ·exact List.mem_cons_self ..
   ·exact List.mem_cons_of_mem _ (by unfold LBk.fp;exact List.mem_append_left _ hz))⟩
  have hA2:w0.heap.size+1 ∉ ({ b with os:=b.os.eraseIdx i,po:=b.po,co:=b.co }:LBk).fp:=fun hm=>by
   rcases hb2 _ hm with h | h | h
   ·have:=(hfpl _ h).2;omega
   ·cases h
   ·have:=Hsz.out;have:=HOa.out.size;omega
  have HE0:Hid (inBuck smL b.b m.x=(({ b with os:=b.os.eraseIdx i,po:=b.po,co:=b.co }:LBk).b,⟨0,[]⟩)∧BkRes w0 w5 B g o cur b [] (cur.set (o+3) (.slice b.po d b.co)) { b with os:=b.os.eraseIdx i,po:=b.po,co:=b.co }∧w0.heap.size+1 ∉ ({ b with os:=b.os.eraseIdx i,po:=b.po,co:=b.co }:LBk).fp):=Lib.hid ⟨by
   unfold inBuck;rw [if_neg (by have:=Hk.out;omega),if_pos Hk.out,Hde.out,if_pos (by trivial)]
   rfl,hres.base (HO.out.trans0 HOa.out),hA2⟩
  have HRO5:=HRO.out.only ho (fun hm=>by
   rcases List.mem_cons.1 hm with h | h
   ·omega
   ·have:=(hfpl _ (by unfold LBk.fp;exact List.mem_append_left _ h)).2;omega)
  clear HRO;have HRO:=Lib.hid HRO5;have Hw5:=Lib.hid hw5;clear HRO5 HD h1 h2 hgpo hr4 hw5 o5 hr5 ho hle hb1 hb2 hra hres hA2 z3;clear hown hg hrow hat hfpl hnu hno hB hbo hx hca hnp;go_wp2_with fail;rw [← Hw5.out];refine (done_any 0 w5).mono ?_;rintro e w9 ⟨rfl,o9⟩;unfold oucV;have rO:=HRO.out.only0 o9;have c0:=rO.cell (i:=0) rfl;have c1:=rO.cell (i:=1) rfl;have f0:=rO.free 0;have f1:=rO.free 1;have hrz:=rO.set2 (.int .i64 0) (.string (str []));have hst:=only_set2 w9 (w0.heap.size+1) (.int .i64 0) (.string (str []));obtain ⟨wz,hwz⟩:∃ wz,wz=(w9.setCell ⟨w0.heap.size+1,0,none⟩ (.int .i64 0)).setCell ⟨w0.heap.size+1,1,none⟩ (.string (str [])):=⟨_,rfl⟩
  rw [← hwz] at hrz hst;have Hrz:=Lib.hid hrz;have HE:Hid (BkRes w0 wz B g o cur b [] (cur.set (o+3) (.slice b.po d b.co)) { b with os:=b.os.eraseIdx i,po:=b.po,co:=b.co }):=Lib.hid ((HE0.out.2.1.step o9).stepN hst (by simp;omega) (fun z hz=>by rw [List.mem_singleton.1 hz];exact ⟨by omega,HE0.out.2.2⟩));have Hwz:=Lib.hid hwz;clear rO hrz hst hwz o9;go_wp2_with fail;rw [← Hwz.out];exact bodyPost_ret (results_c1 rfl _ _ _ rfl Hrz.out Tryz.underlying38 oucInfo) rfl ⟨{ b with os:=b.os.eraseIdx i,po:=b.po,co:=b.co },(cur.set (o+3) (.slice b.po d b.co)),by rw [HE0.out.1];rfl,by rw [HE0.out.1],HE.out⟩
end
section
open Go.RowKit
def zObj:CObj:=⟨[],0,[],0,[]⟩
def ObjQ (L:LCat) (bk ky:Bs) (w0:World):Ending→World→Prop:=fun e w'=>∃ x:LObj,e=.returned (.tuple #[loV x,.bool (findO L.cat bk ky).isSome])∧x.o=(findO L.cat bk ky).getD zObj∧ObOwn w' w0.heap.size x∧Only [] w0 w'
theorem findO_at {L:LCat} {bk ky:Bs} {i:Nat} {b:LBk} (hi:posL LBk.name lt L.bs bk=i) (hth:thereL LBk.name lt L.bs bk=true) (hb:L.bs[i]?=some b):findO L.cat bk ky=atL CObj.key lt b.b.objs ky:=by
 unfold findO
 have h1:atL CBuck.name lt L.cat.bucks bk=some b.b:=by
  unfold atL;rw [show L.cat.bucks=L.bs.map LBk.b from rfl,thereL_map (key:=LBk.name) LBk.b (fun _=>rfl),posL_map (key:=LBk.name) LBk.b (fun _=>rfl),if_pos hth,hi,List.getElem?_map,hb]
  rfl
 first | rw [h1];rfl | (unfold findB;rw [h1];rfl)
theorem findO_none {L:LCat} {bk ky:Bs} (hth:thereL LBk.name lt L.bs bk=false):findO L.cat bk ky=none:=by
 unfold findO
 have h1:atL CBuck.name lt L.cat.bucks bk=none:=by
  unfold atL;rw [show L.cat.bucks=L.bs.map LBk.b from rfl,thereL_map (key:=LBk.name) LBk.b (fun _=>rfl),if_neg (by rw [hth];simp)]
 first | rw [h1];rfl | (unfold findB;rw [h1];rfl)
theorem atO_eq {b:LBk} {ky:Bs} {j:Nat} (hj:posL LObj.key lt b.os ky=j):atL CObj.key lt b.b.objs ky=if thereL LObj.key lt b.os ky=true then (b.os[j]?).map LObj.o else none:=by
 unfold atL;rw [show b.b.objs=b.os.map LObj.o from rfl,thereL_map (key:=LObj.key) LObj.o (fun _=>rfl),posL_map (key:=LObj.key) LObj.o (fun _=>rfl),hj,List.getElem?_map]
set_option maxHeartbeats 16000000 in
theorem catObject_any (L:LCat) (bk ky:Bs) (w0:World) (hA:CatAt w0 L) (hok:CatOk L.cat):Calls Tryz.prog 22 #[lcV L,.string (str bk),.string (str ky)] w0 (ObjQ L bk ky w0):=by
 obtain ⟨nb,hnb⟩:∃ n,L.bs.length=n:=⟨_,rfl⟩;obtain ⟨nf,hnf⟩:∃ n,L.fs.length=n:=⟨_,rfl⟩;obtain ⟨pb,hpb⟩:∃ p,L.pb=p:=⟨_,rfl⟩;obtain ⟨w1,hw1⟩:∃ w1,w1=w0.alloc (.cells #[.slice pb nb L.cb,.slice L.pf nf L.cf] 29):=⟨_,rfl⟩;have o1:Only [] w0 w1:=(by rw [hw1];exact Only.alloc _ _);have s1:w1.heap.size=w0.heap.size+1:=(by rw [hw1];simp);have r1:Row w1 (w0.heap.size) 29 [.slice pb nb L.cb,.slice L.pf nf L.cf]:=(by rw [hw1];exact Row.newOf _ _ _ _ rfl);obtain ⟨w2,hw2⟩:∃ w2,w2=w1.alloc (.cells #[.string ⟨#[]⟩,.int .i64 0,.string ⟨#[]⟩,.int .i64 0,.slice none 0 0] 48):=⟨_,rfl⟩
 have o2:Only [] w1 w2:=(by rw [hw2];exact Only.alloc _ _);have s2:w2.heap.size=w0.heap.size+1+1:=(by rw [hw2];simp [s1]);have r2:Row w2 (w0.heap.size+1) 48 [.string ⟨#[]⟩,.int .i64 0,.string ⟨#[]⟩,.int .i64 0,.slice none 0 0]:=(by rw [← s1,hw2];exact Row.newOf _ _ _ _ rfl);replace r1:=r1.only0 o2;have oAll:Only [] w0 w2:=(o1.trans0 o2);rw [hw1] at hw2;have hnb16:nb≤16:=(by have:=hok.bl;rw [show L.cat.bucks.length=L.bs.length from List.length_map ..] at this;omega);obtain ⟨i,hi⟩:∃ i,posL LBk.name lt L.bs bk=i:=⟨_,rfl⟩;obtain ⟨th,hth⟩:∃ th,thereL LBk.name lt L.bs bk=th:=⟨_,rfl⟩
 have hbs:SortB LBk.name lt L.bs:=sortB_map (key:=LBk.name) LBk.b (fun _=>rfl) hok.bs;have hfd:=findBk_any L.pb nb L.cb L.bs bk w2 hnb (by omega) (fun h0=>by rw [← hnb];exact (hA.sb.2.1 h0).1) (hA.sb.only0 oAll).1 hbs;rw [hi,hth,hpb] at hfd;have HF:=Lib.hid hfd;have HA:=Lib.hid hA;have Hok:=Lib.hid hok;have HO:=Lib.hid oAll;have Hw:=Lib.hid hw2;have Hr1:=Lib.hid r1;have Hr2:=Lib.hid r2;have HH:Hid (L.bs.length=nb∧L.pb=pb∧posL LBk.name lt L.bs bk=i∧thereL LBk.name lt L.bs bk=th):=Lib.hid ⟨hnb,hpb,hi,hth⟩;rw [show lcV L=.agg #[.slice pb nb L.cb,.slice L.pf nf L.cf] by unfold lcV;rw [hnb,hnf,hpb]]
 have c0:=r1.cell (i:=0) rfl;clear hnb hnf hpb hi hth hbs hfd hA hok oAll hw2 s2 s1 o1 o2 hw1 r1 r2
 go_enter Tryz.func22,Tryz.ntmps22
 go_upto_region 1 with (fail)
 rw [← Hw.out];clear Hw;go_wp2_with fail;refine HF.out.mono ?_;rintro e w3 ⟨rfl,o3⟩;clear HF c0;have HO3:=Lib.hid o3;have HZ:Hid (∀ w,Only [] w2 w→Row w (w0.heap.size+1) 48 [.string ⟨#[]⟩,.int .i64 0,.string ⟨#[]⟩,.int .i64 0,.slice none 0 0]):=Lib.hid (fun w h=>Hr2.out.only0 h)
 cases th with
 | false =>
  have hfn:=findO_none (ky:=ky) HH.out.2.2.2;have Hfn:=Lib.hid hfn;have hz:=HZ.out w3 o3;have Hz:=Lib.hid hz;have z0:=hz.cell (i:=0) rfl;have z1:=hz.cell (i:=1) rfl;have z2:=hz.cell (i:=2) rfl;have z3:=hz.cell (i:=3) rfl;have z4:=hz.cell (i:=4) rfl;have f0:=hz.free 0;have f1:=hz.free 1;have f2:=hz.free 2;have f3:=hz.free 3;have f4:=hz.free 4;obtain ⟨wz,hwz⟩:∃ wz,wz=(((((w3.setCell ⟨w0.heap.size+1,0,none⟩ (.string ⟨#[]⟩)).setCell ⟨w0.heap.size+1,1,none⟩ (.int .i64 0)).setCell ⟨w0.heap.size+1,2,none⟩ (.string ⟨#[]⟩)).setCell ⟨w0.heap.size+1,3,none⟩ (.int .i64 0)).setCell ⟨w0.heap.size+1,4,none⟩ (.slice none 0 0)):=⟨_,rfl⟩
  have hrz:=Row.set5 hz (.string ⟨#[]⟩) (.int .i64 0) (.string ⟨#[]⟩) (.int .i64 0) (.slice none 0 0);have hst:=only_set5 w3 (w0.heap.size+1) (.string ⟨#[]⟩) (.int .i64 0) (.string ⟨#[]⟩) (.int .i64 0) (.slice none 0 0);rw [← hwz] at hrz hst;have HE:Hid (Only [] w0 wz):=Lib.hid ((HO.out.trans0 o3).transN hst (fun z hz=>by rw [List.mem_singleton.1 hz];omega));have Hrz:=Lib.hid hrz;have Hwz:=Lib.hid hwz;clear hwz hrz hst;clear hfn hz o3;go_wp2_with fail;rw [← Hwz.out];refine bodyPost_ret (results_c2 rfl _ _ _ rfl Hrz.out Tryz.underlying48 loInfo) rfl ⟨⟨zObj,none,0⟩,?_,?_,OwnK.nil _ _ _ _,HE.out⟩
  ·rw [Hfn.out];rfl
  ·rw [Hfn.out];rfl
 | true =>
  obtain ⟨b,hb,-⟩:=there_at HH.out.2.2.2;rw [HH.out.2.2.1] at hb;have hfa:=findO_at (ky:=ky) HH.out.2.2.1 HH.out.2.2.2 hb;have hilt:i < nb:=(by have:=(List.getElem?_eq_some_iff.1 hb).1;have:=HH.out.1;omega);have hbm:=List.mem_of_getElem? hb;have hbk:BkOk b.b:=Hok.out.bk _ (List.mem_map_of_mem hbm);obtain ⟨no,hno⟩:∃ n,b.os.length=n:=⟨_,rfl⟩;have hnol:no≤128:=(by have:=hbk.ol;rw [show b.b.objs.length=b.os.length from List.length_map ..] at this;omega);have hrd:=(HA.out.sb.only0 (HO.out.trans0 o3)).1;have hne:L.bs.flatMap lbCells≠[]:=fun e'=>by have:=flat_get lbCells 5 lbCells_len L.bs _ b 0 hb (by omega);rw [e'] at this;cases this
  obtain ⟨bq,off,hg,-⟩:=hrd.lt hne;rw [hg] at hrd;obtain rfl:=HH.out.2.1.symm.trans hg;have d3:=rd_elem lbCells_len hrd hb (r:=3) rfl;rw [Addr.add_lit,← Nat.add_assoc] at d3;rw [hno] at d3;obtain ⟨po,hpo⟩:∃ p,b.po=p:=⟨_,rfl⟩;rw [hpo] at d3;obtain ⟨j,hj⟩:∃ j,posL LObj.key lt b.os ky=j:=⟨_,rfl⟩;obtain ⟨t2,ht2⟩:∃ t,thereL LObj.key lt b.os ky=t:=⟨_,rfl⟩;have hss:SortB LObj.key lt b.os:=sortB_map (key:=LObj.key) LObj.o (fun _=>rfl) hbk.os;have hBA:=HA.out.bk b hbm;have hfd:=findOb_any b.po no b.co b.os ky w3 hno (by omega) (fun h0=>by rw [← hno];exact (hBA.so.2.1 h0).1) (hBA.so.only0 (HO.out.trans0 o3)).1 hss
  rw [hj,ht2,hpo] at hfd;have HF:=Lib.hid hfd;have hao:=atO_eq (b:=b) hj;rw [ht2,← hfa] at hao;have HG:Hid (findO L.cat bk ky=(if t2=true then (b.os[j]?).map LObj.o else none)∧BkAt w0 b∧BkOk b.b∧b.os.length=no∧b.po=po∧posL LObj.key lt b.os ky=j∧thereL LObj.key lt b.os ky=t2):=Lib.hid ⟨hao,hBA,hbk,hno,hpo,hj,ht2⟩;have c0:=(Hr1.out.only0 o3).cell (i:=0) rfl;have hii:(i:Int) < (nb:Int):=(by omega);have Hd3:=Lib.hid d3;have Hc0:=Lib.hid c0;clear hb hfa hilt hbm hbk hno hrd hne hg hpo hj ht2 hss hBA hfd hao o3;go_wp2_with fail;refine HF.out.mono ?_
  rintro e w4 ⟨rfl,o4⟩;clear HF d3 c0
  cases t2 with
  | false =>
   have Hfn:=Lib.hid (HG.out.1.trans (if_neg (by simp)));have hz:=HZ.out w4 (HO3.out.trans0 o4);have Hz:=Lib.hid hz;have HO3:=Lib.hid (HO3.out.trans0 o4);have z0:=hz.cell (i:=0) rfl;have z1:=hz.cell (i:=1) rfl;have z2:=hz.cell (i:=2) rfl;have z3:=hz.cell (i:=3) rfl;have z4:=hz.cell (i:=4) rfl;have f0:=hz.free 0;have f1:=hz.free 1;have f2:=hz.free 2;have f3:=hz.free 3;have f4:=hz.free 4;obtain ⟨wz,hwz⟩:∃ wz,wz=(((((w4.setCell ⟨w0.heap.size+1,0,none⟩ (.string ⟨#[]⟩)).setCell ⟨w0.heap.size+1,1,none⟩ (.int .i64 0)).setCell ⟨w0.heap.size+1,2,none⟩ (.string ⟨#[]⟩)).setCell ⟨w0.heap.size+1,3,none⟩ (.int .i64 0)).setCell ⟨w0.heap.size+1,4,none⟩ (.slice none 0 0)):=⟨_,rfl⟩
   have hrz:=Row.set5 hz (.string ⟨#[]⟩) (.int .i64 0) (.string ⟨#[]⟩) (.int .i64 0) (.slice none 0 0);have hst:=only_set5 w4 (w0.heap.size+1) (.string ⟨#[]⟩) (.int .i64 0) (.string ⟨#[]⟩) (.int .i64 0) (.slice none 0 0);rw [← hwz] at hrz hst;have HE:Hid (Only [] w0 wz):=Lib.hid ((HO.out.trans0 HO3.out).transN hst (fun z hz=>by rw [List.mem_singleton.1 hz];omega));have Hrz:=Lib.hid hrz;have Hwz:=Lib.hid hwz;clear hwz hrz hst;clear hz o4;go_wp2_with fail;rw [← Hwz.out];refine bodyPost_ret (results_c2 rfl _ _ _ rfl Hrz.out Tryz.underlying48 loInfo) rfl ⟨⟨zObj,none,0⟩,?_,?_,OwnK.nil _ _ _ _,HE.out⟩
   ·rw [Hfn.out];rfl
   ·rw [Hfn.out];rfl
  | true =>
   obtain ⟨x,hx,-⟩:=there_at HG.out.2.2.2.2.2.2;rw [HG.out.2.2.2.2.2.1] at hx;have hjlt:j < no:=(by have:=(List.getElem?_eq_some_iff.1 hx).1;have:=HG.out.2.2.2.1;omega);have hxm:=List.mem_of_getElem? hx;have hrd:=(HG.out.2.1.so.only0 ((HO.out.trans0 HO3.out).trans0 o4)).1;have hne:b.os.flatMap loCells≠[]:=fun e'=>(by have:=flat_get loCells 5 loCells_len b.os _ x 0 hx (by omega);rw [e'] at this;cases this);obtain ⟨bp,op,hg2,-⟩:=hrd.lt hne;rw [hg2] at hrd;obtain rfl:=HG.out.2.2.2.2.1.symm.trans hg2;have x0:=rd_elem loCells_len hrd hx (r:=0) rfl;have x1:=rd_elem loCells_len hrd hx (r:=1) rfl
   have x2:=rd_elem loCells_len hrd hx (r:=2) rfl;have x3:=rd_elem loCells_len hrd hx (r:=3) rfl;have x4:=rd_elem loCells_len hrd hx (r:=4) rfl;rw [Addr.add_lit,← Nat.add_assoc] at x0 x1 x2 x3 x4;rw [Nat.add_zero] at x0;have hpl:x.o.pcs.length≤1000000:=Nat.le_trans (HG.out.2.2.1.ob x.o (List.mem_map_of_mem hxm)).len (by omega);have hcp:=copyObject_any x w4 ((HG.out.2.1.ob x hxm).only0 ((HO.out.trans0 HO3.out).trans0 o4)) hpl;unfold loV at hcp;have HC:=Lib.hid hcp;have Hfn:=Lib.hid (show findO L.cat bk ky=some x.o by rw [HG.out.1,if_pos (by trivial),hx];rfl)
   have d3:=o4.cell Hd3.out (by simp);have c0:=o4.cell Hc0.out (by simp);have hjj:(j:Int) < (no:Int):=(by omega);have HO4:=Lib.hid (HO3.out.trans0 o4);clear hx hjlt hxm hrd hne hg2 hpl hcp o4;go_wp2_with fail;refine HC.out.mono ?_;rintro e w5 ⟨q,c,rfl,hown,o5⟩;clear HC d3 c0 x0 x1 x2 x3 x4;obtain ⟨np,hnp⟩:∃ n,x.o.pcs.length=n:=⟨_,rfl⟩;have hz:=HZ.out w5 (HO4.out.trans0 o5);have z0:=hz.cell (i:=0) rfl;have z1:=hz.cell (i:=1) rfl;have z2:=hz.cell (i:=2) rfl;have z3:=hz.cell (i:=3) rfl;have z4:=hz.cell (i:=4) rfl;have f0:=hz.free 0;have f1:=hz.free 1
   have f2:=hz.free 2;have f3:=hz.free 3;have f4:=hz.free 4;obtain ⟨wz,hwz⟩:∃ wz,wz=(((((w5.setCell ⟨w0.heap.size+1,0,none⟩ (.string (str x.o.key))).setCell ⟨w0.heap.size+1,1,none⟩ (.int .i64 x.o.size)).setCell ⟨w0.heap.size+1,2,none⟩ (.string (str x.o.etag))).setCell ⟨w0.heap.size+1,3,none⟩ (.int .i64 x.o.time)).setCell ⟨w0.heap.size+1,4,none⟩ (.slice q np c)):=⟨_,rfl⟩;have hrz:=Row.set5 hz (.string (str x.o.key)) (.int .i64 x.o.size) (.string (str x.o.etag)) (.int .i64 x.o.time) (.slice q np c);have hst:=only_set5 w5 (w0.heap.size+1) (.string (str x.o.key)) (.int .i64 x.o.size) (.string (str x.o.etag)) (.int .i64 x.o.time) (.slice q np c)
   rw [← hwz] at hrz hst;have hlo:=hown.view.2.2.2.2.2.2;have hsz4:w0.heap.size+1 < w4.heap.size:=(HZ.out w4 HO4.out).lt;have HE:Hid (ObOwn wz w0.heap.size ⟨x.o,q,c⟩∧Only [] w0 wz∧x.o.pcs.length=np):=Lib.hid ⟨(hown.onlyB hst (fun z hz hm=>by have:=(hlo z hz).1;rw [List.mem_singleton.1 hm] at this;omega)).weaken (Nat.le_trans (Nat.le_succ_of_le (Nat.le_succ _)) (show w0.heap.size+1+1≤w4.heap.size by omega)),((HO.out.trans0 HO4.out).trans0 o5).transN hst (fun z hz=>by rw [List.mem_singleton.1 hz];omega),hnp⟩;have Hrz:=Lib.hid hrz;have Hwz:=Lib.hid hwz
   rw [hnp];clear hown o5 hnp hz hwz hrz hst hlo;go_wp2_with fail;rw [← Hwz.out];refine bodyPost_ret (results_c2 rfl _ _ _ rfl Hrz.out Tryz.underlying48 loInfo) rfl ⟨⟨x.o,q,c⟩,?_,?_,HE.out.1,HE.out.2.1⟩
   ·rw [Hfn.out];unfold loV;dsimp only;rw [HE.out.2.2];rfl
   ·rw [Hfn.out];rfl
end
section
open Go.RowKit
theorem findB_eq {L:LCat} {bk:Bs} {i:Nat} (hi:posL LBk.name lt L.bs bk=i):findB L.cat bk=if thereL LBk.name lt L.bs bk=true then (L.bs[i]?).map LBk.b else none:=by
 unfold findB atL;rw [show L.cat.bucks=L.bs.map LBk.b from rfl,thereL_map (key:=LBk.name) LBk.b (fun _=>rfl),posL_map (key:=LBk.name) LBk.b (fun _=>rfl),hi,List.getElem?_map]
end
section
open Go.RowKit
def zUpl:CUpl:=⟨⟨0,0,0⟩,[],[]⟩
def UplQ (L:LCat) (bk ky:Bs) (id:Cid) (w0:World):Ending→World→Prop:=fun e w'=>∃ x:LUpl,e=.returned (.tuple #[luV x,.bool (findU L.cat bk ky id).isSome])∧x.u=(findU L.cat bk ky id).getD zUpl∧UpOwn w' w0.heap.size x∧Only [] w0 w'
theorem atU_eq {b:LBk} {id:Cid} {j:Nat} (hj:posL LUpl.id ltI b.us id=j):atL CUpl.id ltI b.b.upls id=if thereL LUpl.id ltI b.us id=true then (b.us[j]?).map LUpl.u else none:=by
 unfold atL;rw [show b.b.upls=b.us.map LUpl.u from rfl,thereL_map (key:=LUpl.id) LUpl.u (fun _=>rfl),posL_map (key:=LUpl.id) LUpl.u (fun _=>rfl),hj,List.getElem?_map]
set_option maxHeartbeats 16000000 in
theorem catUpload_any (L:LCat) (bk ky:Bs) (id:Cid) (w0:World) (hA:CatAt w0 L) (hok:CatOk L.cat):Calls Tryz.prog 23 #[lcV L,.string (str bk),.string (str ky),idV id] w0 (UplQ L bk ky id w0):=by
 obtain ⟨nb,hnb⟩:∃ n,L.bs.length=n:=⟨_,rfl⟩;obtain ⟨nf,hnf⟩:∃ n,L.fs.length=n:=⟨_,rfl⟩;obtain ⟨pb,hpb⟩:∃ p,L.pb=p:=⟨_,rfl⟩;obtain ⟨w1,hw1⟩:∃ w1,w1=w0.alloc (.cells #[.slice pb nb L.cb,.slice L.pf nf L.cf] 29):=⟨_,rfl⟩;have o1:Only [] w0 w1:=(by rw [hw1];exact Only.alloc _ _);have s1:w1.heap.size=w0.heap.size+1:=(by rw [hw1];simp);have r1:Row w1 (w0.heap.size) 29 [.slice pb nb L.cb,.slice L.pf nf L.cf]:=(by rw [hw1];exact Row.newOf _ _ _ _ rfl);obtain ⟨w2,hw2⟩:∃ w2,w2=w1.alloc (.cells #[.int .i64 id.node,.int .i64 id.boot,.int .i64 id.seq] 31):=⟨_,rfl⟩
 have o2:Only [] w1 w2:=(by rw [hw2];exact Only.alloc _ _);have s2:w2.heap.size=w0.heap.size+1+1:=(by rw [hw2];simp [s1]);have r2:Row w2 (w0.heap.size+1) 31 [.int .i64 id.node,.int .i64 id.boot,.int .i64 id.seq]:=(by rw [← s1,hw2];exact Row.newOf _ _ _ _ rfl);obtain ⟨w3,hw3⟩:∃ w3,w3=w2.alloc (.cells #[.int .i64 0,.int .i64 0,.int .i64 0,.string ⟨#[]⟩,.slice none 0 0] 54):=⟨_,rfl⟩;have o3:Only [] w2 w3:=(by rw [hw3];exact Only.alloc _ _);have s3:w3.heap.size=w0.heap.size+1+1+1:=(by rw [hw3];simp [s2]);have r3:Row w3 (w0.heap.size+1+1) 54 [.int .i64 0,.int .i64 0,.int .i64 0,.string ⟨#[]⟩,.slice none 0 0]:=by rw [← s2,hw3];exact Row.newOf _ _ _ _ rfl
 replace r1:=r1.only0 (o2.trans0 o3);replace r2:=r2.only0 o3;have oAll:Only [] w0 w3:=((o1.trans0 o2).trans0 o3);rw [hw1] at hw2;rw [hw2] at hw3;have hnb16:nb≤16:=(by have:=hok.bl;rw [show L.cat.bucks.length=L.bs.length from List.length_map ..] at this;omega);obtain ⟨i,hi⟩:∃ i,posL LBk.name lt L.bs bk=i:=⟨_,rfl⟩;obtain ⟨th,hth⟩:∃ th,thereL LBk.name lt L.bs bk=th:=⟨_,rfl⟩;have hbs:SortB LBk.name lt L.bs:=sortB_map (key:=LBk.name) LBk.b (fun _=>rfl) hok.bs;have hfd:=findBk_any L.pb nb L.cb L.bs bk w3 hnb (by omega) (fun h0=>by rw [← hnb];exact (hA.sb.2.1 h0).1) (hA.sb.only0 oAll).1 hbs
 rw [hi,hth,hpb] at hfd;have hfb:=findB_eq (bk:=bk) hi;rw [hth] at hfb;have Hfb:=Lib.hid hfb;have HF:=Lib.hid hfd;have HA:=Lib.hid hA;have Hok:=Lib.hid hok;have HO:=Lib.hid oAll;have Hw:=Lib.hid hw3;have Hr1:=Lib.hid r1;have Hr2:=Lib.hid r2;have Hr3:=Lib.hid r3;have HH:Hid (L.bs.length=nb∧L.pb=pb∧posL LBk.name lt L.bs bk=i∧thereL LBk.name lt L.bs bk=th):=Lib.hid ⟨hnb,hpb,hi,hth⟩;rw [show lcV L=.agg #[.slice pb nb L.cb,.slice L.pf nf L.cf] by unfold lcV;rw [hnb,hnf,hpb]];unfold idV;have c0:=r1.cell (i:=0) rfl;clear hnb hnf hpb hi hth hbs hfd hA hok oAll hw3 s3 s2 s1 o1 o2 o3 hw1 hw2 r1 r2 r3 hfb
 go_enter Tryz.func23,Tryz.ntmps23
 go_upto_region 1 with (fail)
 rw [← Hw.out];clear Hw;go_wp2_with fail;refine HF.out.mono ?_;rintro e w4 ⟨rfl,o4⟩;clear HF c0;have HO4:=Lib.hid o4
 cases th with
 | false =>
  have Hfn:Hid (findU L.cat bk ky id=none):=Lib.hid (by unfold findU;rw [Hfb.out,if_neg (by simp)];rfl);have hz:=Hr3.out.only0 o4;have z0:=hz.cell (i:=0) rfl;have z1:=hz.cell (i:=1) rfl;have z2:=hz.cell (i:=2) rfl;have z3:=hz.cell (i:=3) rfl;have z4:=hz.cell (i:=4) rfl;have f0:=hz.free 0;have f1:=hz.free 1;have f2:=hz.free 2;have f3:=hz.free 3;have f4:=hz.free 4;obtain ⟨wz,hwz⟩:∃ wz,wz=(((((w4.setCell ⟨w0.heap.size+1+1,0,none⟩ (.int .i64 0)).setCell ⟨w0.heap.size+1+1,1,none⟩ (.int .i64 0)).setCell ⟨w0.heap.size+1+1,2,none⟩ (.int .i64 0)).setCell ⟨w0.heap.size+1+1,3,none⟩ (.string ⟨#[]⟩)).setCell ⟨w0.heap.size+1+1,4,none⟩ (.slice none 0 0)):=⟨_,rfl⟩
  have hrz:=Row.set5 hz (.int .i64 0) (.int .i64 0) (.int .i64 0) (.string ⟨#[]⟩) (.slice none 0 0);have hst:=only_set5 w4 (w0.heap.size+1+1) (.int .i64 0) (.int .i64 0) (.int .i64 0) (.string ⟨#[]⟩) (.slice none 0 0);rw [← hwz] at hrz hst;have HE:Hid (Only [] w0 wz):=Lib.hid ((HO.out.trans0 o4).transN hst (fun z hz=>by rw [List.mem_singleton.1 hz];omega));have Hrz:=Lib.hid hrz;have Hwz:=Lib.hid hwz;clear hwz hrz hst;clear hz o4;go_wp2_with fail;rw [← Hwz.out];refine bodyPost_ret (results_c2 rfl _ _ _ rfl Hrz.out Tryz.underlying54 luInfo) rfl ⟨⟨zUpl,none,0⟩,?_,?_,OwnK.nil _ _ _ _,HE.out⟩
  ·rw [Hfn.out];rfl
  ·rw [Hfn.out];rfl
 | true =>
  obtain ⟨b,hb,-⟩:=there_at HH.out.2.2.2;rw [HH.out.2.2.1] at hb;have hfb2:findB L.cat bk=some b.b:=(by rw [Hfb.out,if_pos (by trivial),hb];rfl);have hilt:i < nb:=(by have:=(List.getElem?_eq_some_iff.1 hb).1;have:=HH.out.1;omega);have hbm:=List.mem_of_getElem? hb;have hbk:BkOk b.b:=Hok.out.bk _ (List.mem_map_of_mem hbm);obtain ⟨nu,hnu⟩:∃ n,b.us.length=n:=⟨_,rfl⟩;have hnul:nu≤16:=(by have:=hbk.ul;rw [show b.b.upls.length=b.us.length from List.length_map ..] at this;omega);have hrd:=(HA.out.sb.only0 (HO.out.trans0 o4)).1;have hne:L.bs.flatMap lbCells≠[]:=fun e'=>by have:=flat_get lbCells 5 lbCells_len L.bs _ b 0 hb (by omega);rw [e'] at this;cases this
  obtain ⟨bq,off,hg,-⟩:=hrd.lt hne;rw [hg] at hrd;obtain rfl:=HH.out.2.1.symm.trans hg;have d4:=rd_elem lbCells_len hrd hb (r:=4) rfl;rw [Addr.add_lit,← Nat.add_assoc] at d4;rw [hnu] at d4;obtain ⟨pu,hpu⟩:∃ p,b.pu=p:=⟨_,rfl⟩;rw [hpu] at d4;obtain ⟨j,hj⟩:∃ j,posL LUpl.id ltI b.us id=j:=⟨_,rfl⟩;obtain ⟨t2,ht2⟩:∃ t,thereL LUpl.id ltI b.us id=t:=⟨_,rfl⟩;have hss:SortB LUpl.id ltI b.us:=sortB_map (key:=LUpl.id) LUpl.u (fun _=>rfl) hbk.us;have hBA:=HA.out.bk b hbm;have hfd:=fun (W:World) (h:Only [] w0 W)=>findUp_any b.pu nu b.cu b.us id W hnu (by omega) (fun h0=>by rw [← hnu];exact (hBA.su.2.1 h0).1) (hBA.su.only0 h).1 hss
  rw [hj,ht2,hpu] at hfd;unfold idV at hfd;have HF:=Lib.hid hfd;have hao:=atU_eq (b:=b) hj;rw [ht2] at hao;have HG:Hid (atL CUpl.id ltI b.b.upls id=(if t2=true then (b.us[j]?).map LUpl.u else none)∧BkAt w0 b∧BkOk b.b∧b.us.length=nu∧b.pu=pu∧posL LUpl.id ltI b.us id=j∧thereL LUpl.id ltI b.us id=t2∧findB L.cat bk=some b.b):=Lib.hid ⟨hao,hBA,hbk,hnu,hpu,hj,ht2,hfb2⟩;have c0:=(Hr1.out.only0 o4).cell (i:=0) rfl;have e0:=(Hr2.out.only0 o4).cell (i:=0) rfl;have e1:=(Hr2.out.only0 o4).cell (i:=1) rfl;have e2:=(Hr2.out.only0 o4).cell (i:=2) rfl
  have hii:(i:Int) < (nb:Int):=(by omega);clear hb hfb2 hilt hbm hbk hnu hrd hne hg hpu hj ht2 hss hBA hfd hao o4
  go_upto_region 4 with (fail)
  refine wp_region_rg2 (Only []) [[(4,none)],[(24,some 0)],[(10,none)],[(25,some 1),(26,some 0)],[(27,some 0)],[(28,some 0)],[(7,none)],[(29,some 1),(30,some 0)],[(31,some 0)],[(23,some 0)],[(23,some 1)],[(32,some 1)],[(33,some 1)]] [(11,0),(12,1)] [none,none,none,none,none,none,none,none,none,none,none,some 11,some 12,none,none,none,none,none,none,none,none,none,none,some 23,some 24,some 25,some 26,some 27,some 28,some 29,some 30,some 31,some 32,some 33,none,none,none,none,none,none,none,none,none,none,none,none,none,none,none,none,none,none,none,none,none,none,none,none,none,none,none] (by kernel_rfl) rfl (by kernel_rfl) (fun _=>Only.refl _ _) (fun _ _ _ h k=>h.trans0 k) (Only.drew _) (by kernel_rfl) ?_
  apply rg_ev
  ·rintro a w hR ⟨(e4:_=_),-⟩;refine rg_plain rfl fun K hK=>?_;go_simp;exact hK _ _ rfl (Only.refl _ _)
  apply rg_ev
  ·rintro a w hR ⟨(e24:_=_),-⟩;refine rg_plain rfl fun K hK=>?_;have g0:=hR.cell c0 (by simp);go_simp;exact hK _ _ rfl (Only.refl _ _)
  apply rg_ev
  ·rintro a w hR ⟨(e10:_=_),-⟩;refine rg_plain rfl fun K hK=>?_;go_simp;exact hK _ _ rfl (Only.refl _ _)
  apply rg_ev
  ·rintro a w hR ⟨(e25:_=_),(e26:_=_),-⟩;refine rg_plain rfl fun K hK=>?_;have hlti:(i:Int) < (nb:Int):=hii;go_simp;exact hK _ _ rfl (Only.refl _ _)
  apply rg_ev
  ·rintro a w hR ⟨(e27:_=_),-⟩;refine rg_plain rfl fun K hK=>?_;go_simp;exact hK _ _ rfl (Only.refl _ _)
  apply rg_ev
  ·rintro a w hR ⟨(e28:_=_),-⟩;refine rg_plain rfl fun K hK=>?_;have g4:=hR.cell d4 (by simp);go_simp;exact hK _ _ rfl (Only.refl _ _)
  apply rg_ev
  ·rintro a w hR ⟨(e7:_=_),-⟩;refine rg_plain rfl fun K hK=>?_;have g0:=hR.cell e0 (by simp);have g1:=hR.cell e1 (by simp);have g2:=hR.cell e2 (by simp);go_simp;exact hK _ _ rfl (Only.refl _ _)
  apply rg_ev
  ·rintro a w hR ⟨(e29:_=_),(e30:_=_),-⟩;refine rg_plain rfl fun K hK=>?_;go_simp;(with_reducible refine (HF.out w ((HO.out.trans0 HO4.out).trans0 hR)).mono ?_);rintro e w' ⟨rfl,o'⟩;exact hK _ _ rfl o'
  apply rg_ev
  ·rintro a w hR ⟨(e31:_=_),-⟩;refine rg_plain rfl fun K hK=>?_;go_simp;exact hK _ _ rfl (Only.refl _ _)
  apply rg_ev
  ·rintro a w hR ⟨(e23:_=_),-⟩;refine rg_plain rfl fun K hK=>?_;go_simp;exact hK _ _ rfl (Only.refl _ _)
  apply rg_ev
  ·rintro a w hR ⟨(e23:_=_),-⟩;refine rg_plain rfl fun K hK=>?_;go_simp;exact hK _ _ rfl (Only.refl _ _)
  apply rg_ev
  ·rintro a w hR ⟨(e32:_=_),-⟩;refine rg_plain rfl fun K hK=>?_;go_simp;exact hK _ _ rfl (Only.refl _ _)
  apply rg_ev
  ·rintro a w hR ⟨(e33:_=_),-⟩;refine rg_plain rfl fun K hK=>?_;go_simp;exact hK _ _ rfl (Only.refl _ _)
  intro f4r w4r hR4 hf;dsimp only [mergeT];obtain ⟨e11,e12,-⟩:=hf;replace e11:f4r 11=_:=e11;rw [e11];replace e12:f4r 12=_:=e12;rw [e12];have HO5:=Lib.hid (HO4.out.trans0 hR4);have c0':=hR4.cell c0 (by simp);have d4':=hR4.cell d4 (by simp);clear HF d4 c0 e0 e1 e2 hR4
  cases t2 with
  | false =>
   have Hfn:Hid (findU L.cat bk ky id=none):=Lib.hid (by unfold findU;rw [HG.out.2.2.2.2.2.2.2];show (atL CUpl.id ltI b.b.upls id).bind _=none;rw [HG.out.1,if_neg (by simp)];rfl);have hz:=Hr3.out.only0 HO5.out;have z0:=hz.cell (i:=0) rfl;have z1:=hz.cell (i:=1) rfl;have z2:=hz.cell (i:=2) rfl;have z3:=hz.cell (i:=3) rfl;have z4:=hz.cell (i:=4) rfl;have f0:=hz.free 0;have f1:=hz.free 1;have f2:=hz.free 2;have f3:=hz.free 3;have f4:=hz.free 4;obtain ⟨wz,hwz⟩:∃ wz,wz=(((((w4r.setCell ⟨w0.heap.size+1+1,0,none⟩ (.int .i64 0)).setCell ⟨w0.heap.size+1+1,1,none⟩ (.int .i64 0)).setCell ⟨w0.heap.size+1+1,2,none⟩ (.int .i64 0)).setCell ⟨w0.heap.size+1+1,3,none⟩ (.string ⟨#[]⟩)).setCell ⟨w0.heap.size+1+1,4,none⟩ (.slice none 0 0)):=⟨_,rfl⟩
   have hrz:=Row.set5 hz (.int .i64 0) (.int .i64 0) (.int .i64 0) (.string ⟨#[]⟩) (.slice none 0 0);have hst:=only_set5 w4r (w0.heap.size+1+1) (.int .i64 0) (.int .i64 0) (.int .i64 0) (.string ⟨#[]⟩) (.slice none 0 0);rw [← hwz] at hrz hst;have HE:Hid (Only [] w0 wz):=Lib.hid ((HO.out.trans0 HO5.out).transN hst (fun z hz=>by rw [List.mem_singleton.1 hz];omega));have Hrz:=Lib.hid hrz;have Hwz:=Lib.hid hwz;clear hwz hrz hst;clear hz;go_wp2_with fail;rw [← Hwz.out];refine bodyPost_ret (results_c2 rfl _ _ _ rfl Hrz.out Tryz.underlying54 luInfo) rfl ⟨⟨zUpl,none,0⟩,?_,?_,OwnK.nil _ _ _ _,HE.out⟩
   ·rw [Hfn.out];rfl
   ·rw [Hfn.out];rfl
  | true =>
   obtain ⟨x,hx,-⟩:=there_at HG.out.2.2.2.2.2.2.1;rw [HG.out.2.2.2.2.2.1] at hx;have hjlt:j < nu:=(by have:=(List.getElem?_eq_some_iff.1 hx).1;have:=HG.out.2.2.2.1;omega);have hxm:=List.mem_of_getElem? hx;have hrd:=(HG.out.2.1.su.only0 (HO.out.trans0 HO5.out)).1;have hne:b.us.flatMap luCells≠[]:=fun e'=>(by have:=flat_get luCells 5 luCells_len b.us _ x 0 hx (by omega);rw [e'] at this;cases this);obtain ⟨bp,op,hg2,-⟩:=hrd.lt hne;rw [hg2] at hrd;obtain rfl:=HG.out.2.2.2.2.1.symm.trans hg2;have x0:=rd_elem luCells_len hrd hx (r:=0) rfl;have x1:=rd_elem luCells_len hrd hx (r:=1) rfl
   have x2:=rd_elem luCells_len hrd hx (r:=2) rfl;have x3:=rd_elem luCells_len hrd hx (r:=3) rfl;have x4:=rd_elem luCells_len hrd hx (r:=4) rfl;rw [Addr.add_lit,← Nat.add_assoc] at x0 x1 x2 x3 x4;rw [Nat.add_zero] at x0;have hpl:x.u.parts.length≤1000000:=Nat.le_trans (HG.out.2.2.1.up x.u (List.mem_map_of_mem hxm)).len (by omega)
   have hfu:findU L.cat bk ky id=if x.u.key=ky then some x.u else none:=by
    unfold findU;rw [HG.out.2.2.2.2.2.2.2];show (atL CUpl.id ltI b.b.upls id).bind _=_;rw [HG.out.1,if_pos (by trivial),hx]
    rfl
   have hkk:=str_eqb x.u.key ky;have hjj:(j:Int) < (nu:Int):=(by omega);have hup:=(HG.out.2.1.up x hxm).only0 (HO.out.trans0 HO5.out);have Hup:=Lib.hid hup;have Hpl:=Lib.hid hpl;have Hfu:=Lib.hid hfu;clear hx hjlt hxm hrd hne hg2 hpl hfu hup
   by_cases hkey:x.u.key=ky
   ·rw [decide_eq_true hkey] at hkk;have Hfn:=Lib.hid (Hfu.out.trans (if_pos hkey));have hcp:=copyUpload_any x w4r Hup.out Hpl.out;unfold luV at hcp;have HC:=Lib.hid hcp;clear hcp hkey;go_wp2_with fail;refine HC.out.mono ?_;rintro e w6 ⟨q,c,rfl,hown,o6⟩;clear HC d4' c0' x0 x1 x2 x3 x4 hkk;obtain ⟨np,hnp⟩:∃ n,x.u.parts.length=n:=⟨_,rfl⟩;have hz:=Hr3.out.only0 (HO5.out.trans0 o6);have z0:=hz.cell (i:=0) rfl;have z1:=hz.cell (i:=1) rfl;have z2:=hz.cell (i:=2) rfl;have z3:=hz.cell (i:=3) rfl;have z4:=hz.cell (i:=4) rfl;have f0:=hz.free 0;have f1:=hz.free 1
    have f2:=hz.free 2;have f3:=hz.free 3;have f4:=hz.free 4;obtain ⟨wz,hwz⟩:∃ wz,wz=(((((w6.setCell ⟨w0.heap.size+1+1,0,none⟩ (.int .i64 x.u.id.node)).setCell ⟨w0.heap.size+1+1,1,none⟩ (.int .i64 x.u.id.boot)).setCell ⟨w0.heap.size+1+1,2,none⟩ (.int .i64 x.u.id.seq)).setCell ⟨w0.heap.size+1+1,3,none⟩ (.string (str x.u.key))).setCell ⟨w0.heap.size+1+1,4,none⟩ (.slice q np c)):=⟨_,rfl⟩;have hrz:=Row.set5 hz (.int .i64 x.u.id.node) (.int .i64 x.u.id.boot) (.int .i64 x.u.id.seq) (.string (str x.u.key)) (.slice q np c);have hst:=only_set5 w6 (w0.heap.size+1+1) (.int .i64 x.u.id.node) (.int .i64 x.u.id.boot) (.int .i64 x.u.id.seq) (.string (str x.u.key)) (.slice q np c)
    rw [← hwz] at hrz hst;have hlo:=hown.view.2.2.2.2.2.2;have hsz4:w0.heap.size+1+1 < w4r.heap.size:=(Hr3.out.only0 HO5.out).lt;have HE:Hid (UpOwn wz w0.heap.size ⟨x.u,q,c⟩∧Only [] w0 wz∧x.u.parts.length=np):=Lib.hid ⟨(hown.onlyB hst (fun z hz hm=>by have:=(hlo z hz).1;rw [List.mem_singleton.1 hm] at this;omega)).weaken (show w0.heap.size≤w4r.heap.size by omega),((HO.out.trans0 HO5.out).trans0 o6).transN hst (fun z hz=>by rw [List.mem_singleton.1 hz];omega),hnp⟩;have Hrz:=Lib.hid hrz;have Hwz:=Lib.hid hwz;rw [hnp];clear hown o6 hnp hz hwz hrz hst hlo
    go_wp2_with fail;rw [← Hwz.out];refine bodyPost_ret (results_c2 rfl _ _ _ rfl Hrz.out Tryz.underlying54 luInfo) rfl ⟨⟨x.u,q,c⟩,?_,?_,HE.out.1,HE.out.2.1⟩
    ·rw [Hfn.out];unfold luV;dsimp only;rw [HE.out.2.2];rfl
    ·rw [Hfn.out];rfl
   ·rw [decide_eq_false hkey] at hkk;have Hfn:=Lib.hid (Hfu.out.trans (if_neg hkey));have hz:=Hr3.out.only0 HO5.out;have z0:=hz.cell (i:=0) rfl;have z1:=hz.cell (i:=1) rfl;have z2:=hz.cell (i:=2) rfl;have z3:=hz.cell (i:=3) rfl;have z4:=hz.cell (i:=4) rfl;have f0:=hz.free 0;have f1:=hz.free 1;have f2:=hz.free 2;have f3:=hz.free 3;have f4:=hz.free 4;obtain ⟨wz,hwz⟩:∃ wz,wz=(((((w4r.setCell ⟨w0.heap.size+1+1,0,none⟩ (.int .i64 0)).setCell ⟨w0.heap.size+1+1,1,none⟩ (.int .i64 0)).setCell ⟨w0.heap.size+1+1,2,none⟩ (.int .i64 0)).setCell ⟨w0.heap.size+1+1,3,none⟩ (.string ⟨#[]⟩)).setCell ⟨w0.heap.size+1+1,4,none⟩ (.slice none 0 0)):=⟨_,rfl⟩
    have hrz:=Row.set5 hz (.int .i64 0) (.int .i64 0) (.int .i64 0) (.string ⟨#[]⟩) (.slice none 0 0);have hst:=only_set5 w4r (w0.heap.size+1+1) (.int .i64 0) (.int .i64 0) (.int .i64 0) (.string ⟨#[]⟩) (.slice none 0 0);rw [← hwz] at hrz hst;have HE:Hid (Only [] w0 wz):=Lib.hid ((HO.out.trans0 HO5.out).transN hst (fun z hz=>by rw [List.mem_singleton.1 hz];omega));have Hrz:=Lib.hid hrz;have Hwz:=Lib.hid hwz;clear hwz hrz hst;clear hz hkey;go_wp2_with fail;rw [← Hwz.out];refine bodyPost_ret (results_c2 rfl _ _ _ rfl Hrz.out Tryz.underlying54 luInfo) rfl ⟨⟨zUpl,none,0⟩,?_,?_,OwnK.nil _ _ _ _,HE.out⟩
    ·rw [Hfn.out];rfl
    ·rw [Hfn.out];rfl
end
end Go.Proofs.YtfeglnpmpgipiaaGreatDoor
