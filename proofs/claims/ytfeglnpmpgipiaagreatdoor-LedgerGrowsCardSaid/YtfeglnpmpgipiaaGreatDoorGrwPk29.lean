/- GrwPk, part 29: CatBk3W, CatBk5W, CatUp6W, CatUp8W. -/
import Derived.Test.YtfeglnpmpgipiaaGreatDoorGrwPk14
import Derived.Test.YtfeglnpmpgipiaaGreatDoorGrwPk16
import Derived.Test.YtfeglnpmpgipiaaGreatDoorGrwPk23
import Derived.Test.YtfeglnpmpgipiaaGreatDoorGrwPk27
import Derived.Test.YtfeglnpmpgipiaaGreatDoorGrwPk28
set_option linter.unusedVariables false
set_option maxRecDepth 100000
set_option linter.unusedSimpArgs false
namespace Go.Proofs.YtfeglnpmpgipiaaGreatDoor
section
open Go.RowKit
set_option maxHeartbeats 16000000 in
theorem zHT (b:LBk) (m:zS) (g o B:Nat) (cur:List Value) (w0:World) (hrow:Row w0 g 60 cur) (hat:jF o cur (zD b)) (hown:qZ w0 B b) (hg:g ∉ b.fp) (hB:B≤w0.heap.size) (hbo:yO b.b) (hx:xJ m.x) (hca:jS w0 m) (hk:m.x.kind=3) :
  Calls Tryz.prog 57 #[.pointer (some ⟨g,o,none⟩),lmV m] w0 (zEL b m g o B cur w0):=by
 obtain ⟨np,hnp⟩:∃ n,m.x.parts.length=n:=⟨_,rfl⟩;obtain ⟨nu,hnu⟩:∃ n,b.us.length=n:=⟨_,rfl⟩;obtain ⟨no,hno⟩:∃ n,b.os.length=n:=⟨_,rfl⟩;have hnol:no≤128:=(by have:=hbo.ol;rw [show b.b.vC.length=b.os.length from List.length_map ..] at this;omega);have hnul:nu≤16:=(by have:=hbo.ul;rw [show b.b.xE.length=b.us.length from List.length_map ..] at this;omega);obtain ⟨w1,hw1⟩:∃ w1,w1=w0.alloc (.cells #[.int .i64 3,.int .i64 m.x.id.node,.int .i64 m.x.id.boot,.int .i64 m.x.id.seq,.string (str m.x.bucket),.string (str m.x.key),.int .i64 m.x.upload.node,.int .i64 m.x.upload.boot,.int .i64 m.x.upload.seq,.int .i64 m.x.piece.blob.node,.int .i64 m.x.piece.blob.boot,.int .i64 m.x.piece.blob.seq,.int .i64 m.x.piece.size,.string (str m.x.piece.etag),.int .i64 m.x.part,.slice m.p np m.c,.int .i64 m.x.time,.int .i64 m.x.days] 36):=⟨_,rfl⟩
 have o1:Only [] w0 w1:=(by rw [hw1];exact Only.alloc _ _);have s1:w1.heap.size=w0.heap.size+1:=(by rw [hw1];simp);have r1:Row w1 (w0.heap.size) 36 [.int .i64 3,.int .i64 m.x.id.node,.int .i64 m.x.id.boot,.int .i64 m.x.id.seq,.string (str m.x.bucket),.string (str m.x.key),.int .i64 m.x.upload.node,.int .i64 m.x.upload.boot,.int .i64 m.x.upload.seq,.int .i64 m.x.piece.blob.node,.int .i64 m.x.piece.blob.boot,.int .i64 m.x.piece.blob.seq,.int .i64 m.x.piece.size,.string (str m.x.piece.etag),.int .i64 m.x.part,.slice m.p np m.c,.int .i64 m.x.time,.int .i64 m.x.days]:=by rw [hw1];exact Row.zV _ _ _ _ rfl
 obtain ⟨w2,hw2⟩:∃ w2,w2=w1.alloc (.cells #[.int .i64 0,.string ⟨#[]⟩] 38):=⟨_,rfl⟩;have o2:Only [] w1 w2:=(by rw [hw2];exact Only.alloc _ _);have s2:w2.heap.size=w0.heap.size+1+1:=(by rw [hw2];simp [s1]);have r2:Row w2 (w0.heap.size+1) 38 [.int .i64 0,.string ⟨#[]⟩]:=(by rw [← s1,hw2];exact Row.zV _ _ _ _ rfl);replace r1:=r1.zB o2;have oAll:Only [] w0 w2:=(o1.zC o2);rw [hw1] at hw2;have hatc:=hat;unfold zD at hatc;rw [hno,hnu] at hatc;have hfpl:=hown.lo;have Hr1:=Lib.hid r1;have Hr2:=Lib.hid r2;have HO:=Lib.hid oAll;have Hw:=Lib.hid hw2
 have Hsz:Hid (w2.heap.size=w0.heap.size+1+1):=Lib.hid s2;have Hrow:=Lib.hid (hrow.zB oAll);have Hat:=Lib.hid hatc;have HH:Hid (qZ w0 B b∧g ∉ b.fp∧Row w0 g 60 cur∧jF o cur (zD b)∧(∀ z∈b.fp,B≤z∧z < w0.heap.size)∧b.us.length=nu∧b.os.length=no∧B≤w0.heap.size∧yO b.b∧xJ m.x∧jS w0 m∧m.x.parts.length=np):=Lib.hid ⟨hown,hg,hrow,hat,hfpl,hnu,hno,hB,hbo,hx,hca,hnp⟩;have Hk:=Lib.hid hk;have hgl:g < w0.heap.size:=hrow.lt;have m0:=r1.cell (i:=0) rfl;have m5:=r1.cell (i:=5) rfl;have m9:=r1.cell (i:=9) rfl
 have m10:=r1.cell (i:=10) rfl;have m11:=r1.cell (i:=11) rfl;have m12:=r1.cell (i:=12) rfl;have m13:=r1.cell (i:=13) rfl;have m16:=r1.cell (i:=16) rfl;rw [show lmV m=.agg #[.int .i64 3,.int .i64 m.x.id.node,.int .i64 m.x.id.boot,.int .i64 m.x.id.seq,.string (str m.x.bucket),.string (str m.x.key),.int .i64 m.x.upload.node,.int .i64 m.x.upload.boot,.int .i64 m.x.upload.seq,.int .i64 m.x.piece.blob.node,.int .i64 m.x.piece.blob.boot,.int .i64 m.x.piece.blob.seq,.int .i64 m.x.piece.size,.string (str m.x.piece.etag),.int .i64 m.x.part,.slice m.p np m.c,.int .i64 m.x.time,.int .i64 m.x.days] by unfold lmV;rw [hnp,hk]]
 clear hrow hat hown hg hB hbo hx hca hnp hnu hno hatc hfpl r1 r2 oAll hw2 s2 s1 o1 o2 hw1 hk
 go_enter Tryz.func57,Tryz.ntmps57
 go_upto_region 1 with (fail)
 rw [← Hw.out];obtain ⟨w3,hw3⟩:∃ w3,w3=w2.alloc (.cells #[.int .i64 m.x.piece.blob.node,.int .i64 m.x.piece.blob.boot,.int .i64 m.x.piece.blob.seq,.int .i64 m.x.piece.size,.string (str m.x.piece.etag)] 33):=⟨_,rfl⟩;obtain ⟨w4,hw4⟩:∃ w4,w4=w3.alloc (.cells #[.string (str m.x.key),.int .i64 m.x.piece.size,.string (str m.x.piece.etag),.int .i64 m.x.time,.slice (some ⟨w0.heap.size+1+1,0,none⟩) 1 1] 48):=⟨_,rfl⟩;have o3:Only [] w2 w3:=(by rw [hw3];exact Only.alloc _ _);have o4:Only [] w3 w4:=(by rw [hw4];exact Only.alloc _ _);have s3:w3.heap.size=w0.heap.size+1+1+1:=by rw [hw3];simp [Hsz.out]
 have r4:Row w4 (w0.heap.size+1+1+1) 48 [.string (str m.x.key),.int .i64 m.x.piece.size,.string (str m.x.piece.etag),.int .i64 m.x.time,.slice (some ⟨w0.heap.size+1+1,0,none⟩) 1 1]:=by rw [← s3,hw4];exact Row.zV _ _ _ _ rfl
 have hK3:zN w3 B 33 5 (.slice (some ⟨w0.heap.size+1+1,0,none⟩) 1 1) 1 (([m.x.piece]:List Pc).flatMap jK):=by
  have h:=zN.new (w:=w2) (base:=B) (K:=5) (n:=1) (e:=33) (jK m.x.piece) (by have:=HH.out.2.2.2.2.2.2.2.1;have:=Hsz.out;omega) rfl (by omega);rw [Hsz.out] at h;rw [hw3];exact h
 have HK:=Lib.hid (hK3.zB o4);have H04:=Lib.hid (HO.out.zC (o3.zC o4));have H24:=Lib.hid (o3.zC o4);obtain ⟨xo,hxo⟩:∃ x:qG,x=⟨⟨m.x.key,m.x.piece.size,m.x.piece.etag,m.x.time,[m.x.piece]⟩,some ⟨w0.heap.size+1+1,0,none⟩,1⟩:=⟨_,rfl⟩;obtain ⟨hown,hg,hrow,hat,hfpl,hnu,hno,hB,hbo,hx,hca,hnp⟩:=HH.out
 have hput:=zGM b xo g o B cur w4 (hrow.zB H04.out) hat (hown.zB H04.out) hg (by rw [hxo];exact HK.out) (fun z hz=>by
  have hz':z=w0.heap.size+1+1:=by rw [hxo] at hz;simpa [blk] using hz
  exact ⟨fun hm=>by have:=(hfpl z hm).2;omega,by omega⟩) (Nat.le_trans hB H04.out.size) hbo.os (by omega)
 rw [show loV xo=.agg #[.string (str m.x.key),.int .i64 m.x.piece.size,.string (str m.x.piece.etag),.int .i64 m.x.time,.slice (some ⟨w0.heap.size+1+1,0,none⟩) 1 1] by rw [hxo];rfl] at hput;have HP:=Lib.hid hput;have Hxo:=Lib.hid hxo;have H4s:Hid (w4.heap.size=w0.heap.size+1+1+1+1):=Lib.hid (by rw [hw4];simp [s3]);have HRO:=Lib.hid (Hr2.out.zB H24.out);rw [hw3] at hw4;have Hw4:=Lib.hid hw4;have Hr4:=Lib.hid r4;have hsz2:=Hsz.out;clear hw3 hw4 o3 o4 s3 r4 hK3 HK hxo hput;clear hown hg hrow hat hfpl hnu hno hB hbo hx hca hnp
 go_upto_region 4 with (fail)
 rw [← Hw4.out];clear Hw4 m0 m5 m9 m10 m11 m12 m13 m16;have hr4:=Hr4.out;have v0:=hr4.cell (i:=0) rfl;have v1:=hr4.cell (i:=1) rfl;have v2:=hr4.cell (i:=2) rfl;have v3:=hr4.cell (i:=3) rfl;have v4:=hr4.cell (i:=4) rfl;clear hr4;go_wp2_with fail;refine HP.out.mono ?_;rintro e w5 ⟨b1,cur1,rfl,hb1,hres,-,-,-⟩;clear v0 v1 v2 v3 v4 HP;obtain ⟨hown,hg,hrow,hat,hfpl,hnu,hno,hB,hbo,hx,hca,hnp⟩:=HH.out;obtain ⟨oc,hoc⟩:∃ oc,(zAF b.b xo.o).2=oc:=⟨_,rfl⟩;rw [hoc];unfold xM
 have hA2:w0.heap.size+1 ∉ b1.fp:=fun hm=>by
  rcases hres.fp _ hm with h | h | h
  ·have:=(hfpl _ h).2;omega
  ·rw [Hxo.out] at h;simp [blk] at h
  ·have:=H4s.out;omega
 have hT:=hres.base H04.out;have hT2:=hT.trans (qX.refl hT.row hT.rcd hT.own [] (Only.refl _ _)) (fun z hz=>by cases hz) (fun z hz=>.inr (by rw [Hxo.out] at hz;simp [blk] at hz;omega))
 have rO:=HRO.out.only hres.only (fun hm=>by
  rcases List.mem_cons.1 hm with h | h
  ·omega
  ·have:=(hfpl _ h).2;omega)
 have hin:jA smL b.b m.x=(b1.b,oc):=by
  unfold jA;rw [if_pos Hk.out,show (⟨m.x.key,m.x.piece.size,m.x.piece.etag,m.x.time,[m.x.piece]⟩:zAd)=xo.o by rw [Hxo.out],hb1,← hoc]
 have c0:=rO.cell (i:=0) rfl;have c1:=rO.cell (i:=1) rfl;have f0:=rO.free 0;have f1:=rO.free 1;have hrz:=rO.set2 (.int .i64 oc.code) (.string (str oc.etag));have hst:=qB w5 (w0.heap.size+1) (.int .i64 oc.code) (.string (str oc.etag));obtain ⟨wz,hwz⟩:∃ wz,wz=(w5.setCell ⟨w0.heap.size+1,0,none⟩ (.int .i64 oc.code)).setCell ⟨w0.heap.size+1,1,none⟩ (.string (str oc.etag)):=⟨_,rfl⟩;rw [← hwz] at hrz hst;have Hrz:=Lib.hid hrz;have HE:Hid (jA smL b.b m.x=(b1.b,oc)∧qX w0 wz B g o cur b [] cur1 b1):=Lib.hid ⟨hin,hT2.zAC hst (by simp;omega) (fun z hz=>by rw [List.mem_singleton.1 hz];exact ⟨by omega,hA2⟩)⟩
 have Hwz:=Lib.hid hwz;clear rO hrz hst hwz hin hA2 hT hT2 hb1 hres hoc;clear hown hg hrow hat hfpl hnu hno hB hbo hx hca hnp;go_wp2_with fail;rw [← Hwz.out];exact bodyPost_ret (qO rfl _ _ _ rfl Hrz.out Tryz.underlying38 jH) rfl ⟨b1,cur1,by rw [HE.out.1];rfl,by rw [HE.out.1],HE.out.2⟩
end
section
open Go.RowKit
set_option maxHeartbeats 16000000 in
theorem zGv (b:LBk) (m:zS) (g o B:Nat) (cur:List Value) (w0:World) (hrow:Row w0 g 60 cur) (hat:jF o cur (zD b)) (hown:qZ w0 B b) (hg:g ∉ b.fp) (hB:B≤w0.heap.size) (hbo:yO b.b) (hx:xJ m.x) (hca:jS w0 m) (hk:m.x.kind=5) :
  Calls Tryz.prog 57 #[.pointer (some ⟨g,o,none⟩),lmV m] w0 (zEL b m g o B cur w0):=by
 obtain ⟨np,hnp⟩:∃ n,m.x.parts.length=n:=⟨_,rfl⟩;obtain ⟨nu,hnu⟩:∃ n,b.us.length=n:=⟨_,rfl⟩;obtain ⟨no,hno⟩:∃ n,b.os.length=n:=⟨_,rfl⟩;have hnol:no≤128:=(by have:=hbo.ol;rw [show b.b.vC.length=b.os.length from List.length_map ..] at this;omega);have hnul:nu≤16:=(by have:=hbo.ul;rw [show b.b.xE.length=b.us.length from List.length_map ..] at this;omega);obtain ⟨w1,hw1⟩:∃ w1,w1=w0.alloc (.cells #[.int .i64 5,.int .i64 m.x.id.node,.int .i64 m.x.id.boot,.int .i64 m.x.id.seq,.string (str m.x.bucket),.string (str m.x.key),.int .i64 m.x.upload.node,.int .i64 m.x.upload.boot,.int .i64 m.x.upload.seq,.int .i64 m.x.piece.blob.node,.int .i64 m.x.piece.blob.boot,.int .i64 m.x.piece.blob.seq,.int .i64 m.x.piece.size,.string (str m.x.piece.etag),.int .i64 m.x.part,.slice m.p np m.c,.int .i64 m.x.time,.int .i64 m.x.days] 36):=⟨_,rfl⟩
 have o1:Only [] w0 w1:=(by rw [hw1];exact Only.alloc _ _);have s1:w1.heap.size=w0.heap.size+1:=(by rw [hw1];simp);have r1:Row w1 (w0.heap.size) 36 [.int .i64 5,.int .i64 m.x.id.node,.int .i64 m.x.id.boot,.int .i64 m.x.id.seq,.string (str m.x.bucket),.string (str m.x.key),.int .i64 m.x.upload.node,.int .i64 m.x.upload.boot,.int .i64 m.x.upload.seq,.int .i64 m.x.piece.blob.node,.int .i64 m.x.piece.blob.boot,.int .i64 m.x.piece.blob.seq,.int .i64 m.x.piece.size,.string (str m.x.piece.etag),.int .i64 m.x.part,.slice m.p np m.c,.int .i64 m.x.time,.int .i64 m.x.days]:=by rw [hw1];exact Row.zV _ _ _ _ rfl
 obtain ⟨w2,hw2⟩:∃ w2,w2=w1.alloc (.cells #[.int .i64 0,.string ⟨#[]⟩] 38):=⟨_,rfl⟩;have o2:Only [] w1 w2:=(by rw [hw2];exact Only.alloc _ _);have s2:w2.heap.size=w0.heap.size+1+1:=(by rw [hw2];simp [s1]);have r2:Row w2 (w0.heap.size+1) 38 [.int .i64 0,.string ⟨#[]⟩]:=(by rw [← s1,hw2];exact Row.zV _ _ _ _ rfl);replace r1:=r1.zB o2;have oAll:Only [] w0 w2:=(o1.zC o2);rw [hw1] at hw2;have hatc:=hat;unfold zD at hatc;rw [hno,hnu] at hatc;have hfpl:=hown.lo;have Hr1:=Lib.hid r1;have Hr2:=Lib.hid r2;have HO:=Lib.hid oAll;have Hw:=Lib.hid hw2
 have Hsz:Hid (w2.heap.size=w0.heap.size+1+1):=Lib.hid s2;have Hrow:=Lib.hid (hrow.zB oAll);have Hat:=Lib.hid hatc;have HH:Hid (qZ w0 B b∧g ∉ b.fp∧Row w0 g 60 cur∧jF o cur (zD b)∧(∀ z∈b.fp,B≤z∧z < w0.heap.size)∧b.us.length=nu∧b.os.length=no∧B≤w0.heap.size∧yO b.b∧xJ m.x∧jS w0 m∧m.x.parts.length=np):=Lib.hid ⟨hown,hg,hrow,hat,hfpl,hnu,hno,hB,hbo,hx,hca,hnp⟩;have Hk:=Lib.hid hk;have hgl:g < w0.heap.size:=hrow.lt;have m0:=r1.cell (i:=0) rfl;have m1:=r1.cell (i:=1) rfl;have m2:=r1.cell (i:=2) rfl
 have m3:=r1.cell (i:=3) rfl;have m5:=r1.cell (i:=5) rfl;rw [show lmV m=.agg #[.int .i64 5,.int .i64 m.x.id.node,.int .i64 m.x.id.boot,.int .i64 m.x.id.seq,.string (str m.x.bucket),.string (str m.x.key),.int .i64 m.x.upload.node,.int .i64 m.x.upload.boot,.int .i64 m.x.upload.seq,.int .i64 m.x.piece.blob.node,.int .i64 m.x.piece.blob.boot,.int .i64 m.x.piece.blob.seq,.int .i64 m.x.piece.size,.string (str m.x.piece.etag),.int .i64 m.x.part,.slice m.p np m.c,.int .i64 m.x.time,.int .i64 m.x.days] by unfold lmV;rw [hnp,hk]];clear hrow hat hown hg hB hbo hx hca hnp hnu hno hatc hfpl r1 r2 oAll hw2 s2 s1 o1 o2 hw1 hk
 go_enter Tryz.func57,Tryz.ntmps57
 go_upto_region 1 with (fail)
 rw [← Hw.out];have z4:=Hat.out.cell Hrow.out (r:=4) rfl;have HRO:=Lib.hid Hr2.out
 by_cases h16:16≤nu
 ·have h16i:(16:Int)≤(nu:Int):=(by omega);obtain ⟨hown,hg,hrow,hat,hfpl,hnu,hno,hB,hbo,hx,hca,hnp⟩:=HH.out
  have HE0:Hid (jA smL b.b m.x=(b.b,⟨7,[]⟩)∧qX w0 w2 B g o cur b [] cur b∧w0.heap.size+1 ∉ b.fp):=Lib.hid ⟨by
   unfold jA
   rw [if_neg (by have:=Hk.out;omega),if_neg (by have:=Hk.out;omega),if_pos Hk.out,if_pos (by rw [show b.b.xE.length=b.us.length from List.length_map ..];omega)],qX.refl hrow hat hown _ HO.out,fun hm=>by have:=(hfpl _ hm).2;omega⟩
  clear hown hg hrow hat hfpl hnu hno hB hbo hx hca hnp;go_wp2_with fail;refine (vM 7 w2).mono ?_;rintro e w9 ⟨rfl,o9⟩;unfold xM;have rO:=HRO.out.zB o9;have c0:=rO.cell (i:=0) rfl;have c1:=rO.cell (i:=1) rfl;have f0:=rO.free 0;have f1:=rO.free 1;have hrz:=rO.set2 (.int .i64 7) (.string (str []));have hst:=qB w9 (w0.heap.size+1) (.int .i64 7) (.string (str []));obtain ⟨wz,hwz⟩:∃ wz,wz=(w9.setCell ⟨w0.heap.size+1,0,none⟩ (.int .i64 7)).setCell ⟨w0.heap.size+1,1,none⟩ (.string (str [])):=⟨_,rfl⟩;rw [← hwz] at hrz hst;have Hrz:=Lib.hid hrz
  have HE:Hid (qX w0 wz B g o cur b [] cur b):=Lib.hid ((HE0.out.2.1.step o9).zAC hst (by simp;omega) (fun z hz=>by rw [List.mem_singleton.1 hz];exact ⟨by omega,HE0.out.2.2⟩));have Hwz:=Lib.hid hwz;clear rO hrz hst hwz o9;go_wp2_with fail;rw [← Hwz.out];exact bodyPost_ret (qO rfl _ _ _ rfl Hrz.out Tryz.underlying38 jH) rfl ⟨b,cur,by rw [HE0.out.1];rfl,by rw [HE0.out.1],HE.out⟩
 ·have h16i:¬ (16:Int)≤(nu:Int):=(by omega);obtain ⟨YS,hYS⟩:∃ YS,jN qN.id ltI b.us m.x.id (⟨⟨m.x.id,m.x.key,[]⟩,none,0⟩:qN)=YS:=⟨_,rfl⟩;obtain ⟨ny,hny⟩:∃ ny,YS.length=ny:=⟨_,rfl⟩
  have hset:∀ (W:World),Only [] w0 W→w2.heap.size≤W.heap.size→Calls Tryz.prog 100 #[.slice b.pu nu b.cu,.agg #[.int .i64 m.x.id.node,.int .i64 m.x.id.boot,.int .i64 m.x.id.seq],.func (.func 70) #[] #[],.agg #[.int .i64 m.x.id.node,.int .i64 m.x.id.boot,.int .i64 m.x.id.seq,.string (str m.x.key),.slice none 0 0]] W fun e' w'=>∃ p' c',e'=.returned (.slice p' ny c')∧zN w' B 54 5 (.slice p' ny c') ny (YS.flatMap zG)∧Only (blk b.pu) W w'∧∀ z∈blk p',z∈blk b.pu∨w2.heap.size≤z:=fun W hW hW2=>by
   obtain ⟨hown,hg,hrow,hat,hfpl,hnu,hno,hB,hbo,hx,hca,hnp⟩:=HH.out;have h9:=hown.su.zB hW;rw [hnu] at h9;have h:=zHJ b.pu nu b.cu b.us m.x.id (⟨⟨m.x.id,m.x.key,[]⟩,none,0⟩:qN) B W hnu (by omega) h9 (Nat.le_trans hB hW.size) (zAM (key:=qN.id) qN.u (fun _=>rfl) hbo.us);rw [hYS,hny] at h;refine h.mono ?_;rintro e' w' ⟨p',c',h1,h2,h3,h4⟩;exact ⟨p',c',h1,h2,h3,fun z hz=>(h4 z hz).imp id (fun h5=>by omega)⟩
  have HS:=Lib.hid hset;have HY:Hid (jN qN.id ltI b.us m.x.id (⟨⟨m.x.id,m.x.key,[]⟩,none,0⟩:qN)=YS∧YS.length=ny):=Lib.hid ⟨hYS,hny⟩;clear hset hYS hny;have hgN:g < w2.heap.size:=Hrow.out.lt;have hgp:g ∉ blk b.pu:=fun h=>HH.out.2.1 (by unfold LBk.fp;simp [h])
  have hnx:w0.heap.size ∉ g :: blk b.pu:=fun h=>by
   rcases List.mem_cons.1 h with h | h
   ·omega
   ·have:=(HH.out.2.2.2.2.1 w0.heap.size (by unfold LBk.fp;simp [h])).2;omega
  have HX:Hid (∀ w,Only (g :: blk b.pu) w2 w→w.cell? ⟨w0.heap.size,1,none⟩=some (.int .i64 m.x.id.node)∧w.cell? ⟨w0.heap.size,2,none⟩=some (.int .i64 m.x.id.boot)∧w.cell? ⟨w0.heap.size,3,none⟩=some (.int .i64 m.x.id.seq)∧w.cell? ⟨w0.heap.size,5,none⟩=some (.string (str m.x.key))):=Lib.hid (fun w h=>⟨h.cell m1 hnx,h.cell m2 hnx,h.cell m3 hnx,h.cell m5 hnx⟩);have HatL:=Hat.out
  go_upto_region 13 with (fail)
  clear z4 m0 m1 m2 m3 m5;have HSO:∀ z∈[g],z < w2.heap.size∧z ∉ blk b.pu:=fun z hz=>(by rw [List.mem_singleton.1 hz];exact ⟨hgN,hgp⟩);have hRr:∀ x,(Only (g :: blk b.pu)) x x:=fun x=>Only.refl _ _;have hRt:∀ x y z,(Only (g :: blk b.pu)) x y→(Only (g :: blk b.pu)) y z→(Only (g :: blk b.pu)) x z:=fun _ _ _ h k=>h.trans k (fun _ h _=>h);have hRd:(Only (g :: blk b.pu)) w2 w2.drew:=(Only.drew _).mono (by simp)
  have hRs:∀ j w,zZ [(12,Only (blk b.pu)),(15,Only [g])] j w w:=zZ.refl (by
   intro x hx w;simp only [List.mem_cons,List.not_mem_nil,or_false] at hx
   rcases hx with rfl | rfl <;> exact Only.refl _ _)
  have hC0:∀ d∈[12,15],(fun (i:Nat) (a:World)=>(i=12→Only [] w2 a)∧(i=15→Row a g 60 cur)) d w2.drew:=fun _ _=>⟨fun _=>Only.drew _,fun _=>Hrow.out.zB (Only.drew _)⟩;refine zU (Only (g :: blk b.pu)) (zZ [(12,Only (blk b.pu)),(15,Only [g])]) (fun (i:Nat) (a:World)=>(i=12→Only [] w2 a)∧(i=15→Row a g 60 cur)) [12,15] [[(0,none)],[(0,none)],[(66,some 0)],[(67,some 0)],[(68,some 0)],[(3,none)],[(70,some 0)],[(3,none)],[(72,some 0)],[(3,none)],[(74,some 0)],[(73,some 2),(75,some 0)],[(69,some 7),(71,some 5),(76,some 0)],[(65,some 12)],[(78,some 0)],[(79,some 0),(77,some 2)]] [] [0] [none,none,none,none,none,none,none,none,none,none,none,none,none,none,none,none,none,none,none,none,none,none,none,none,none,none,none,none,none,none,none,none,none,none,none,none,none,none,none,none,none,none,none,none,none,none,none,none,none,none,none,none,none,none,none,none,none,none,none,none,none,none,none,none,none,some 65,some 66,some 67,some 68,some 69,some 70,some 71,some 72,some 73,some 74,some 75,some 76,some 77,some 78,some 79,none,none,none,none,none,none,none,none,none,none,none,none,none,none,none,none,none,none,none,none,none,none,none,none,none,none,none,none,none,none,none,none,none,none,none,none,none,none,none] (by kernel_rfl) rfl (by kernel_rfl) hRr hRt hRs hRd hC0 (by kernel_rfl) (by kernel_rfl) ?_
  apply zF
  ·rintro a w hR hC ⟨(e0:_=_),-⟩;refine zA rfl fun K hK=>?_;go_simp;exact hK _ _ rfl ⟨hRr _,hRs _ _,fun _ _ _ _ h=>h⟩
  apply zF
  ·rintro a w hR hC ⟨(e0:_=_),-⟩;refine zA rfl fun K hK=>?_;go_simp;exact hK _ _ rfl ⟨hRr _,hRs _ _,fun _ _ _ _ h=>h⟩
  apply zF
  ·rintro a w hR hC ⟨(e66:_=_),-⟩;refine zA rfl fun K hK=>?_;go_simp;exact hK _ _ rfl ⟨hRr _,hRs _ _,fun _ _ _ _ h=>h⟩
  apply zF
  ·rintro a w hR hC ⟨(e67:_=_),-⟩;refine zA rfl fun K hK=>?_;go_simp;exact hK _ _ rfl ⟨hRr _,hRs _ _,fun _ _ _ _ h=>h⟩
  apply zF
  ·rintro a w hR hC ⟨(e68:_=_),-⟩;refine zA rfl fun K hK=>?_;have rz:=(hC 15 (by simp) (by kernel_rfl)).2 rfl;have z4:=HatL.cell rz (r:=4) rfl;go_simp;exact hK _ _ rfl ⟨hRr _,hRs _ _,fun _ _ _ _ h=>h⟩
  apply zF
  ·rintro a w hR hC ⟨(e3:_=_),-⟩;refine zA rfl fun K hK=>?_;go_simp;exact hK _ _ rfl ⟨hRr _,hRs _ _,fun _ _ _ _ h=>h⟩
  apply zF
  ·rintro a w hR hC ⟨(e70:_=_),-⟩;refine zA rfl fun K hK=>?_;obtain ⟨q0,q1,q2,q3⟩:=HX.out w hR;go_simp;exact hK _ _ rfl ⟨hRr _,hRs _ _,fun _ _ _ _ h=>h⟩
  apply zF
  ·rintro a w hR hC ⟨(e3:_=_),-⟩;refine zA rfl fun K hK=>?_;go_simp;exact hK _ _ rfl ⟨hRr _,hRs _ _,fun _ _ _ _ h=>h⟩
  apply zF
  ·rintro a w hR hC ⟨(e72:_=_),-⟩;refine zA rfl fun K hK=>?_;obtain ⟨q0,q1,q2,q3⟩:=HX.out w hR;go_simp;exact hK _ _ rfl ⟨hRr _,hRs _ _,fun _ _ _ _ h=>h⟩
  apply zF
  ·rintro a w hR hC ⟨(e3:_=_),-⟩;refine zA rfl fun K hK=>?_;go_simp;exact hK _ _ rfl ⟨hRr _,hRs _ _,fun _ _ _ _ h=>h⟩
  apply zF
  ·rintro a w hR hC ⟨(e74:_=_),-⟩;refine zA rfl fun K hK=>?_;obtain ⟨q0,q1,q2,q3⟩:=HX.out w hR;go_simp;exact hK _ _ rfl ⟨hRr _,hRs _ _,fun _ _ _ _ h=>h⟩
  apply zF
  ·rintro a w hR hC ⟨(e73:_=_),(e75:_=_),-⟩;refine zA rfl fun K hK=>?_;have e73':=e73;rw [Array.getD_eq_getD_getElem?] at e73';have e75':=e75;rw [Array.getD_eq_getD_getElem?] at e75';go_simp;exact hK _ _ rfl ⟨hRr _,hRs _ _,fun _ _ _ _ h=>h⟩
  refine ⟨SlP zG 54 5 B b.pu w2.heap.size ny YS,zL SlP.stable (by intro x hx hk;simp only [List.mem_cons,List.not_mem_nil,or_false] at hx;rcases hx with rfl | rfl <;> first | exact Bool.noConfusion (hk.symm.trans (by kernel_rfl:_=true)) | (refine SlP.jC ?_;exact HSO;done)),fun a w hR hC hf=>?_,?_⟩
  ·obtain ⟨e69,e71,e76,-⟩:=hf;replace e69:a.tmps.getD 69 undef=_:=e69;replace e71:a.tmps.getD 71 undef=_:=e71;replace e76:a.tmps.getD 76 undef=_:=e76;refine zA rfl fun K hK=>?_;have hC5:=(hC 12 (by simp) (by kernel_rfl)).1 rfl;go_simp;(with_reducible refine (HS.out w (HO.out.zC hC5) hC5.size).mono ?_);rintro e w' ⟨p',c',rfl,h1,h2,h3⟩;exact hK _ _ ⟨_,_,rfl,h1,h3⟩ ⟨h2.mono (fun x hx=>List.mem_cons_of_mem _ hx),h2,fun i hi hne ha hc=>⟨fun e=>absurd e hne,fun e=>(hc.2 e).only h2 hgp⟩⟩
  apply zF
  ·rintro a w hR hC ⟨(e65:_=_),-⟩;refine zA rfl fun K hK=>?_;go_simp;exact hK _ _ rfl ⟨hRr _,hRs _ _,fun _ _ _ _ h=>h⟩
  apply zF
  ·rintro a w hR hC ⟨(e78:_=_),-⟩;refine zA rfl fun K hK=>?_;go_simp;exact hK _ _ rfl ⟨hRr _,hRs _ _,fun _ _ _ _ h=>h⟩
  refine ⟨SlR zG 54 5 B b.pu w2.heap.size ny YS (g) 60 cur (o+4),zL SlR.stable (by intro x hx hk;simp only [List.mem_cons,List.not_mem_nil,or_false] at hx;rcases hx with rfl | rfl <;> exact Bool.noConfusion (hk.symm.trans (by kernel_rfl:_=true))),fun a w hR hC hf=>?_,?_⟩
  ·obtain ⟨e79,e77,-⟩:=hf;replace e79:a.tmps.getD 79 undef=_:=e79;replace e77:SlP zG 54 5 B b.pu w2.heap.size ny YS (a.tmps.getD 77 undef) w:=e77;refine zA rfl fun K hK=>?_;obtain ⟨p',c',e77,hown',hb'⟩:=e77;have rz:=(hC 15 (by simp) (by kernel_rfl)).2 rfl;have zc:=HatL.cell rz (r:=4) rfl;have zf:=rz.free (o+4);go_simp;have hst:=Only.setCell w ⟨g,o+4,none⟩ (.slice p' (ny) c');refine hK undef _ ⟨p',c',hown'.jL hst (fun z hz hm=>?_),hb',rz.setCell (o+4) _⟩ ⟨hst.mono (by simp),hst,fun i hi hne ha hc=>?_⟩
   ·rcases hb' z hz with h4 | h4
    ·exact (HSO z hm).2 h4
    ·have:=(HSO z hm).1;omega
   ·simp only [List.mem_cons,List.not_mem_nil,or_false] at hi
    rcases hi with rfl | rfl
    ·exact Bool.noConfusion (ha.symm.trans (by kernel_rfl:_=true))
    ·exact absurd rfl hne
  intro fb wb hRb hf hlb;dsimp only [qE];obtain ⟨l15,-⟩:=hlb;replace l15:∃ v,(SlR zG 54 5 B b.pu w2.heap.size ny YS (g) 60 cur (o+4)) v wb:=l15;obtain ⟨_,p',c',h1,h2,h3⟩:=l15;obtain ⟨hown,hg,hrow,hat,hfpl,hnu,hno,hB,hbo,hx,hca,hnp⟩:=HH.out;obtain ⟨hYS,hny⟩:=HY.out;have hown2:=hown.zB HO.out
  have hbo':=hown2.xE (S:=g :: blk b.pu) (us':=YS) (p':=p') (c':=c') (new:=[]) hRb (fun z hz=>by
   rcases List.mem_cons.1 hz with rfl | hz
   ·exact .inr ⟨hg,by simp⟩
   ·exact .inl hz) (by rw [hny];exact h1) (fun y hy=>by
   rw [← hYS] at hy
   rcases put_mem hy with rfl | h
   ·exact .inr ⟨zN.nil _ _ _ _,fun z hz=>by simp [blk] at hz⟩
   ·exact .inl h) h2 (by
   obtain ⟨sub,k1,k2⟩:=zBy (key:=qN.id) (l:=ltI) (fun x:qN=>blk x.q) b.us m.x.id (⟨⟨m.x.id,m.x.key,[]⟩,none,0⟩:qN);rw [hYS] at k1
   exact ⟨sub,by simpa [blk] using k1,k2⟩) List.nodup_nil (by simp)
  obtain ⟨hb1,hb2⟩:=hbo'
  have hra:jF o (cur.set (o+4) (.slice p' ny c')) (zD { b with us:=YS,pu:=p',cu:=c' }):=by
   have h9:=hat.set (i:=4) (.slice p' ny c') (by rw [zQ];omega);rw [← hny] at h9 ⊢;exact h9
  have hres:qX w2 wb B g o cur b [] (cur.set (o+4) (.slice p' ny c')) { b with us:=YS,pu:=p',cu:=c' }:=⟨h3,hra,Outside.set o 5 cur _ (by omega) (by omega),hb1,hb2,hRb.mono (fun z hz=>by
   rcases List.mem_cons.1 hz with rfl | hz
   ·exact List.mem_cons_self ..
   ·exact List.mem_cons_of_mem _ (by unfold LBk.fp;simp [hz]))⟩
  have hA2:w0.heap.size+1 ∉ ({ b with us:=YS,pu:=p',cu:=c' }:LBk).fp:=fun hm=>by
   rcases hb2 _ hm with h | h | h
   ·have:=(hfpl _ h).2;omega
   ·cases h
   ·have:=Hsz.out;omega
  have HE0:Hid (jA smL b.b m.x=(({ b with us:=YS,pu:=p',cu:=c' }:LBk).b,⟨0,[]⟩)∧qX w0 wb B g o cur b [] (cur.set (o+4) (.slice p' ny c')) { b with us:=YS,pu:=p',cu:=c' }∧w0.heap.size+1 ∉ ({ b with us:=YS,pu:=p',cu:=c' }:LBk).fp):=Lib.hid ⟨by
   unfold jA;rw [if_neg (by have:=Hk.out;omega),if_neg (by have:=Hk.out;omega),if_pos Hk.out,if_neg (by rw [show b.b.xE.length=b.us.length from List.length_map ..];omega),show b.b.xE=b.us.map qN.u from rfl];rw [show (⟨m.x.id,m.x.key,[]⟩:zAH)=((⟨⟨m.x.id,m.x.key,[]⟩,none,0⟩:qN)).u from rfl,← zDE (key:=qN.id) qN.u (fun _=>rfl),hYS]
   rfl,hres.base HO.out,hA2⟩
  have HROb:=HRO.out.only hRb (fun hm=>by
   rcases List.mem_cons.1 hm with h | h
   ·omega
   ·have:=(hfpl (w0.heap.size+1) (by unfold LBk.fp;simp [h])).2;omega)
  clear HRO;have HRO:=Lib.hid HROb;clear HROb h1 h2 h3 hYS hny hown2 hb1 hb2 hra hres hA2 hRb hRr hRt hRd hRs hC0 HSO HatL hgp hgN hnx;clear hown hg hrow hat hfpl hnu hno hB hbo hx hca hnp;go_wp2_with fail;refine (vM 0 wb).mono ?_;rintro e w9 ⟨rfl,o9⟩;unfold xM;have rO:=HRO.out.zB o9;have c0:=rO.cell (i:=0) rfl;have c1:=rO.cell (i:=1) rfl;have f0:=rO.free 0;have f1:=rO.free 1;have hrz:=rO.set2 (.int .i64 0) (.string (str []));have hst:=qB w9 (w0.heap.size+1) (.int .i64 0) (.string (str []));obtain ⟨wz,hwz⟩:∃ wz,wz=(w9.setCell ⟨w0.heap.size+1,0,none⟩ (.int .i64 0)).setCell ⟨w0.heap.size+1,1,none⟩ (.string (str [])):=⟨_,rfl⟩
  rw [← hwz] at hrz hst;have Hrz:=Lib.hid hrz;have HE:Hid (qX w0 wz B g o cur b [] (cur.set (o+4) (.slice p' ny c')) { b with us:=YS,pu:=p',cu:=c' }):=Lib.hid ((HE0.out.2.1.step o9).zAC hst (by simp;omega) (fun z hz=>by rw [List.mem_singleton.1 hz];exact ⟨by omega,HE0.out.2.2⟩));have Hwz:=Lib.hid hwz;clear rO hrz hst hwz o9;go_wp2_with fail;rw [← Hwz.out];exact bodyPost_ret (qO rfl _ _ _ rfl Hrz.out Tryz.underlying38 jH) rfl ⟨{ b with us:=YS,pu:=p',cu:=c' },(cur.set (o+4) (.slice p' ny c')),by rw [HE0.out.1];rfl,by rw [HE0.out.1],HE.out⟩
end
section
open Go.RowKit
def zGb (b:LBk) (u:qN) (m:zS) (g o i B:Nat) (cur:List Value) (w0:World):Ending→World→Prop:=fun e w'=>∃ b' cur',e=.returned (xM (vU smL b.b i u.u m.x).2)∧b'.b=(vU smL b.b i u.u m.x).1∧qX w0 w' B g o cur b [] cur' b'
set_option maxHeartbeats 16000000 in
theorem zGq (b:LBk) (u:qN) (m:zS) (g o i B:Nat) (cur:List Value) (w0:World) (hrow:Row w0 g 60 cur) (hat:jF o cur (zD b)) (hown:qZ w0 B b) (hg:g ∉ b.fp) (hu:b.us[i]?=some u) (hB:B≤w0.heap.size) (hok:zCf u.u) (hnl:b.us.length≤16) (hk:m.x.kind=6) :
  Calls Tryz.prog 101 #[.pointer (some ⟨g,o,none⟩),.int .i64 (i:Int),lmV m] w0 (zGb b u m g o i B cur w0):=by
 obtain ⟨np,hnp⟩:∃ n,m.x.parts.length=n:=⟨_,rfl⟩;obtain ⟨nu,hnu⟩:∃ n,b.us.length=n:=⟨_,rfl⟩;obtain ⟨no,hno⟩:∃ n,b.os.length=n:=⟨_,rfl⟩;obtain ⟨nq,hnq⟩:∃ n,u.u.parts.length=n:=⟨_,rfl⟩;have hi:i < nu:=(by have:=(List.getElem?_eq_some_iff.1 hu).1;omega);have hn16:nu≤16:=(by omega);obtain ⟨gu,-,hpu,-,-⟩:=hown.su.rowOf (by omega);have hsu:zN w0 B 54 5 (.slice (some ⟨gu,0,none⟩) b.us.length b.cu) b.us.length (b.us.flatMap zG):=(by have h:=hown.su;rw [hpu] at h;exact h);obtain ⟨rest,hrw,hrl,hnc,hcm,hgb,-⟩:=hsu.row;obtain ⟨U,hU⟩:∃ U,U=b.us.flatMap zG ++ rest:=⟨_,rfl⟩
 rw [← hU] at hrw hrl;have hra:jF (i * 5) U (zG u):=(by rw [hU];exact jZ zT hu);have hgu:gu∈b.fp:=(by unfold LBk.fp;rw [hpu];simp [blk]);have hggu:g≠gu:=fun e=>hg (e ▸ hgu);obtain ⟨w1,hw1⟩:∃ w1,w1=w0.alloc (.cells #[.int .i64 6,.int .i64 m.x.id.node,.int .i64 m.x.id.boot,.int .i64 m.x.id.seq,.string (str m.x.bucket),.string (str m.x.key),.int .i64 m.x.upload.node,.int .i64 m.x.upload.boot,.int .i64 m.x.upload.seq,.int .i64 m.x.piece.blob.node,.int .i64 m.x.piece.blob.boot,.int .i64 m.x.piece.blob.seq,.int .i64 m.x.piece.size,.string (str m.x.piece.etag),.int .i64 m.x.part,.slice m.p np m.c,.int .i64 m.x.time,.int .i64 m.x.days] 36):=⟨_,rfl⟩
 have o1:Only [] w0 w1:=(by rw [hw1];exact Only.alloc _ _);have s1:w1.heap.size=w0.heap.size+1:=(by rw [hw1];simp);have r1:Row w1 (w0.heap.size) 36 [.int .i64 6,.int .i64 m.x.id.node,.int .i64 m.x.id.boot,.int .i64 m.x.id.seq,.string (str m.x.bucket),.string (str m.x.key),.int .i64 m.x.upload.node,.int .i64 m.x.upload.boot,.int .i64 m.x.upload.seq,.int .i64 m.x.piece.blob.node,.int .i64 m.x.piece.blob.boot,.int .i64 m.x.piece.blob.seq,.int .i64 m.x.piece.size,.string (str m.x.piece.etag),.int .i64 m.x.part,.slice m.p np m.c,.int .i64 m.x.time,.int .i64 m.x.days]:=by rw [hw1];exact Row.zV _ _ _ _ rfl
 obtain ⟨w2,hw2⟩:∃ w2,w2=w1.alloc (.cells #[.int .i64 0,.string ⟨#[]⟩] 38):=⟨_,rfl⟩;have o2:Only [] w1 w2:=(by rw [hw2];exact Only.alloc _ _);have s2:w2.heap.size=w0.heap.size+1+1:=(by rw [hw2];simp [s1]);have r2:Row w2 (w0.heap.size+1) 38 [.int .i64 0,.string ⟨#[]⟩]:=(by rw [← s1,hw2];exact Row.zV _ _ _ _ rfl);replace r1:=r1.zB o2;have oAll:Only [] w0 w2:=(o1.zC o2);rw [hw1] at hw2;have hatc:=hat;unfold zD at hatc;rw [hno,hnu,hpu] at hatc;have hrac:=hra;unfold zG at hrac;rw [hnq] at hrac;have hfpl:=hown.lo;have Hr1:=Lib.hid r1
 have Hr2:=Lib.hid r2;have HO:=Lib.hid oAll;have Hw:=Lib.hid hw2;have Hsz:Hid (w2.heap.size=w0.heap.size+1+1):=Lib.hid s2;have Hrow:=Lib.hid (hrow.zB oAll);have Hrw:=Lib.hid (hrw.zB oAll);have Hat:=Lib.hid hatc;have Hra:=Lib.hid hrac;have HH:Hid (qZ w0 B b∧g ∉ b.fp∧Row w0 g 60 cur∧jF o cur (zD b)∧b.pu=some ⟨gu,0,none⟩∧gu∈b.fp∧g≠gu∧b.us[i]?=some u∧U=b.us.flatMap zG ++ rest∧U.length=b.cu * 5∧jF (i * 5) U (zG u)∧(∀ z∈b.fp,B≤z∧z < w0.heap.size)∧b.us.length=nu∧b.os.length=no∧u.u.parts.length=nq∧B≤w0.heap.size∧zCf u.u∧m.x.kind=6∧zBY w0 B u∧Row w0 gu 54 U∧m.x.parts.length=np):=Lib.hid ⟨hown,hg,hrow,hat,hpu,hgu,hggu,hu,hU,hrl,hra,hfpl,hnu,hno,hnq,hB,hok,hk,hown.up u (List.mem_of_getElem? hu),hrw,hnp⟩
 have hrb:=Hrow.out;have z4:=Hat.out.cell hrb (r:=4) rfl;have m0:=r1.cell (i:=0) rfl;have hii:(i:Int) < (nu:Int):=(by omega);rw [show lmV m=.agg #[.int .i64 6,.int .i64 m.x.id.node,.int .i64 m.x.id.boot,.int .i64 m.x.id.seq,.string (str m.x.bucket),.string (str m.x.key),.int .i64 m.x.upload.node,.int .i64 m.x.upload.boot,.int .i64 m.x.upload.seq,.int .i64 m.x.piece.blob.node,.int .i64 m.x.piece.blob.boot,.int .i64 m.x.piece.blob.seq,.int .i64 m.x.piece.size,.string (str m.x.piece.etag),.int .i64 m.x.part,.slice m.p np m.c,.int .i64 m.x.time,.int .i64 m.x.days] by unfold lmV;rw [hnp,hk]]
 clear hrow hat hown hg hu hB hok hnl hk hnp hnu hno hnq hpu hsu hrw hrl hnc hcm hgb hU hra hgu hggu hatc hrac hfpl r1 r2 oAll hw2 s2 s1 o1 o2 hw1 hrb
 go_enter Tryz.func101,Tryz.ntmps101
 go_upto_region 1 with (fail)
 rw [← Hw.out]
 go_upto_region 3 with (fail)
 clear z4 m0;obtain ⟨YS,hYS⟩:∃ YS,jN qU.num ltZ u.u.parts m.x.part (⟨m.x.part,m.x.piece⟩:qU)=YS:=⟨_,rfl⟩;obtain ⟨ny,hny⟩:∃ ny,YS.length=ny:=⟨_,rfl⟩
 have hset:∀ (W:World),Only [] w0 W→w2.heap.size≤W.heap.size→Calls Tryz.prog 135 #[.slice u.q nq u.c,.int .i64 m.x.part,.func (.func 136) #[] #[],.agg #[.int .i64 m.x.part,.int .i64 m.x.piece.blob.node,.int .i64 m.x.piece.blob.boot,.int .i64 m.x.piece.blob.seq,.int .i64 m.x.piece.size,.string (str m.x.piece.etag)]] W fun e' w'=>∃ p' c',e'=.returned (.slice p' ny c')∧zN w' B 111 6 (.slice p' ny c') ny (YS.flatMap zM)∧Only (blk u.q) W w'∧∀ z∈blk p',z∈blk u.q∨w2.heap.size≤z:=fun W hW hW2=>by
  obtain ⟨-,-,-,-,-,-,-,-,-,-,-,-,-,-,hnq,hB,hok,-,huo,-,-⟩:=HH.out;have h9:zN W B 111 6 (.slice u.q u.u.parts.length u.c) u.u.parts.length (u.u.parts.flatMap zM):=zN.zB huo hW;rw [hnq] at h9;have h:=zGs u.q nq u.c u.u.parts m.x.part (⟨m.x.part,m.x.piece⟩:qU) B W hnq (by have:=hok.len;omega) h9 (Nat.le_trans hB hW.size) hok.sort;rw [hYS,hny] at h;refine h.mono ?_;rintro e' w' ⟨p',c',h1,h2,h3,h4⟩;exact ⟨p',c',h1,h2,h3,fun z hz=>(h4 z hz).imp id (fun h5=>by omega)⟩
 have HS:=Lib.hid hset;have HY:Hid (jN qU.num ltZ u.u.parts m.x.part (⟨m.x.part,m.x.piece⟩:qU)=YS∧YS.length=ny):=Lib.hid ⟨hYS,hny⟩;clear hset hYS hny;have hgN:gu < w2.heap.size:=Hrw.out.lt
 have hgp:gu ∉ blk u.q:=fun h=>by
  obtain ⟨hown,-,-,-,hpu,-,-,hu,-⟩:=HH.out;have h5:=hown.nd;unfold LBk.fp at h5;rw [hpu] at h5;have h6:=(List.nodup_append.1 h5).2.1;exact (List.nodup_append.1 h6).2.2 gu (by simp [blk]) gu (List.mem_append_right _ (List.mem_flatMap.2 ⟨u,List.mem_of_getElem? hu,h⟩)) rfl
 have hnx:∀ k,w0.heap.size≤k→k ∉ gu :: blk u.q:=fun k hk h=>by
  obtain ⟨hown,-,-,-,hpu,hgu,-,hu,-,-,-,hlo,-⟩:=HH.out
  rcases List.mem_cons.1 h with h | h
  ·have:=(hlo gu hgu).2;omega
  ·have:=(ownIn (hown.up u (List.mem_of_getElem? hu)) _ h).2;omega
 have hxa:=Hr1.out;have x9:=hxa.cell (i:=9) rfl;have x10:=hxa.cell (i:=10) rfl;have x11:=hxa.cell (i:=11) rfl;have x12:=hxa.cell (i:=12) rfl;have x13:=hxa.cell (i:=13) rfl;have x14:=hxa.cell (i:=14) rfl;have HX:Hid (∀ w,Only (gu :: blk u.q) w2 w→w.cell? ⟨w0.heap.size,9,none⟩=some (.int .i64 m.x.piece.blob.node)∧w.cell? ⟨w0.heap.size,10,none⟩=some (.int .i64 m.x.piece.blob.boot)∧w.cell? ⟨w0.heap.size,11,none⟩=some (.int .i64 m.x.piece.blob.seq)∧w.cell? ⟨w0.heap.size,12,none⟩=some (.int .i64 m.x.piece.size)∧w.cell? ⟨w0.heap.size,13,none⟩=some (.string (str m.x.piece.etag))∧w.cell? ⟨w0.heap.size,14,none⟩=some (.int .i64 m.x.part)):=Lib.hid (fun w h=>⟨h.cell x9 (hnx _ (Nat.le_refl _)),h.cell x10 (hnx _ (Nat.le_refl _)),h.cell x11 (hnx _ (Nat.le_refl _)),h.cell x12 (hnx _ (Nat.le_refl _)),h.cell x13 (hnx _ (Nat.le_refl _)),h.cell x14 (hnx _ (Nat.le_refl _))⟩)
 clear hxa x9 x10 x11 x12 x13 x14
 go_upto_region 4 with (fail)
 have HatL:=Hra.out;have HSO:∀ z∈[gu],z < w2.heap.size∧z ∉ blk u.q:=fun z hz=>(by rw [List.mem_singleton.1 hz];exact ⟨hgN,hgp⟩);have hRr:∀ x,(Only (gu :: blk u.q)) x x:=fun x=>Only.refl _ _;have hRt:∀ x y z,(Only (gu :: blk u.q)) x y→(Only (gu :: blk u.q)) y z→(Only (gu :: blk u.q)) x z:=fun _ _ _ h k=>h.trans k (fun _ h _=>h);have hRd:(Only (gu :: blk u.q)) w2 w2.drew:=(Only.drew _).mono (by simp)
 have hRs:∀ j w,zZ [(12,Only (blk u.q)),(15,Only [gu])] j w w:=zZ.refl (by
  intro x hx w;simp only [List.mem_cons,List.not_mem_nil,or_false] at hx
  rcases hx with rfl | rfl <;> exact Only.refl _ _)
 have hC0:∀ d∈[12,15],(fun (i:Nat) (a:World)=>(i=12→Only [] w2 a)∧(i=15→Row a gu 54 U)) d w2.drew:=fun _ _=>⟨fun _=>Only.drew _,fun _=>Hrw.out.zB (Only.drew _)⟩;refine zU (Only (gu :: blk u.q)) (zZ [(12,Only (blk u.q)),(15,Only [gu])]) (fun (i:Nat) (a:World)=>(i=12→Only [] w2 a)∧(i=15→Row a gu 54 U)) [12,15] [[(7,none)],[(7,none)],[(25,some 0)],[(26,some 0)],[(27,some 0)],[(5,none)],[(29,some 0)],[(5,none)],[(31,some 0)],[(5,none)],[(33,some 0)],[(32,some 2),(34,some 0)],[(28,some 7),(30,some 5),(35,some 0)],[(24,some 12)],[(37,some 0)],[(38,some 0),(36,some 2)]] [] [0] [none,none,none,none,none,none,none,none,none,none,none,none,none,none,none,none,none,none,none,none,none,none,none,none,some 24,some 25,some 26,some 27,some 28,some 29,some 30,some 31,some 32,some 33,some 34,some 35,some 36,some 37,some 38,none,none,none,none,none,none,none,none,none,none,none,none,none,none,none,none,none,none,none,none,none,none,none,none,none,none,none,none,none,none,none,none,none,none,none,none,none,none,none,none,none,none,none,none,none,none,none,none,none,none,none,none,none,none,none,none,none,none,none,none,none,none,none,none,none,none,none,none,none,none,none,none,none,none,none,none,none,none,none,none,none,none,none,none,none,none,none,none,none,none,none] (by kernel_rfl) rfl (by kernel_rfl) hRr hRt hRs hRd hC0 (by kernel_rfl) (by kernel_rfl) ?_
 apply zF
 ·rintro a w hR hC ⟨(e7:_=_),-⟩;refine zA rfl fun K hK=>?_;go_simp;exact hK _ _ rfl ⟨hRr _,hRs _ _,fun _ _ _ _ h=>h⟩
 apply zF
 ·rintro a w hR hC ⟨(e7:_=_),-⟩;refine zA rfl fun K hK=>?_;go_simp;exact hK _ _ rfl ⟨hRr _,hRs _ _,fun _ _ _ _ h=>h⟩
 apply zF
 ·rintro a w hR hC ⟨(e25:_=_),-⟩;refine zA rfl fun K hK=>?_;go_simp;exact hK _ _ rfl ⟨hRr _,hRs _ _,fun _ _ _ _ h=>h⟩
 apply zF
 ·rintro a w hR hC ⟨(e26:_=_),-⟩;refine zA rfl fun K hK=>?_;go_simp;exact hK _ _ rfl ⟨hRr _,hRs _ _,fun _ _ _ _ h=>h⟩
 apply zF
 ·rintro a w hR hC ⟨(e27:_=_),-⟩;refine zA rfl fun K hK=>?_;have rz:=(hC 15 (by simp) (by kernel_rfl)).2 rfl;have z4:=HatL.cell rz (r:=4) rfl;go_simp;exact hK _ _ rfl ⟨hRr _,hRs _ _,fun _ _ _ _ h=>h⟩
 apply zF
 ·rintro a w hR hC ⟨(e5:_=_),-⟩;refine zA rfl fun K hK=>?_;go_simp;exact hK _ _ rfl ⟨hRr _,hRs _ _,fun _ _ _ _ h=>h⟩
 apply zF
 ·rintro a w hR hC ⟨(e29:_=_),-⟩;refine zA rfl fun K hK=>?_;obtain ⟨q0,q1,q2,q3,q4,q5⟩:=HX.out w hR;go_simp;exact hK _ _ rfl ⟨hRr _,hRs _ _,fun _ _ _ _ h=>h⟩
 apply zF
 ·rintro a w hR hC ⟨(e5:_=_),-⟩;refine zA rfl fun K hK=>?_;go_simp;exact hK _ _ rfl ⟨hRr _,hRs _ _,fun _ _ _ _ h=>h⟩
 apply zF
 ·rintro a w hR hC ⟨(e31:_=_),-⟩;refine zA rfl fun K hK=>?_;obtain ⟨q0,q1,q2,q3,q4,q5⟩:=HX.out w hR;go_simp;exact hK _ _ rfl ⟨hRr _,hRs _ _,fun _ _ _ _ h=>h⟩
 apply zF
 ·rintro a w hR hC ⟨(e5:_=_),-⟩;refine zA rfl fun K hK=>?_;go_simp;exact hK _ _ rfl ⟨hRr _,hRs _ _,fun _ _ _ _ h=>h⟩
 apply zF
 ·rintro a w hR hC ⟨(e33:_=_),-⟩;refine zA rfl fun K hK=>?_;obtain ⟨q0,q1,q2,q3,q4,q5⟩:=HX.out w hR;go_simp;exact hK _ _ rfl ⟨hRr _,hRs _ _,fun _ _ _ _ h=>h⟩
 apply zF
 ·rintro a w hR hC ⟨(e32:_=_),(e34:_=_),-⟩;refine zA rfl fun K hK=>?_;have e32':=e32;rw [Array.getD_eq_getD_getElem?] at e32';have e34':=e34;rw [Array.getD_eq_getD_getElem?] at e34';go_simp;exact hK _ _ rfl ⟨hRr _,hRs _ _,fun _ _ _ _ h=>h⟩
 refine ⟨SlP zM 111 6 B u.q w2.heap.size ny YS,zL SlP.stable (by intro x hx hk;simp only [List.mem_cons,List.not_mem_nil,or_false] at hx;rcases hx with rfl | rfl <;> first | exact Bool.noConfusion (hk.symm.trans (by kernel_rfl:_=true)) | (refine SlP.jC ?_;exact HSO;done)),fun a w hR hC hf=>?_,?_⟩
 ·obtain ⟨e28,e30,e35,-⟩:=hf;replace e28:a.tmps.getD 28 undef=_:=e28;replace e30:a.tmps.getD 30 undef=_:=e30;replace e35:a.tmps.getD 35 undef=_:=e35;refine zA rfl fun K hK=>?_;have hC5:=(hC 12 (by simp) (by kernel_rfl)).1 rfl;go_simp;(with_reducible refine (HS.out w (HO.out.zC hC5) hC5.size).mono ?_);rintro e w' ⟨p',c',rfl,h1,h2,h3⟩;exact hK _ _ ⟨_,_,rfl,h1,h3⟩ ⟨h2.mono (fun x hx=>List.mem_cons_of_mem _ hx),h2,fun i hi hne ha hc=>⟨fun e=>absurd e hne,fun e=>(hc.2 e).only h2 hgp⟩⟩
 apply zF
 ·rintro a w hR hC ⟨(e24:_=_),-⟩;refine zA rfl fun K hK=>?_;go_simp;exact hK _ _ rfl ⟨hRr _,hRs _ _,fun _ _ _ _ h=>h⟩
 apply zF
 ·rintro a w hR hC ⟨(e37:_=_),-⟩;refine zA rfl fun K hK=>?_;go_simp;exact hK _ _ rfl ⟨hRr _,hRs _ _,fun _ _ _ _ h=>h⟩
 refine ⟨SlR zM 111 6 B u.q w2.heap.size ny YS (gu) 54 U (i * 5+4),zL SlR.stable (by intro x hx hk;simp only [List.mem_cons,List.not_mem_nil,or_false] at hx;rcases hx with rfl | rfl <;> exact Bool.noConfusion (hk.symm.trans (by kernel_rfl:_=true))),fun a w hR hC hf=>?_,?_⟩
 ·obtain ⟨e38,e36,-⟩:=hf;replace e38:a.tmps.getD 38 undef=_:=e38;replace e36:SlP zM 111 6 B u.q w2.heap.size ny YS (a.tmps.getD 36 undef) w:=e36;refine zA rfl fun K hK=>?_;obtain ⟨p',c',e36,hown',hb'⟩:=e36;have rz:=(hC 15 (by simp) (by kernel_rfl)).2 rfl;have zc:=HatL.cell rz (r:=4) rfl;have zf:=rz.free (i * 5+4);go_simp;have hst:=Only.setCell w ⟨gu,i * 5+4,none⟩ (.slice p' (ny) c');refine hK undef _ ⟨p',c',hown'.jL hst (fun z hz hm=>?_),hb',rz.setCell (i * 5+4) _⟩ ⟨hst.mono (by simp),hst,fun i hi hne ha hc=>?_⟩
  ·rcases hb' z hz with h4 | h4
   ·exact (HSO z hm).2 h4
   ·have:=(HSO z hm).1;omega
  ·simp only [List.mem_cons,List.not_mem_nil,or_false] at hi
   rcases hi with rfl | rfl
   ·exact Bool.noConfusion (ha.symm.trans (by kernel_rfl:_=true))
   ·exact absurd rfl hne
 intro fb wb hRb hf hlb;dsimp only [qE];obtain ⟨l15,-⟩:=hlb;replace l15:∃ v,(SlR zM 111 6 B u.q w2.heap.size ny YS (gu) 54 U (i * 5+4)) v wb:=l15;obtain ⟨_,p',c',h1,h2,h3⟩:=l15;obtain ⟨hown,hg,hrow,hat,hpu,hgu,hggu,hu,hU,hrl,hra,hfpl,hnu,hno,hnq,hB,hok,hk,huo,hrw,hnp⟩:=HH.out;obtain ⟨hYS,hny⟩:=HY.out
 have hu':zBY wb B ⟨{ u.u with parts:=YS },p',c'⟩:=by
  show zN wb B 111 6 (.slice p' YS.length c') YS.length (YS.flatMap zM);rw [hny];exact h1
 have hra2:jF (i * 5) (U.set (i * 5+4) (.slice p' ny c')) (zG ⟨{ u.u with parts:=YS },p',c'⟩):=by
  have h9:=hra.set (i:=4) (.slice p' ny c') (by rw [zT];omega);rw [← hny] at h9 ⊢;exact h9
 have hown2:=hown.zB HO.out;have hou:=Outside.set (i * 5) 5 U (i:=i * 5+4) (.slice p' ny c') (by omega) (by omega);have hset:=hown2.zJe (rest:=rest) (cur':=U.set (i * 5+4) (.slice p' ny c')) (u':=⟨{ u.u with parts:=YS },p',c'⟩) hpu hu hRb (by rw [← hU];exact hrl) h3 (by rw [← hU];exact hou) hra2 hu' h2;obtain ⟨hb1,hb2⟩:=hset
 have hgn:g ∉ gu :: blk u.q:=fun h=>by
  rcases List.mem_cons.1 h with h | h
  ·exact hggu h
  ·exact hg (by unfold LBk.fp;simp only [List.mem_append,List.mem_flatMap];exact .inr (.inr (.inr ⟨u,List.mem_of_getElem? hu,h⟩)))
 have hrec:jF o cur (zD { b with us:=b.us.set i ⟨{ u.u with parts:=YS },p',c'⟩ }):=by
  unfold zD at hat ⊢;dsimp only;rw [List.length_set];exact hat
 have hres:qX w2 wb B g o cur b [] cur { b with us:=b.us.set i ⟨{ u.u with parts:=YS },p',c'⟩ }:=⟨Hrow.out.only hRb hgn,hrec,Outside.refl _ _ _,hb1,fun z hz=>(hb2 z hz).imp id .inr,hRb.mono (fun z hz=>by
  rcases List.mem_cons.1 hz with rfl | hz
  ·exact List.mem_cons_of_mem _ hgu
  ·exact List.mem_cons_of_mem _ (by unfold LBk.fp;simp only [List.mem_append,List.mem_flatMap];exact .inr (.inr (.inr ⟨u,List.mem_of_getElem? hu,hz⟩))))⟩
 have hA2:w0.heap.size+1 ∉ ({ b with us:=b.us.set i ⟨{ u.u with parts:=YS },p',c'⟩ }:LBk).fp:=fun hm=>by
  rcases hb2 _ hm with h | h
  ·have:=(hfpl _ h).2;omega
  ·have:=Hsz.out;omega
 have rO:=Hr2.out.only hRb (hnx _ (by omega));have e13:=(HX.out wb hRb).2.2.2.2.1;have c0:=rO.cell (i:=0) rfl;have c1:=rO.cell (i:=1) rfl;have f0:=rO.free 0;have f1:=rO.free 1;have hrz:=rO.set2 (.int .i64 0) (.string (str m.x.piece.etag));have hst:=qB wb (w0.heap.size+1) (.int .i64 0) (.string (str m.x.piece.etag));obtain ⟨wz,hwz⟩:∃ wz,wz=(wb.setCell ⟨w0.heap.size+1,0,none⟩ (.int .i64 0)).setCell ⟨w0.heap.size+1,1,none⟩ (.string (str m.x.piece.etag)):=⟨_,rfl⟩;rw [← hwz] at hrz hst;have Hrz:=Lib.hid hrz
 have hup:vU smL b.b i u.u m.x=(({ b with us:=b.us.set i ⟨{ u.u with parts:=YS },p',c'⟩ }:LBk).b,⟨0,m.x.piece.etag⟩):=by
  unfold vU;rw [if_pos hk,hYS];unfold LBk.b;dsimp only;rw [List.map_set]
 have HE:Hid (vU smL b.b i u.u m.x=(({ b with us:=b.us.set i ⟨{ u.u with parts:=YS },p',c'⟩ }:LBk).b,⟨0,m.x.piece.etag⟩)∧qX w0 wz B g o cur b [] cur { b with us:=b.us.set i ⟨{ u.u with parts:=YS },p',c'⟩ }):=Lib.hid ⟨hup,(hres.base HO.out).zAC hst (by have:=hrow.lt;simp;omega) (fun z hz=>by rw [List.mem_singleton.1 hz];exact ⟨by omega,hA2⟩)⟩;have Hwz:=Lib.hid hwz;clear rO hrz hst hwz hown hg hrow hat hpu hgu hggu hu hU hrl hra hfpl hnu hno hnq hB hok hk huo hrw hnp hYS hny h1 h2 h3 hu' hra2 hown2 hou hb1 hb2 hgn hrec hres hA2 hup hRb hRr hRt hRd hRs hC0 HSO HatL hgp hgN hnx
 go_wp2_with fail;rw [← Hwz.out];exact bodyPost_ret (qO rfl _ _ _ rfl Hrz.out Tryz.underlying38 jH) rfl ⟨{ b with us:=b.us.set i ⟨{ u.u with parts:=YS },p',c'⟩ },cur,by rw [HE.out.1];rfl,by rw [HE.out.1],HE.out.2⟩
end
section
open Go.RowKit
set_option maxHeartbeats 16000000 in
theorem zGn (b:LBk) (u:qN) (m:zS) (g o i B:Nat) (cur:List Value) (w0:World) (hrow:Row w0 g 60 cur) (hat:jF o cur (zD b)) (hown:qZ w0 B b) (hg:g ∉ b.fp) (hu:b.us[i]?=some u) (hB:B≤w0.heap.size) (hok:zCf u.u) (hnl:b.us.length≤16) (hk:m.x.kind=8) :
  Calls Tryz.prog 101 #[.pointer (some ⟨g,o,none⟩),.int .i64 (i:Int),lmV m] w0 (zGb b u m g o i B cur w0):=by
 obtain ⟨np,hnp⟩:∃ n,m.x.parts.length=n:=⟨_,rfl⟩;obtain ⟨nu,hnu⟩:∃ n,b.us.length=n:=⟨_,rfl⟩;obtain ⟨no,hno⟩:∃ n,b.os.length=n:=⟨_,rfl⟩;obtain ⟨nq,hnq⟩:∃ n,u.u.parts.length=n:=⟨_,rfl⟩;have hi:i < nu:=(by have:=(List.getElem?_eq_some_iff.1 hu).1;omega);have hn16:nu≤16:=(by omega);obtain ⟨gu,-,hpu,-,-⟩:=hown.su.rowOf (by omega);have hsu:zN w0 B 54 5 (.slice (some ⟨gu,0,none⟩) b.us.length b.cu) b.us.length (b.us.flatMap zG):=(by have h:=hown.su;rw [hpu] at h;exact h);obtain ⟨rest,hrw,hrl,hnc,hcm,hgb,-⟩:=hsu.row;obtain ⟨U,hU⟩:∃ U,U=b.us.flatMap zG ++ rest:=⟨_,rfl⟩
 rw [← hU] at hrw hrl;have hra:jF (i * 5) U (zG u):=(by rw [hU];exact jZ zT hu);have hgu:gu∈b.fp:=(by unfold LBk.fp;rw [hpu];simp [blk]);have hggu:g≠gu:=fun e=>hg (e ▸ hgu);obtain ⟨w1,hw1⟩:∃ w1,w1=w0.alloc (.cells #[.int .i64 8,.int .i64 m.x.id.node,.int .i64 m.x.id.boot,.int .i64 m.x.id.seq,.string (str m.x.bucket),.string (str m.x.key),.int .i64 m.x.upload.node,.int .i64 m.x.upload.boot,.int .i64 m.x.upload.seq,.int .i64 m.x.piece.blob.node,.int .i64 m.x.piece.blob.boot,.int .i64 m.x.piece.blob.seq,.int .i64 m.x.piece.size,.string (str m.x.piece.etag),.int .i64 m.x.part,.slice m.p np m.c,.int .i64 m.x.time,.int .i64 m.x.days] 36):=⟨_,rfl⟩
 have o1:Only [] w0 w1:=(by rw [hw1];exact Only.alloc _ _);have s1:w1.heap.size=w0.heap.size+1:=(by rw [hw1];simp);have r1:Row w1 (w0.heap.size) 36 [.int .i64 8,.int .i64 m.x.id.node,.int .i64 m.x.id.boot,.int .i64 m.x.id.seq,.string (str m.x.bucket),.string (str m.x.key),.int .i64 m.x.upload.node,.int .i64 m.x.upload.boot,.int .i64 m.x.upload.seq,.int .i64 m.x.piece.blob.node,.int .i64 m.x.piece.blob.boot,.int .i64 m.x.piece.blob.seq,.int .i64 m.x.piece.size,.string (str m.x.piece.etag),.int .i64 m.x.part,.slice m.p np m.c,.int .i64 m.x.time,.int .i64 m.x.days]:=by rw [hw1];exact Row.zV _ _ _ _ rfl
 obtain ⟨w2,hw2⟩:∃ w2,w2=w1.alloc (.cells #[.int .i64 0,.string ⟨#[]⟩] 38):=⟨_,rfl⟩;have o2:Only [] w1 w2:=(by rw [hw2];exact Only.alloc _ _);have s2:w2.heap.size=w0.heap.size+1+1:=(by rw [hw2];simp [s1]);have r2:Row w2 (w0.heap.size+1) 38 [.int .i64 0,.string ⟨#[]⟩]:=(by rw [← s1,hw2];exact Row.zV _ _ _ _ rfl);replace r1:=r1.zB o2;have oAll:Only [] w0 w2:=(o1.zC o2);rw [hw1] at hw2;have hatc:=hat;unfold zD at hatc;rw [hno,hnu,hpu] at hatc;have hrac:=hra;unfold zG at hrac;rw [hnq] at hrac;have hfpl:=hown.lo;have Hr1:=Lib.hid r1
 have Hr2:=Lib.hid r2;have HO:=Lib.hid oAll;have Hw:=Lib.hid hw2;have Hsz:Hid (w2.heap.size=w0.heap.size+1+1):=Lib.hid s2;have Hrow:=Lib.hid (hrow.zB oAll);have Hrw:=Lib.hid (hrw.zB oAll);have Hat:=Lib.hid hatc;have Hra:=Lib.hid hrac;have HH:Hid (qZ w0 B b∧g ∉ b.fp∧Row w0 g 60 cur∧jF o cur (zD b)∧b.pu=some ⟨gu,0,none⟩∧gu∈b.fp∧g≠gu∧b.us[i]?=some u∧U=b.us.flatMap zG ++ rest∧U.length=b.cu * 5∧jF (i * 5) U (zG u)∧(∀ z∈b.fp,B≤z∧z < w0.heap.size)∧b.us.length=nu∧b.os.length=no∧u.u.parts.length=nq∧B≤w0.heap.size∧zCf u.u∧m.x.kind=8∧zBY w0 B u∧Row w0 gu 54 U∧m.x.parts.length=np):=Lib.hid ⟨hown,hg,hrow,hat,hpu,hgu,hggu,hu,hU,hrl,hra,hfpl,hnu,hno,hnq,hB,hok,hk,hown.up u (List.mem_of_getElem? hu),hrw,hnp⟩
 have hrb:=Hrow.out;have z4:=Hat.out.cell hrb (r:=4) rfl;have m0:=r1.cell (i:=0) rfl;have hii:(i:Int) < (nu:Int):=(by omega);rw [show lmV m=.agg #[.int .i64 8,.int .i64 m.x.id.node,.int .i64 m.x.id.boot,.int .i64 m.x.id.seq,.string (str m.x.bucket),.string (str m.x.key),.int .i64 m.x.upload.node,.int .i64 m.x.upload.boot,.int .i64 m.x.upload.seq,.int .i64 m.x.piece.blob.node,.int .i64 m.x.piece.blob.boot,.int .i64 m.x.piece.blob.seq,.int .i64 m.x.piece.size,.string (str m.x.piece.etag),.int .i64 m.x.part,.slice m.p np m.c,.int .i64 m.x.time,.int .i64 m.x.days] by unfold lmV;rw [hnp,hk]]
 clear hrow hat hown hg hu hB hok hnl hk hnp hnu hno hnq hpu hsu hrw hrl hnc hcm hgb hU hra hgu hggu hatc hrac hfpl r1 r2 oAll hw2 s2 s1 o1 o2 hw1 hrb
 go_enter Tryz.func101,Tryz.ntmps101
 go_upto_region 1 with (fail)
 rw [← Hw.out]
 go_upto_region 3 with (fail)
 clear z4 m0;obtain ⟨d,hd⟩:∃ d,nu=d+1:=⟨nu - 1,by omega⟩;subst hd
 have hdel:∀ (W:World),Only [] w0 W→Calls Tryz.prog 137 #[.slice (some ⟨gu,0,none⟩) (d+1) b.cu,.int .i64 (i:Int),.int .i64 ((i:Int)+1)] W fun e' w'=>e'=.returned (.slice (some ⟨gu,0,none⟩) d b.cu)∧zN w' B 54 5 (.slice (some ⟨gu,0,none⟩) d b.cu) d ((b.us.eraseIdx i).flatMap zG)∧Only [gu] W w':=fun W hW=>by
  have hi2:=hi;have hn2:=hn16;obtain ⟨hown,-,-,-,hpu,-,-,-,-,-,-,-,hnu,-⟩:=HH.out;have h9:=hown.su.zB hW;rw [hpu,hnu] at h9;exact zEK _ d b.cu b.us i B W h9 hnu (by omega) (by omega)
 have HD:=Lib.hid hdel;have hbx:=Hat.out;have hrb:=Hrow.out;have z4:=hbx.cell hrb (r:=4) rfl;have hw1:IntKind.i64.wrap ((i:Int)+1)=(i:Int)+1:=(by rw [IntKind.wrap_i64];omega);clear hdel hbx hrb;go_wp2_with fail;refine (HD.out w2 HO.out).mono ?_;rintro e w3 ⟨rfl,h1,h2⟩;clear z4;obtain ⟨hown,hg,hrow,hat,hpu,hgu,hggu,hu,hU,hrl,hra,hfpl,hnu,hno,hnq,hB,hok,hk,huo,hrw,hnp⟩:=HH.out;have hr3:=Hrow.out.only h2 (by simpa using hggu);have y4:=Hat.out.cell hr3 (r:=4) rfl;have g4:=hr3.free (o+4);obtain ⟨w4,hw4⟩:∃ w4,w4=w3.setCell ⟨g,o+4,none⟩ (.slice (some ⟨gu,0,none⟩) d b.cu):=⟨_,rfl⟩
 have o4:Only [g] w3 w4:=(by rw [hw4];exact Only.setCell _ ⟨g,o+4,none⟩ _);have hr4:=hr3.setCell (o+4) (.slice (some ⟨gu,0,none⟩) d b.cu);rw [← hw4] at hr4;have ho24:Only [gu,g] w2 w4:=(h2.mono (by simp)).trans o4 (fun z hz _=>by simp at hz ⊢;exact .inr hz);have hle:(b.us.eraseIdx i).length=d:=(by rw [List.length_eraseIdx,if_pos (by omega)];omega);have hown2:=hown.zB HO.out
 have hbo:=hown2.xE (S:=[gu,g]) (us':=b.us.eraseIdx i) (p':=some ⟨gu,0,none⟩) (c':=b.cu) (new:=[]) ho24 (fun z hz=>by
  rcases List.mem_cons.1 hz with rfl | hz
  ·exact .inl (by rw [hpu];simp [blk])
  ·rw [List.mem_singleton.1 hz];exact .inr ⟨hg,by simp⟩) (by rw [hle];exact h1.jL o4 (fun z hz hm=>by simp [blk] at hz;rw [List.mem_singleton.1 hm] at hz;exact hggu hz)) (fun y hy=>.inl (List.mem_of_mem_eraseIdx hy)) (fun z hz=>.inl (by rw [hpu];exact hz)) ⟨_,List.Perm.refl _,zAQ (List.eraseIdx_sublist ..)⟩ List.nodup_nil (by simp)
 obtain ⟨hb1,hb2⟩:=hbo
 have hra2:jF o (cur.set (o+4) (.slice (some ⟨gu,0,none⟩) d b.cu)) (zD { b with us:=b.us.eraseIdx i,pu:=some ⟨gu,0,none⟩,cu:=b.cu }):=by
  have h9:=hat.set (i:=4) (.slice (some ⟨gu,0,none⟩) d b.cu) (by rw [zQ];omega);rw [← hle] at h9 ⊢;exact h9
 have hres:qX w2 w4 B g o cur b [] (cur.set (o+4) (.slice (some ⟨gu,0,none⟩) d b.cu)) { b with us:=b.us.eraseIdx i,pu:=some ⟨gu,0,none⟩,cu:=b.cu }:=⟨hr4,hra2,Outside.set o 5 cur _ (by omega) (by omega),hb1,hb2,ho24.mono (fun z hz=>by
  rcases List.mem_cons.1 hz with rfl | hz
  ·exact List.mem_cons_of_mem _ hgu
  ·rw [List.mem_singleton.1 hz];exact List.mem_cons_self ..)⟩
 have hA2:w0.heap.size+1 ∉ ({ b with us:=b.us.eraseIdx i,pu:=some ⟨gu,0,none⟩,cu:=b.cu }:LBk).fp:=fun hm=>by
  rcases hb2 _ hm with h | h | h
  ·have:=(hfpl _ h).2;omega
  ·cases h
  ·have:=Hsz.out;omega
 have hw4b:=Lib.hid hw4
 have hup:vU smL b.b i u.u m.x=(({ b with us:=b.us.eraseIdx i,pu:=some ⟨gu,0,none⟩,cu:=b.cu }:LBk).b,⟨0,[]⟩):=by
  unfold vU;rw [if_neg (by omega),if_pos (by omega)];unfold LBk.b;dsimp only;rw [vX]
 have rO2:=Hr2.out.only ho24 (by have h5:=(hfpl gu hgu).2;have h6:=hrow.lt;simp;omega);have HRO:=Lib.hid rO2;have HE0:Hid (vU smL b.b i u.u m.x=(({ b with us:=b.us.eraseIdx i,pu:=some ⟨gu,0,none⟩,cu:=b.cu }:LBk).b,⟨0,[]⟩)∧qX w0 w4 B g o cur b [] (cur.set (o+4) (.slice (some ⟨gu,0,none⟩) d b.cu)) { b with us:=b.us.eraseIdx i,pu:=some ⟨gu,0,none⟩,cu:=b.cu }∧w0.heap.size+1 ∉ ({ b with us:=b.us.eraseIdx i,pu:=some ⟨gu,0,none⟩,cu:=b.cu }:LBk).fp∧g < w0.heap.size):=Lib.hid ⟨hup,hres.base HO.out,hA2,hrow.lt⟩;clear hown hg hrow hat hpu hgu hggu hu hU hrl hra hfpl hnu hno hnq hB hok hk huo hrw hnp hr3 hw4 o4 hr4 ho24 hle hown2 hb1 hb2 hra2 hres hA2 hup rO2 h1 h2
 go_wp2_with fail;rw [← hw4b.out];clear y4 g4;refine (vM 0 w4).mono ?_;rintro e w5 ⟨rfl,o5⟩;unfold xM;have rO:=HRO.out.zB o5;have c0:=rO.cell (i:=0) rfl;have c1:=rO.cell (i:=1) rfl;have f0:=rO.free 0;have f1:=rO.free 1;have hrz:=rO.set2 (.int .i64 0) (.string (str []));have hst:=qB w5 (w0.heap.size+1) (.int .i64 0) (.string (str []));obtain ⟨wz,hwz⟩:∃ wz,wz=(w5.setCell ⟨w0.heap.size+1,0,none⟩ (.int .i64 0)).setCell ⟨w0.heap.size+1,1,none⟩ (.string (str [])):=⟨_,rfl⟩;rw [← hwz] at hrz hst;have Hrz:=Lib.hid hrz;have HE:Hid (qX w0 wz B g o cur b [] (cur.set (o+4) (.slice (some ⟨gu,0,none⟩) d b.cu)) { b with us:=b.us.eraseIdx i,pu:=some ⟨gu,0,none⟩,cu:=b.cu }):=Lib.hid ((HE0.out.2.1.step o5).zAC hst (by have:=HE0.out.2.2.2;simp;omega) (fun z hz=>by rw [List.mem_singleton.1 hz];exact ⟨by omega,HE0.out.2.2.1⟩))
 have Hwz:=Lib.hid hwz;clear rO hrz hst hwz o5;go_wp2_with fail;rw [← Hwz.out];exact bodyPost_ret (qO rfl _ _ _ rfl Hrz.out Tryz.underlying38 jH) rfl ⟨{ b with us:=b.us.eraseIdx i,pu:=some ⟨gu,0,none⟩,cu:=b.cu },_,by rw [HE0.out.1];rfl,by rw [HE0.out.1],HE.out⟩
end
end Go.Proofs.YtfeglnpmpgipiaaGreatDoor
