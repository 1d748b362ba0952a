/- LdgPk, part 27: CatBk3W. -/
import Derived.Test.YtfeglnpmpgipiaaGreatDoorLdgPk24
import Derived.Test.YtfeglnpmpgipiaaGreatDoorLdgPk26
set_option linter.unusedVariables false
set_option maxRecDepth 100000
set_option linter.unusedSimpArgs false
namespace Go.Proofs.YtfeglnpmpgipiaaGreatDoor
section
open Go.RowKit
set_option maxHeartbeats 16000000 in
theorem zHX (b:LBk) (m:zT) (g o B:Nat) (cur:List Value) (w0:World) (hrow:Row w0 g 60 cur) (hat:jH o cur (zD b)) (hown:jA w0 B b) (hg:g ∉ b.fp) (hB:B≤w0.heap.size) (hbo:yO b.b) (hx:xK m.x) (hca:jP w0 m) (hk:m.x.kind=3) :
  Calls Tryz.prog 57 #[.pointer (some ⟨g,o,none⟩),lmV m] w0 (zDv b m g o B cur w0):=by
 obtain ⟨np,hnp⟩:∃ n,m.x.parts.length=n:=⟨_,rfl⟩;obtain ⟨nu,hnu⟩:∃ n,b.us.length=n:=⟨_,rfl⟩;obtain ⟨no,hno⟩:∃ n,b.os.length=n:=⟨_,rfl⟩;have hnol:no≤128:=(by have:=hbo.ol;rw [show b.b.xS.length=b.os.length from List.length_map ..] at this;omega);have hnul:nu≤16:=(by have:=hbo.ul;rw [show b.b.xG.length=b.us.length from List.length_map ..] at this;omega);obtain ⟨w1,hw1⟩:∃ w1,w1=w0.alloc (.cells #[.int .i64 3,.int .i64 m.x.id.node,.int .i64 m.x.id.boot,.int .i64 m.x.id.seq,.string (str m.x.bucket),.string (str m.x.key),.int .i64 m.x.upload.node,.int .i64 m.x.upload.boot,.int .i64 m.x.upload.seq,.int .i64 m.x.piece.blob.node,.int .i64 m.x.piece.blob.boot,.int .i64 m.x.piece.blob.seq,.int .i64 m.x.piece.size,.string (str m.x.piece.etag),.int .i64 m.x.part,.slice m.p np m.c,.int .i64 m.x.time,.int .i64 m.x.days] 36):=⟨_,rfl⟩
 have o1:Only [] w0 w1:=(by rw [hw1];exact Only.alloc _ _);have s1:w1.heap.size=w0.heap.size+1:=(by rw [hw1];simp);have r1:Row w1 (w0.heap.size) 36 [.int .i64 3,.int .i64 m.x.id.node,.int .i64 m.x.id.boot,.int .i64 m.x.id.seq,.string (str m.x.bucket),.string (str m.x.key),.int .i64 m.x.upload.node,.int .i64 m.x.upload.boot,.int .i64 m.x.upload.seq,.int .i64 m.x.piece.blob.node,.int .i64 m.x.piece.blob.boot,.int .i64 m.x.piece.blob.seq,.int .i64 m.x.piece.size,.string (str m.x.piece.etag),.int .i64 m.x.part,.slice m.p np m.c,.int .i64 m.x.time,.int .i64 m.x.days]:=by rw [hw1];exact Row.zV _ _ _ _ rfl
 obtain ⟨w2,hw2⟩:∃ w2,w2=w1.alloc (.cells #[.int .i64 0,.string ⟨#[]⟩] 38):=⟨_,rfl⟩;have o2:Only [] w1 w2:=(by rw [hw2];exact Only.alloc _ _);have s2:w2.heap.size=w0.heap.size+1+1:=(by rw [hw2];simp [s1]);have r2:Row w2 (w0.heap.size+1) 38 [.int .i64 0,.string ⟨#[]⟩]:=(by rw [← s1,hw2];exact Row.zV _ _ _ _ rfl);replace r1:=r1.zB o2;have oAll:Only [] w0 w2:=(o1.zC o2);rw [hw1] at hw2;have hatc:=hat;unfold zD at hatc;rw [hno,hnu] at hatc;have hfpl:=hown.lo;have Hr1:=Lib.hid r1;have Hr2:=Lib.hid r2;have HO:=Lib.hid oAll;have Hw:=Lib.hid hw2
 have Hsz:Hid (w2.heap.size=w0.heap.size+1+1):=Lib.hid s2;have Hrow:=Lib.hid (hrow.zB oAll);have Hat:=Lib.hid hatc;have HH:Hid (jA w0 B b∧g ∉ b.fp∧Row w0 g 60 cur∧jH o cur (zD b)∧(∀ z∈b.fp,B≤z∧z < w0.heap.size)∧b.us.length=nu∧b.os.length=no∧B≤w0.heap.size∧yO b.b∧xK m.x∧jP w0 m∧m.x.parts.length=np):=Lib.hid ⟨hown,hg,hrow,hat,hfpl,hnu,hno,hB,hbo,hx,hca,hnp⟩;have Hk:=Lib.hid hk;have hgl:g < w0.heap.size:=hrow.lt;have m0:=r1.cell (i:=0) rfl;have m5:=r1.cell (i:=5) rfl;have m9:=r1.cell (i:=9) rfl
 have m10:=r1.cell (i:=10) rfl;have m11:=r1.cell (i:=11) rfl;have m12:=r1.cell (i:=12) rfl;have m13:=r1.cell (i:=13) rfl;have m16:=r1.cell (i:=16) rfl;rw [show lmV m=.agg #[.int .i64 3,.int .i64 m.x.id.node,.int .i64 m.x.id.boot,.int .i64 m.x.id.seq,.string (str m.x.bucket),.string (str m.x.key),.int .i64 m.x.upload.node,.int .i64 m.x.upload.boot,.int .i64 m.x.upload.seq,.int .i64 m.x.piece.blob.node,.int .i64 m.x.piece.blob.boot,.int .i64 m.x.piece.blob.seq,.int .i64 m.x.piece.size,.string (str m.x.piece.etag),.int .i64 m.x.part,.slice m.p np m.c,.int .i64 m.x.time,.int .i64 m.x.days] by unfold lmV;rw [hnp,hk]]
 clear hrow hat hown hg hB hbo hx hca hnp hnu hno hatc hfpl r1 r2 oAll hw2 s2 s1 o1 o2 hw1 hk
 go_enter Tryz.func57,Tryz.ntmps57
 go_upto_region 1 with (fail)
 rw [← Hw.out];obtain ⟨w3,hw3⟩:∃ w3,w3=w2.alloc (.cells #[.int .i64 m.x.piece.blob.node,.int .i64 m.x.piece.blob.boot,.int .i64 m.x.piece.blob.seq,.int .i64 m.x.piece.size,.string (str m.x.piece.etag)] 33):=⟨_,rfl⟩;obtain ⟨w4,hw4⟩:∃ w4,w4=w3.alloc (.cells #[.string (str m.x.key),.int .i64 m.x.piece.size,.string (str m.x.piece.etag),.int .i64 m.x.time,.slice (some ⟨w0.heap.size+1+1,0,none⟩) 1 1] 48):=⟨_,rfl⟩;have o3:Only [] w2 w3:=(by rw [hw3];exact Only.alloc _ _);have o4:Only [] w3 w4:=(by rw [hw4];exact Only.alloc _ _);have s3:w3.heap.size=w0.heap.size+1+1+1:=by rw [hw3];simp [Hsz.out]
 have r4:Row w4 (w0.heap.size+1+1+1) 48 [.string (str m.x.key),.int .i64 m.x.piece.size,.string (str m.x.piece.etag),.int .i64 m.x.time,.slice (some ⟨w0.heap.size+1+1,0,none⟩) 1 1]:=by rw [← s3,hw4];exact Row.zV _ _ _ _ rfl
 have hK3:zQ w3 B 33 5 (.slice (some ⟨w0.heap.size+1+1,0,none⟩) 1 1) 1 (([m.x.piece]:List Pc).flatMap jB):=by
  have h:=zQ.new (w:=w2) (base:=B) (K:=5) (n:=1) (e:=33) (jB m.x.piece) (by have:=HH.out.2.2.2.2.2.2.2.1;have:=Hsz.out;omega) rfl (by omega);rw [Hsz.out] at h;rw [hw3];exact h
 have HK:=Lib.hid (hK3.zB o4);have H04:=Lib.hid (HO.out.zC (o3.zC o4));have H24:=Lib.hid (o3.zC o4);obtain ⟨xo,hxo⟩:∃ x:qE,x=⟨⟨m.x.key,m.x.piece.size,m.x.piece.etag,m.x.time,[m.x.piece]⟩,some ⟨w0.heap.size+1+1,0,none⟩,1⟩:=⟨_,rfl⟩;obtain ⟨hown,hg,hrow,hat,hfpl,hnu,hno,hB,hbo,hx,hca,hnp⟩:=HH.out
 have hput:=zGS b xo g o B cur w4 (hrow.zB H04.out) hat (hown.zB H04.out) hg (by rw [hxo];exact HK.out) (fun z hz=>by
  have hz':z=w0.heap.size+1+1:=by rw [hxo] at hz;simpa [blk] using hz
  exact ⟨fun hm=>by have:=(hfpl z hm).2;omega,by omega⟩) (Nat.le_trans hB H04.out.size) hbo.os (by omega)
 rw [show loV xo=.agg #[.string (str m.x.key),.int .i64 m.x.piece.size,.string (str m.x.piece.etag),.int .i64 m.x.time,.slice (some ⟨w0.heap.size+1+1,0,none⟩) 1 1] by rw [hxo];rfl] at hput;have HP:=Lib.hid hput;have Hxo:=Lib.hid hxo;have H4s:Hid (w4.heap.size=w0.heap.size+1+1+1+1):=Lib.hid (by rw [hw4];simp [s3]);have HRO:=Lib.hid (Hr2.out.zB H24.out);rw [hw3] at hw4;have Hw4:=Lib.hid hw4;have Hr4:=Lib.hid r4;have hsz2:=Hsz.out;clear hw3 hw4 o3 o4 s3 r4 hK3 HK hxo hput;clear hown hg hrow hat hfpl hnu hno hB hbo hx hca hnp
 go_upto_region 4 with (fail)
 rw [← Hw4.out];clear Hw4 m0 m5 m9 m10 m11 m12 m13 m16;have hr4:=Hr4.out;have v0:=hr4.cell (i:=0) rfl;have v1:=hr4.cell (i:=1) rfl;have v2:=hr4.cell (i:=2) rfl;have v3:=hr4.cell (i:=3) rfl;have v4:=hr4.cell (i:=4) rfl;clear hr4;go_wp2_with fail;refine HP.out.mono ?_;rintro e w5 ⟨b1,cur1,rfl,hb1,hres,-,-,-⟩;clear v0 v1 v2 v3 v4 HP;obtain ⟨hown,hg,hrow,hat,hfpl,hnu,hno,hB,hbo,hx,hca,hnp⟩:=HH.out;obtain ⟨oc,hoc⟩:∃ oc,(zAI b.b xo.o).2=oc:=⟨_,rfl⟩;rw [hoc];unfold xN
 have hA2:w0.heap.size+1 ∉ b1.fp:=fun hm=>by
  rcases hres.fp _ hm with h | h | h
  ·have:=(hfpl _ h).2;omega
  ·rw [Hxo.out] at h;simp [blk] at h
  ·have:=H4s.out;omega
 have hT:=hres.base H04.out;have hT2:=hT.trans (qZ.refl hT.row hT.rcd hT.own [] (Only.refl _ _)) (fun z hz=>by cases hz) (fun z hz=>.inr (by rw [Hxo.out] at hz;simp [blk] at hz;omega))
 have rO:=HRO.out.only hres.only (fun hm=>by
  rcases List.mem_cons.1 hm with h | h
  ·omega
  ·have:=(hfpl _ h).2;omega)
 have hin:jD smL b.b m.x=(b1.b,oc):=by
  unfold jD;rw [if_pos Hk.out,show (⟨m.x.key,m.x.piece.size,m.x.piece.etag,m.x.time,[m.x.piece]⟩:yT)=xo.o by rw [Hxo.out],hb1,← hoc]
 have c0:=rO.cell (i:=0) rfl;have c1:=rO.cell (i:=1) rfl;have f0:=rO.free 0;have f1:=rO.free 1;have hrz:=rO.set2 (.int .i64 oc.code) (.string (str oc.etag));have hst:=qB w5 (w0.heap.size+1) (.int .i64 oc.code) (.string (str oc.etag));obtain ⟨wz,hwz⟩:∃ wz,wz=(w5.setCell ⟨w0.heap.size+1,0,none⟩ (.int .i64 oc.code)).setCell ⟨w0.heap.size+1,1,none⟩ (.string (str oc.etag)):=⟨_,rfl⟩;rw [← hwz] at hrz hst;have Hrz:=Lib.hid hrz;have HE:Hid (jD smL b.b m.x=(b1.b,oc)∧qZ w0 wz B g o cur b [] cur1 b1):=Lib.hid ⟨hin,hT2.zAB hst (by simp;omega) (fun z hz=>by rw [List.mem_singleton.1 hz];exact ⟨by omega,hA2⟩)⟩
 have Hwz:=Lib.hid hwz;clear rO hrz hst hwz hin hA2 hT hT2 hb1 hres hoc;clear hown hg hrow hat hfpl hnu hno hB hbo hx hca hnp;go_wp2_with fail;rw [← Hwz.out];exact bodyPost_ret (qP rfl _ _ _ rfl Hrz.out Tryz.underlying38 jI) rfl ⟨b1,cur1,by rw [HE.out.1];rfl,by rw [HE.out.1],HE.out.2⟩
end
end Go.Proofs.YtfeglnpmpgipiaaGreatDoor
