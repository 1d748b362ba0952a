/- GrwPk, part 35: CatAppBW, CatAppW, ApBox. -/
import Derived.Test.YtfeglnpmpgipiaaGreatDoorGrwPk14
import Derived.Test.YtfeglnpmpgipiaaGreatDoorGrwPk23
import Derived.Test.YtfeglnpmpgipiaaGreatDoorGrwPk24
import Derived.Test.YtfeglnpmpgipiaaGreatDoorGrwPk26
import Derived.Test.YtfeglnpmpgipiaaGreatDoorGrwPk34
set_option linter.unusedVariables false
set_option maxRecDepth 100000
set_option linter.unusedSimpArgs false
namespace Go.Proofs.YtfeglnpmpgipiaaGreatDoor
section
open Go.RowKit
theorem qA.zJU {w w':World} {B g i:Nat} {S:List Nat} {L:qK} {b b':LBk} {rest cur':List Value} (h:qA w B L) (hpb:L.pb=some ⟨g,0,none⟩) (hb:L.bs[i]?=some b) (ho:Only S w w') (hS:∀ z∈S,z=g∨z∈b.fp∨z ∉ L.fp)
  (hl:(L.bs.flatMap zD ++ rest).length=L.cb * 5) (r:Row w' g 60 cur') (hout:Outside (i * 5) 5 (L.bs.flatMap zD ++ rest) cur') (ha:jF (i * 5) cur' (zD b')) (hb':qZ w' B b') (hfp:∀ z∈b'.fp,z∈b.fp∨w.heap.size≤z) :
  qA w' B { L with bs:=L.bs.set i b' }:=by
 have hnd0:=h.nd;have hlo:=h.lo;have hi:=(List.getElem?_eq_some_iff.1 hb).1;have hv:=h.sb.view;have hbm:=List.mem_of_getElem? hb;have hin:∀ z∈b.fp,z∈L.bs.flatMap LBk.fp:=fun z hz=>List.mem_flatMap.2 ⟨b,hbm,hz⟩;rw [show L.fp=blk L.pb ++ (blk L.pf ++ L.bs.flatMap LBk.fp) from rfl,hpb] at hnd0;have hg:blk (some (⟨g,0,none⟩:Addr))=[g]:=rfl;rw [hg] at hnd0;obtain ⟨-,h5,h6⟩:=List.nodup_append.1 hnd0;obtain ⟨-,h7,h8⟩:=List.nodup_append.1 h5;have hgB:B≤g:=(hlo g (by unfold qK.fp;rw [hpb];simp [blk])).1;have hpl:(L.bs.set i b').length=L.bs.length:=List.length_set
 refine ⟨?_,h.sf.jL ho (fun z hz hm=>?_),fun y hy=>?_,?_⟩
 ·show zN w' B 60 5 (.slice L.pb (L.bs.set i b').length L.cb) (L.bs.set i b').length ((L.bs.set i b').flatMap zD);rw [hpl,hpb];exact zN.zAz (by omega) zQ hgB rfl hi hv.2.2.2.2.1 hv.2.2.2.2.2.1 hl r hout ha
 ·rcases hS z hm with rfl | hm | hm
  ·exact h6 z (by simp) z (List.mem_append.2 (.inl hz)) rfl
  ·exact h8 z hz z (hin z hm) rfl
  ·exact hm (by unfold qK.fp;exact List.mem_append_right _ (List.mem_append_left _ hz))
 ·have hy':y∈L.bs.set i b':=hy;obtain ⟨j,hj⟩:=List.mem_iff_getElem?.1 hy';rw [List.getElem?_set] at hj
  split at hj
  ·cases hj;exact hb'
  ·rename_i hne
   refine (h.bk y (List.mem_of_getElem? hj)).only ho (fun z hz hm=>?_)
   rcases hS z hm with rfl | hm | hm
   ·exact h6 z (by simp) z (List.mem_append.2 (.inr (List.mem_flatMap.2 ⟨y,List.mem_of_getElem? hj,hz⟩))) rfl
   ·exact zFq h7 hb hj hne z hm hz
   ·exact hm (by unfold qK.fp;exact List.mem_append_right _ (List.mem_append_right _ (List.mem_flatMap.2 ⟨y,List.mem_of_getElem? hj,hz⟩)))
 ·show (blk L.pb ++ (blk L.pf ++ (L.bs.set i b').flatMap LBk.fp)).Nodup;have hnd1:((blk L.pb ++ blk L.pf) ++ L.bs.flatMap LBk.fp).Nodup:=(by rw [List.append_assoc];exact h.nd);have:=zFn (N:=w.heap.size) hb hnd1 (fun z hz=>(hlo z (by unfold qK.fp;rw [List.append_assoc] at hz;exact hz)).2) hb'.nd hfp
  rwa [List.append_assoc] at this
def BkT (w0:World) (B g o:Nat) (cur:List Value) (b:LBk) (oc:yA) (bb:jE):Value→World→Prop:=fun v w=>v=.agg #[.int .i64 oc.code,.string (str oc.etag)]∧∃ b1 cur1,b1.b=bb∧Row w g 60 cur1∧jF o cur1 (zD b1)∧Outside o 5 cur cur1∧qZ w B b1∧∀ z∈b1.fp,z∈b.fp∨w0.heap.size≤z
theorem BkT.stable {w0:World} {B g o:Nat} {cur:List Value} {b:LBk} {oc:yA} {bb:jE}:Stable (Only []) (BkT w0 B g o cur b oc bb):=fun _ _ _ ⟨h0,b1,cur1,h1,h2,h3,h4,h5,h6⟩ ho=>⟨h0,b1,cur1,h1,h2.zB ho,h3,h4,h5.zB ho,h6⟩
theorem BkT.jC {S:List Nat} {w0:World} {B g o:Nat} {cur:List Value} {b:LBk} {oc:yA} {bb:jE} (hS:∀ s∈S,s≠g∧s ∉ b.fp∧s < w0.heap.size):Stable (Only S) (BkT w0 B g o cur b oc bb):=fun _ _ _ ⟨h0,b1,cur1,h1,h2,h3,h4,h5,h6⟩ ho =>
 ⟨h0,b1,cur1,h1,h2.only ho (fun hm=>(hS g hm).1 rfl),h3,h4,h5.only ho (fun z hz hm=>by
  have:=hS z hm
  rcases h6 z hz with h | h
  ·exact this.2.1 h
  ·omega),h6⟩
def BkE (w0:World) (B g o:Nat) (cur:List Value) (b:LBk) (oc:yA) (bb:jE) (k:Nat) (t:TypeId) (vs:List Value):Value→World→Prop:=fun _ w=>BkT w0 B g o cur b oc bb (.agg #[.int .i64 oc.code,.string (str oc.etag)]) w∧Row w k t vs
theorem BkE.stable {w0:World} {B g o:Nat} {cur:List Value} {b:LBk} {oc:yA} {bb:jE} {k:Nat} {t:TypeId} {vs:List Value}:Stable (Only []) (BkE w0 B g o cur b oc bb k t vs):=fun _ _ _ ⟨h1,h2⟩ ho=>⟨BkT.stable _ _ _ h1 ho,h2.zB ho⟩
theorem zDu {c:Cat} {x:Cmd} (hk:x.kind≠1∧x.kind≠10∧x.kind≠11):apply smL c x=match c.qJ[qV jE.name lt c.qJ x.bucket]? with
  | none=>(c,⟨1,[]⟩)
  | some b =>
   if b.name≠x.bucket then (c,⟨1,[]⟩)
   else if x.kind=2 then
    (if 0 < b.vC.length+b.xE.length then (c,⟨5,[]⟩) else ({ c with qJ:=c.qJ.eraseIdx (qV jE.name lt c.qJ x.bucket) },⟨0,[]⟩))
   else ({ c with qJ:=c.qJ.set (qV jE.name lt c.qJ x.bucket) (jA smL b x).1 },(jA smL b x).2):=by
 unfold apply;rw [if_neg hk.1,if_neg hk.2.1,if_neg hk.2.2]
 cases c.qJ[qV jE.name lt c.qJ x.bucket]? <;> rfl
theorem zHu {C:qK} {m:zS} {i:Nat} (hk:m.x.kind≠1∧m.x.kind≠10∧m.x.kind≠11) (hi:qV LBk.name lt C.bs m.x.bucket=i) (h:qC LBk.name lt C.bs m.x.bucket=false):apply smL C.cat m.x=(C.cat,⟨1,[]⟩):=by
 have hp:qV jE.name lt C.cat.qJ m.x.bucket=i:=(zAl (key:=LBk.name) LBk.b (fun _=>rfl) C.bs m.x.bucket).trans hi;rw [zDu hk,hp,show C.cat.qJ=C.bs.map LBk.b from rfl,List.getElem?_map]
 cases hb:C.bs[i]? with
 | none=>rfl
 | some b =>
  have hne:b.b.name≠m.x.bucket:=fun e=>by
   unfold qC at h;rw [hi,hb] at h;exact of_decide_eq_false h e
  show (if b.b.name≠m.x.bucket then _ else _)=_;rw [if_pos hne]
theorem zHY {C:qK} {m:zS} {i:Nat} {b:LBk} (hk:m.x.kind≠1∧m.x.kind≠10∧m.x.kind≠11) (hi:qV LBk.name lt C.bs m.x.bucket=i) (hb:C.bs[i]?=some b) (hn:b.name=m.x.bucket):apply smL C.cat m.x=if m.x.kind=2 then
    (if 0 < b.os.length+b.us.length then (C.cat,⟨5,[]⟩) else ({ C.cat with qJ:=(C.bs.eraseIdx i).map LBk.b },⟨0,[]⟩))
   else ({ C.cat with qJ:=(C.bs.map LBk.b).set i (jA smL b.b m.x).1 },(jA smL b.b m.x).2):=by
 have hp:qV jE.name lt C.cat.qJ m.x.bucket=i:=(zAl (key:=LBk.name) LBk.b (fun _=>rfl) C.bs m.x.bucket).trans hi;rw [zDu hk,hp,show C.cat.qJ=C.bs.map LBk.b from rfl,List.getElem?_map,hb];show (if b.b.name≠m.x.bucket then _ else _)=_;rw [if_neg (fun h=>h hn),show b.b.vC.length=b.os.length from List.length_map ..,show b.b.xE.length=b.us.length from List.length_map ..,vX]
set_option maxHeartbeats 16000000 in
theorem zHo (L:qK) (m:zS) (w0:World) (hA:zBX w0 L) (hok:xS L.cat) (hx:xJ m.x) (hca:jS w0 m) (hk:m.x.kind≠1∧m.x.kind≠10∧m.x.kind≠11) :
  Calls Tryz.prog 16 #[lcV L,lmV m] w0 (zDC L m w0):=by
 obtain ⟨kd,hkd⟩:∃ k,m.x.kind=k:=⟨_,rfl⟩;obtain ⟨nb,hnb⟩:∃ n,L.bs.length=n:=⟨_,rfl⟩;obtain ⟨nf,hnf⟩:∃ n,L.fs.length=n:=⟨_,rfl⟩;obtain ⟨np,hnp⟩:∃ n,m.x.parts.length=n:=⟨_,rfl⟩;obtain ⟨w1,hw1⟩:∃ w1,w1=w0.alloc (.cells #[.slice L.pb nb L.cb,.slice L.pf nf L.cf] 29):=⟨_,rfl⟩;have o1:Only [] w0 w1:=(by rw [hw1];exact Only.alloc _ _);have s1:w1.heap.size=w0.heap.size+1:=(by rw [hw1];simp);have r1:Row w1 (w0.heap.size) 29 [.slice L.pb nb L.cb,.slice L.pf nf L.cf]:=(by rw [hw1];exact Row.zV _ _ _ _ rfl);obtain ⟨w2,hw2⟩:∃ w2,w2=w1.alloc (.cells #[.int .i64 kd,.int .i64 m.x.id.node,.int .i64 m.x.id.boot,.int .i64 m.x.id.seq,.string (str m.x.bucket),.string (str m.x.key),.int .i64 m.x.upload.node,.int .i64 m.x.upload.boot,.int .i64 m.x.upload.seq,.int .i64 m.x.piece.blob.node,.int .i64 m.x.piece.blob.boot,.int .i64 m.x.piece.blob.seq,.int .i64 m.x.piece.size,.string (str m.x.piece.etag),.int .i64 m.x.part,.slice m.p np m.c,.int .i64 m.x.time,.int .i64 m.x.days] 36):=⟨_,rfl⟩
 have o2:Only [] w1 w2:=(by rw [hw2];exact Only.alloc _ _);have s2:w2.heap.size=w0.heap.size+1+1:=(by rw [hw2];simp [s1]);have r2:Row w2 (w0.heap.size+1) 36 [.int .i64 kd,.int .i64 m.x.id.node,.int .i64 m.x.id.boot,.int .i64 m.x.id.seq,.string (str m.x.bucket),.string (str m.x.key),.int .i64 m.x.upload.node,.int .i64 m.x.upload.boot,.int .i64 m.x.upload.seq,.int .i64 m.x.piece.blob.node,.int .i64 m.x.piece.blob.boot,.int .i64 m.x.piece.blob.seq,.int .i64 m.x.piece.size,.string (str m.x.piece.etag),.int .i64 m.x.part,.slice m.p np m.c,.int .i64 m.x.time,.int .i64 m.x.days]:=by rw [← s1,hw2];exact Row.zV _ _ _ _ rfl
 obtain ⟨w3,hw3⟩:∃ w3,w3=w2.alloc (.cells #[.slice none 0 0,.slice none 0 0] 29):=⟨_,rfl⟩;have o3:Only [] w2 w3:=(by rw [hw3];exact Only.alloc _ _);have s3:w3.heap.size=w0.heap.size+1+1+1:=(by rw [hw3];simp [s2]);have r3:Row w3 (w0.heap.size+1+1) 29 [.slice none 0 0,.slice none 0 0]:=(by rw [← s2,hw3];exact Row.zV _ _ _ _ rfl);obtain ⟨w4,hw4⟩:∃ w4,w4=w3.alloc (.cells #[.int .i64 0,.string ⟨#[]⟩] 38):=⟨_,rfl⟩;have o4:Only [] w3 w4:=(by rw [hw4];exact Only.alloc _ _);have s4:w4.heap.size=w0.heap.size+1+1+1+1:=by rw [hw4];simp [s3]
 have r4:Row w4 (w0.heap.size+1+1+1) 38 [.int .i64 0,.string ⟨#[]⟩]:=(by rw [← s3,hw4];exact Row.zV _ _ _ _ rfl);replace r1:=r1.zB ((o2.zC o3).zC o4);replace r2:=r2.zB (o3.zC o4);replace r3:=r3.zB o4;have oAll:Only [] w0 w4:=(((o1.zC o2).zC o3).zC o4);rw [hw1] at hw2;rw [hw2] at hw3;rw [hw3] at hw4;have hcp:=zAy L w4 (hA.zB oAll) (zBz hok);rw [show lcV L=.agg #[.slice L.pb nb L.cb,.slice L.pf nf L.cf] by unfold lcV;rw [hnb,hnf]] at hcp;have HCP:=Lib.hid hcp;have Hr1:=Lib.hid r1;have Hr2:=Lib.hid r2
 have Hr3:=Lib.hid r3;have Hr4:=Lib.hid r4;have HO:=Lib.hid oAll;have Hw:=Lib.hid hw4;have Hsz:Hid (w4.heap.size=w0.heap.size+1+1+1+1):=Lib.hid s4;have HH:Hid (xS L.cat∧xJ m.x∧jS w0 m∧m.x.parts.length=np∧m.x.kind=kd):=Lib.hid ⟨hok,hx,hca,hnp,hkd⟩;have Hk:=Lib.hid hk;rw [show lcV L=.agg #[.slice L.pb nb L.cb,.slice L.pf nf L.cf] by unfold lcV;rw [hnb,hnf],show lmV m=.agg #[.int .i64 kd,.int .i64 m.x.id.node,.int .i64 m.x.id.boot,.int .i64 m.x.id.seq,.string (str m.x.bucket),.string (str m.x.key),.int .i64 m.x.upload.node,.int .i64 m.x.upload.boot,.int .i64 m.x.upload.seq,.int .i64 m.x.piece.blob.node,.int .i64 m.x.piece.blob.boot,.int .i64 m.x.piece.blob.seq,.int .i64 m.x.piece.size,.string (str m.x.piece.etag),.int .i64 m.x.part,.slice m.p np m.c,.int .i64 m.x.time,.int .i64 m.x.days] by unfold lmV;rw [hnp,hkd]]
 have c0:=Hr1.out.cell (i:=0) rfl;have c1:=Hr1.out.cell (i:=1) rfl;clear hnb hnf hnp hkd hk hA hok hx hca r1 r2 r3 r4 oAll hw4 s4 s3 s2 s1 o1 o2 o3 o4 hw1 hw2 hw3 hcp
 go_enter Tryz.func16,Tryz.ntmps16
 go_upto_region 1 with (fail)
 rw [← Hw.out];clear Hw;go_wp2_with fail;refine HCP.out.mono ?_;rintro e w5 ⟨C,rfl,hcc,hown,o5⟩;clear HCP c0 c1;obtain ⟨cb,hcb⟩:∃ n,C.bs.length=n:=⟨_,rfl⟩;obtain ⟨cf,hcf⟩:∃ n,C.fs.length=n:=⟨_,rfl⟩;rw [show lcV C=.agg #[.slice C.pb cb C.cb,.slice C.pf cf C.cf] by unfold lcV;rw [hcb,hcf]];obtain ⟨w6,hw6⟩:∃ w6,w6=w5.alloc (.cells #[.slice C.pb cb C.cb,.slice C.pf cf C.cf] 29):=⟨_,rfl⟩;have o6:Only [] w5 w6:=(by rw [hw6];exact Only.alloc _ _);have r6:Row w6 w5.heap.size 29 [.slice C.pb cb C.cb,.slice C.pf cf C.cf]:=by rw [hw6];exact Row.zV _ _ _ _ rfl
 obtain ⟨X6,hX6⟩:∃ X,w5.heap.size=X:=⟨_,rfl⟩;rw [hX6] at r6;have HO6:=Lib.hid ((HO.out.zC o5).zC o6);have H46:=Lib.hid (o5.zC o6);have Hr6:=Lib.hid r6;have HX6:Hid (w4.heap.size≤X6∧∀ z∈C.fp,w4.heap.size≤z∧z < X6):=Lib.hid ⟨by rw [← hX6];exact o5.size,fun z hz=>by rw [← hX6];exact hown.lo z hz⟩;have HC:Hid (C.cat=L.cat∧qA w6 w4.heap.size C∧C.bs.length=cb∧C.fs.length=cf):=Lib.hid ⟨hcc,hown.zB o6,hcb,hcf⟩;have hz2:=Hr2.out.zB H46.out;have Hw6:=Lib.hid hw6;have HX6e:=Lib.hid hX6;have m0:=hz2.cell (i:=0) rfl
 have m4:=hz2.cell (i:=4) rfl;have c0:=r6.cell (i:=0) rfl;have c1:=r6.cell (i:=1) rfl;clear hcc hown o5 hcb hcf o6 r6 hX6 hw6 hz2
 go_upto_region 2 with (fail)
 rw [← Hw6.out];clear Hw6;have hX6:=HX6e.out;have hkd:=HH.out.2.2.2.2;have hkk:=Hk.out;rw [hkd] at hkk;have q1:(kd == (1:Int))=false:=beq_eq_false_iff_ne.2 hkk.1;have q10:(kd == (10:Int))=false:=beq_eq_false_iff_ne.2 hkk.2.1;have q11:(kd == (11:Int))=false:=beq_eq_false_iff_ne.2 hkk.2.2;obtain ⟨i,hi⟩:∃ i,qV LBk.name lt C.bs m.x.bucket=i:=⟨_,rfl⟩;obtain ⟨th,hth⟩:∃ th,qC LBk.name lt C.bs m.x.bucket=th:=⟨_,rfl⟩;have hbs:jD LBk.name lt C.bs:=zAM (key:=LBk.name) LBk.b (fun _=>rfl) (by show jD jE.name lt C.cat.qJ;rw [HC.out.1];exact HH.out.1.bs)
 have hbl:cb≤16:=(by have h:=HH.out.1.bl;rw [← HC.out.1,show C.cat.qJ.length=C.bs.length from List.length_map ..,HC.out.2.2.1] at h;exact h);have hfd:=zDH C.pb cb C.cb C.bs m.x.bucket w6 HC.out.2.2.1 (by omega) (fun h0=>by rw [← HC.out.2.2.1];exact (HC.out.2.1.sb.view.2.2.2.1 h0).1) HC.out.2.1.sb.view.2.2.1 hbs;rw [hi,hth] at hfd;have HF:=Lib.hid hfd;have HY:Hid (qV LBk.name lt C.bs m.x.bucket=i∧qC LBk.name lt C.bs m.x.bucket=th):=Lib.hid ⟨hi,hth⟩;have Happ:Hid (apply smL L.cat m.x=apply smL C.cat m.x):=Lib.hid (by rw [HC.out.1]);clear hkd hkk hi hth hbs hfd
 go_wp2_with fail;clear q1 q10 q11;refine HF.out.mono ?_;rintro e w7 ⟨rfl,o7⟩;clear HF m4 c0 c1;have HO7:=Lib.hid o7;have hsz4:=Hsz.out;have hX4:=HX6.out.1;have hc7:=Hr6.out.zB o7;have c0:=hc7.cell (i:=0) rfl;have c1:=hc7.cell (i:=1) rfl;clear hc7
 cases th with
 | false =>
  have hno:=zHu (m:=m) Hk.out HY.out.1 HY.out.2;have Hno:=Lib.hid hno;have Hz3:=Lib.hid (Hr3.out.zB (H46.out.zC o7));have Hz4:=Lib.hid (Hr4.out.zB (H46.out.zC o7));have HB0:=Lib.hid (Hr6.out.zB o7);have HXo:Hid (qA w7 w4.heap.size C∧(∀ z∈C.fp,w4.heap.size≤z)∧Only [] w0 w7):=Lib.hid ⟨HC.out.2.1.zB o7,fun z hz=>(HX6.out.2 z hz).1,HO6.out.zC o7⟩;clear hno o7 c0 c1
  go_upto_region 14 with (fail)
  have hRr:∀ x,(Only [w0.heap.size+1+1,w0.heap.size+1+1+1]) x x:=fun x=>Only.refl _ _;have hRt:∀ x b e,(Only [w0.heap.size+1+1,w0.heap.size+1+1+1]) x b→(Only [w0.heap.size+1+1,w0.heap.size+1+1+1]) b e→(Only [w0.heap.size+1+1,w0.heap.size+1+1+1]) x e:=fun _ _ _ h k=>h.trans k (fun _ h _=>h);have hRd:(Only [w0.heap.size+1+1,w0.heap.size+1+1+1]) w7 w7.drew:=(Only.drew _).mono (by simp)
  have hRs:∀ j w,zZ [(2,Only [w0.heap.size+1+1]),(3,Only [w0.heap.size+1+1+1])] j w w:=zZ.refl (by
   intro x hx w;simp only [List.mem_cons,List.not_mem_nil,or_false] at hx
   rcases hx with rfl | rfl <;> exact Only.refl _ _)
  have hC0:∀ d∈[2,3],(fun (i:Nat) (a:World)=>(i=2→Row a (w0.heap.size+1+1) 29 [.slice none 0 0,.slice none 0 0])∧(i=3→Row a (w0.heap.size+1+1+1) 38 [.int .i64 0,.string ⟨#[]⟩])) d w7.drew:=fun _ _=>⟨fun _=>Hz3.out.zB (Only.drew _),fun _=>Hz4.out.zB (Only.drew _)⟩;refine zU (Only [w0.heap.size+1+1,w0.heap.size+1+1+1]) (zZ [(2,Only [w0.heap.size+1+1]),(3,Only [w0.heap.size+1+1+1])]) (fun (i:Nat) (a:World)=>(i=2→Row a (w0.heap.size+1+1) 29 [.slice none 0 0,.slice none 0 0])∧(i=3→Row a (w0.heap.size+1+1+1) 38 [.int .i64 0,.string ⟨#[]⟩])) [2,3] [[(6,none)],[],[(4,none),(74,some 1)],[(5,none),(75,some 1)]] [] [1,0] [none,none,none,none,none,none,none,none,none,none,none,none,none,none,none,none,none,none,none,none,none,none,none,none,none,none,none,none,none,none,none,none,none,none,none,none,none,none,none,none,none,none,none,none,none,none,none,none,none,none,none,none,none,none,none,none,none,none,none,none,none,none,none,none,none,none,none,none,none,none,none,none,none,none,some 74,some 75,none,none,none,none,none,none,none,none,none,none,none,none,none,none,none,none,none,none,none,none,none,none,none,none,none,none,none,none,none,none,none,none,none,none,none,none,none] (by kernel_rfl) rfl (by kernel_rfl) hRr hRt hRs hRd hC0 (by kernel_rfl) (by kernel_rfl) ?_
  apply zF
  ·rintro a w hR hC ⟨(e6:_=_),-⟩;refine zA rfl fun K hK=>?_;have hA:=HB0.out.only hR (by have h9:=HX6.out.1;have h10:=Hsz.out;simp <;> omega);have g0:=hA.cell (i:=0) rfl;have g1:=hA.cell (i:=1) rfl;go_simp;exact hK _ _ rfl ⟨hRr _,hRs _ _,fun _ _ _ _ h=>h⟩
  apply zF
  ·intro a w hR hC hf;refine zA rfl fun K hK=>?_;go_simp;(with_reducible refine (yB 1 w).mono ?_);rintro e w' ⟨rfl,o'⟩;exact hK _ _ rfl ⟨o'.mono (by simp),o',fun i _ _ _ hc=>⟨fun e=>(hc.1 e).zB o',fun e=>(hc.2 e).zB o'⟩⟩
  refine ⟨qH (w0.heap.size+1+1) 29 [.slice C.pb cb C.cb,.slice C.pf cf C.cf],zL qH.stable (by intro x hx hk;simp only [List.mem_cons,List.not_mem_nil,or_false] at hx;rcases hx with rfl | rfl <;> first | (refine qH.jC ?_;simp <;> omega;done) | exact Bool.noConfusion (hk.symm.trans (by kernel_rfl:_=true))),fun a w hR hC hf=>?_,?_⟩
  ·obtain ⟨e4,e74,-⟩:=hf;replace e4:a.tmps.getD 4 undef=_:=e4;replace e74:a.tmps.getD 74 undef=_:=e74;refine zA rfl fun K hK=>?_;have rz:=(hC 2 (by simp) (by kernel_rfl)).1 rfl;have zc0:=rz.cell (i:=0) rfl;have zc1:=rz.cell (i:=1) rfl;have zf0:=rz.free 0;have zf1:=rz.free 1;go_simp;have hst:=qB w (w0.heap.size+1+1) (.slice C.pb cb C.cb) (.slice C.pf cf C.cf);refine hK undef _ (Row.set2 rz _ _) ⟨hst.mono (by simp),hst,fun i hi hne ha hc=>⟨fun e=>(hc.1 e).only hst (by first | exact absurd e hne | (simp <;> omega)),fun e=>(hc.2 e).only hst (by first | exact absurd e hne | (simp <;> omega))⟩⟩
  refine ⟨qH (w0.heap.size+1+1+1) 38 [.int .i64 1,.string (str [])],zL qH.stable (by intro x hx hk;simp only [List.mem_cons,List.not_mem_nil,or_false] at hx;rcases hx with rfl | rfl <;> first | (refine qH.jC ?_;simp <;> omega;done) | exact Bool.noConfusion (hk.symm.trans (by kernel_rfl:_=true))),fun a w hR hC hf=>?_,?_⟩
  ·obtain ⟨e5,e75,-⟩:=hf;replace e5:a.tmps.getD 5 undef=_:=e5;replace e75:a.tmps.getD 75 undef=_:=e75;refine zA rfl fun K hK=>?_;have rz:=(hC 3 (by simp) (by kernel_rfl)).2 rfl;have zc0:=rz.cell (i:=0) rfl;have zc1:=rz.cell (i:=1) rfl;have zf0:=rz.free 0;have zf1:=rz.free 1;go_simp;have hst:=qB w (w0.heap.size+1+1+1) (.int .i64 1) (.string (str []));refine hK undef _ (Row.set2 rz _ _) ⟨hst.mono (by simp),hst,fun i hi hne ha hc=>⟨fun e=>(hc.1 e).only hst (by first | exact absurd e hne | (simp <;> omega)),fun e=>(hc.2 e).only hst (by first | exact absurd e hne | (simp <;> omega))⟩⟩
  intro fEBa wEBa hREBa hf hlEBa;dsimp only [qE];obtain ⟨l2,l3,-⟩:=hlEBa;replace l2:∃ v,(qH (w0.heap.size+1+1) 29 [.slice C.pb cb C.cb,.slice C.pf cf C.cf]) v wEBa:=l2;replace l3:∃ v,(qH (w0.heap.size+1+1+1) 38 [.int .i64 1,.string (str [])]) v wEBa:=l3;obtain ⟨_,l2⟩:=l2;obtain ⟨_,l3⟩:=l3;replace l2:Row wEBa (w0.heap.size+1+1) 29 [.slice C.pb cb C.cb,.slice C.pf cf C.cf]:=l2;replace l3:Row wEBa (w0.heap.size+1+1+1) 38 [.int .i64 1,.string (str [])]:=l3;have hsz9:=Hsz.out;have oE:Only [] w0 wEBa:=HXo.out.2.2.zY hREBa (by simp;omega)
  have hE:=(HXo.out.1.only hREBa (fun z hz hm=>by have h9:=HXo.out.2.1 z hz;simp only [List.mem_cons,List.not_mem_nil,or_false] at hm;omega)).weaken (show w0.heap.size≤w4.heap.size by omega);have HE:=Lib.hid (show qA wEBa w0.heap.size C∧Only [] w0 wEBa from ⟨hE,oE⟩);clear hREBa hRr hRt hRd hRs hC0 hE oE;go_wp2_with fail;refine bodyPost_ret (xD rfl _ _ _ _ rfl rfl l2 l3 Tryz.underlying29 vL Tryz.underlying38 jH) rfl ⟨C,⟨1,[]⟩,?_,HE.out.1,?_,HE.out.2⟩
  ·unfold lcV xM;dsimp only;rw [HC.out.2.2.1,HC.out.2.2.2]
  ·rw [Happ.out,Hno.out]
 | true =>
  obtain ⟨b,hb,hbn⟩:=jQ HY.out.2;rw [HY.out.1] at hb;have hyes:=zHY (m:=m) Hk.out HY.out.1 hb hbn;have hilt:i < cb:=(by have:=(List.getElem?_eq_some_iff.1 hb).1;have:=HC.out.2.2.1;omega);obtain ⟨g,-,hpb,-,-⟩:=HC.out.2.1.sb.rowOf (by have:=HC.out.2.2.1;omega);have hsb:zN w6 w4.heap.size 60 5 (.slice (some ⟨g,0,none⟩) C.bs.length C.cb) C.bs.length (C.bs.flatMap zD):=(by have h:=HC.out.2.1.sb;rw [hpb] at h;exact h);obtain ⟨rest,hrw,hrl,-,-,-,-⟩:=hsb.row;have hra:=jZ (rest:=rest) zQ hb;obtain ⟨U,hU⟩:∃ U,U=C.bs.flatMap zD ++ rest:=⟨_,rfl⟩
  rw [← hU] at hrw hrl hra;have hbm:=List.mem_of_getElem? hb;have hbo:=HC.out.2.1.bk b hbm;have hgC:g∈C.fp:=(by unfold qK.fp;rw [hpb];simp [blk]);have hbC:∀ z∈b.fp,z∈C.fp:=fun z hz=>by unfold qK.fp;exact List.mem_append_right _ (List.mem_append_right _ (List.mem_flatMap.2 ⟨b,hbm,hz⟩))
  have hgb:g ∉ b.fp:=fun h=>by
   have h5:=HC.out.2.1.nd;unfold qK.fp at h5;rw [hpb] at h5;exact (List.nodup_append.1 h5).2.2 g (by simp [blk]) g (List.mem_append_right _ (List.mem_flatMap.2 ⟨b,hbm,h⟩)) rfl
  have hbk:yO b.b:=HH.out.1.bk _ (by rw [← HC.out.1];exact List.mem_map_of_mem hbm);have hii:(i:Int) < (cb:Int):=(by omega);obtain ⟨no,hno⟩:∃ n,b.os.length=n:=⟨_,rfl⟩;obtain ⟨nu,hnu⟩:∃ n,b.us.length=n:=⟨_,rfl⟩;have hnol:no≤128:=(by have:=hbk.ol;rw [show b.b.vC.length=b.os.length from List.length_map ..] at this;omega);have hnul:nu≤16:=(by have:=hbk.ul;rw [show b.b.xE.length=b.us.length from List.length_map ..] at this;omega);have hatc:=hra;unfold zD at hatc;rw [hno,hnu] at hatc;have y3:=hatc.cell (hrw.zB o7) (r:=3) rfl
  have y4:=hatc.cell (hrw.zB o7) (r:=4) rfl;have HG:Hid (C.bs[i]?=some b∧C.pb=some ⟨g,0,none⟩∧U=C.bs.flatMap zD ++ rest∧U.length=C.cb * 5∧jF (i * 5) U (zD b)∧qZ w6 w4.heap.size b∧g∈C.fp∧(∀ z∈b.fp,z∈C.fp)∧g ∉ b.fp∧yO b.b∧b.os.length=no∧b.us.length=nu∧Row w6 g 60 U∧jF (i * 5) U [.string (str b.name),.int .i64 b.time,.int .i64 b.days,.slice b.po no b.co,.slice b.pu nu b.cu]):=Lib.hid ⟨hb,hpb,hU,hrl,hra,hbo,hgC,hbC,hgb,hbk,hno,hnu,hrw,hatc⟩;have Hyes:=Lib.hid (show apply smL C.cat m.x=if m.x.kind=2 then (if 0 < no+nu then (C.cat,⟨5,[]⟩) else ({ C.cat with qJ:=(C.bs.eraseIdx i).map LBk.b },⟨0,[]⟩)) else ({ C.cat with qJ:=(C.bs.map LBk.b).set i (jA smL b.b m.x).1 },(jA smL b.b m.x).2) by rw [hyes,hno,hnu])
  rw [hpb] at c0;clear hb hbn hyes hilt hsb hrw hrl hra hU hbm hbo hgC hbC hgb hbk hatc hpb hno hnu
  by_cases hk2:kd=2
  ·subst hk2;have m0:=(Hr2.out.zB (H46.out.zC o7)).cell (i:=0) rfl;have hw1:IntKind.i64.wrap ((no:Int)+(nu:Int))=(no:Int)+(nu:Int):=(by rw [IntKind.wrap_i64];omega);have hw2:wrap64 ((no:Int)+(nu:Int))=(no:Int)+(nu:Int):=IntWalk.wrap64_in _ (by omega)
   go_upto_region 16 with (fail)
   go_quiet (fail)
   have hoq:Only [] w7 (w7.drewN nq):=Only.drewN _ _;obtain ⟨wq,hwq⟩:∃ wq,wq=w7.drewN nq:=⟨_,rfl⟩;rw [← hwq] at hoq ⊢;have HOq:=Lib.hid (HO7.out.zC hoq);clear hwq hoq y3 y4 m0 c0 c1 o7 hw1 hw2
   by_cases hz:0 < no+nu
   ·have hzi:(0:Int) < (no:Int)+(nu:Int):=(by omega);have Hr:=Lib.hid (show apply smL C.cat m.x=(C.cat,⟨5,[]⟩) by rw [Hyes.out,if_pos HH.out.2.2.2.2,if_pos hz]);have Hz3:=Lib.hid (Hr3.out.zB (H46.out.zC HOq.out));have Hz4:=Lib.hid (Hr4.out.zB (H46.out.zC HOq.out));have HB0:=Lib.hid (Hr6.out.zB HOq.out);have HXo:Hid (qA wq w4.heap.size C∧(∀ z∈C.fp,w4.heap.size≤z)∧Only [] w0 wq):=Lib.hid ⟨HC.out.2.1.zB HOq.out,fun z hz=>(HX6.out.2 z hz).1,HO6.out.zC HOq.out⟩;clear hz
    go_upto_region 17 with (fail)
    have hRr:∀ x,(Only [w0.heap.size+1+1,w0.heap.size+1+1+1]) x x:=fun x=>Only.refl _ _;have hRt:∀ x b e,(Only [w0.heap.size+1+1,w0.heap.size+1+1+1]) x b→(Only [w0.heap.size+1+1,w0.heap.size+1+1+1]) b e→(Only [w0.heap.size+1+1,w0.heap.size+1+1+1]) x e:=fun _ _ _ h k=>h.trans k (fun _ h _=>h);have hRd:(Only [w0.heap.size+1+1,w0.heap.size+1+1+1]) wq wq.drew:=(Only.drew _).mono (by simp)
    have hRs:∀ j w,zZ [(2,Only [w0.heap.size+1+1]),(3,Only [w0.heap.size+1+1+1])] j w w:=zZ.refl (by
     intro x hx w;simp only [List.mem_cons,List.not_mem_nil,or_false] at hx
     rcases hx with rfl | rfl <;> exact Only.refl _ _)
    have hC0:∀ d∈[2,3],(fun (i:Nat) (a:World)=>(i=2→Row a (w0.heap.size+1+1) 29 [.slice none 0 0,.slice none 0 0])∧(i=3→Row a (w0.heap.size+1+1+1) 38 [.int .i64 0,.string ⟨#[]⟩])) d wq.drew:=fun _ _=>⟨fun _=>Hz3.out.zB (Only.drew _),fun _=>Hz4.out.zB (Only.drew _)⟩;refine zU (Only [w0.heap.size+1+1,w0.heap.size+1+1+1]) (zZ [(2,Only [w0.heap.size+1+1]),(3,Only [w0.heap.size+1+1+1])]) (fun (i:Nat) (a:World)=>(i=2→Row a (w0.heap.size+1+1) 29 [.slice none 0 0,.slice none 0 0])∧(i=3→Row a (w0.heap.size+1+1+1) 38 [.int .i64 0,.string ⟨#[]⟩])) [2,3] [[(6,none)],[],[(4,none),(95,some 1)],[(5,none),(96,some 1)]] [] [1,0] [none,none,none,none,none,none,none,none,none,none,none,none,none,none,none,none,none,none,none,none,none,none,none,none,none,none,none,none,none,none,none,none,none,none,none,none,none,none,none,none,none,none,none,none,none,none,none,none,none,none,none,none,none,none,none,none,none,none,none,none,none,none,none,none,none,none,none,none,none,none,none,none,none,none,none,none,none,none,none,none,none,none,none,none,none,none,none,none,none,none,none,none,none,none,none,some 95,some 96,none,none,none,none,none,none,none,none,none,none,none,none,none,none,none,none] (by kernel_rfl) rfl (by kernel_rfl) hRr hRt hRs hRd hC0 (by kernel_rfl) (by kernel_rfl) ?_
    apply zF
    ·rintro a w hR hC ⟨(e6:_=_),-⟩;refine zA rfl fun K hK=>?_;have hA:=HB0.out.only hR (by have h9:=HX6.out.1;have h10:=Hsz.out;simp <;> omega);have g0:=hA.cell (i:=0) rfl;have g1:=hA.cell (i:=1) rfl;go_simp;exact hK _ _ rfl ⟨hRr _,hRs _ _,fun _ _ _ _ h=>h⟩
    apply zF
    ·intro a w hR hC hf;refine zA rfl fun K hK=>?_;go_simp;(with_reducible refine (yB 5 w).mono ?_);rintro e w' ⟨rfl,o'⟩;exact hK _ _ rfl ⟨o'.mono (by simp),o',fun i _ _ _ hc=>⟨fun e=>(hc.1 e).zB o',fun e=>(hc.2 e).zB o'⟩⟩
    refine ⟨qH (w0.heap.size+1+1) 29 [.slice C.pb cb C.cb,.slice C.pf cf C.cf],zL qH.stable (by intro x hx hk;simp only [List.mem_cons,List.not_mem_nil,or_false] at hx;rcases hx with rfl | rfl <;> first | (refine qH.jC ?_;simp <;> omega;done) | exact Bool.noConfusion (hk.symm.trans (by kernel_rfl:_=true))),fun a w hR hC hf=>?_,?_⟩
    ·obtain ⟨e4,e95,-⟩:=hf;replace e4:a.tmps.getD 4 undef=_:=e4;replace e95:a.tmps.getD 95 undef=_:=e95;refine zA rfl fun K hK=>?_;have rz:=(hC 2 (by simp) (by kernel_rfl)).1 rfl;have zc0:=rz.cell (i:=0) rfl;have zc1:=rz.cell (i:=1) rfl;have zf0:=rz.free 0;have zf1:=rz.free 1;go_simp;have hst:=qB w (w0.heap.size+1+1) (.slice C.pb cb C.cb) (.slice C.pf cf C.cf);refine hK undef _ (Row.set2 rz _ _) ⟨hst.mono (by simp),hst,fun i hi hne ha hc=>⟨fun e=>(hc.1 e).only hst (by first | exact absurd e hne | (simp <;> omega)),fun e=>(hc.2 e).only hst (by first | exact absurd e hne | (simp <;> omega))⟩⟩
    refine ⟨qH (w0.heap.size+1+1+1) 38 [.int .i64 5,.string (str [])],zL qH.stable (by intro x hx hk;simp only [List.mem_cons,List.not_mem_nil,or_false] at hx;rcases hx with rfl | rfl <;> first | (refine qH.jC ?_;simp <;> omega;done) | exact Bool.noConfusion (hk.symm.trans (by kernel_rfl:_=true))),fun a w hR hC hf=>?_,?_⟩
    ·obtain ⟨e5,e96,-⟩:=hf;replace e5:a.tmps.getD 5 undef=_:=e5;replace e96:a.tmps.getD 96 undef=_:=e96;refine zA rfl fun K hK=>?_;have rz:=(hC 3 (by simp) (by kernel_rfl)).2 rfl;have zc0:=rz.cell (i:=0) rfl;have zc1:=rz.cell (i:=1) rfl;have zf0:=rz.free 0;have zf1:=rz.free 1;go_simp;have hst:=qB w (w0.heap.size+1+1+1) (.int .i64 5) (.string (str []));refine hK undef _ (Row.set2 rz _ _) ⟨hst.mono (by simp),hst,fun i hi hne ha hc=>⟨fun e=>(hc.1 e).only hst (by first | exact absurd e hne | (simp <;> omega)),fun e=>(hc.2 e).only hst (by first | exact absurd e hne | (simp <;> omega))⟩⟩
    intro fEBb wEBb hREBb hf hlEBb;dsimp only [qE];obtain ⟨l2,l3,-⟩:=hlEBb;replace l2:∃ v,(qH (w0.heap.size+1+1) 29 [.slice C.pb cb C.cb,.slice C.pf cf C.cf]) v wEBb:=l2;replace l3:∃ v,(qH (w0.heap.size+1+1+1) 38 [.int .i64 5,.string (str [])]) v wEBb:=l3;obtain ⟨_,l2⟩:=l2;obtain ⟨_,l3⟩:=l3;replace l2:Row wEBb (w0.heap.size+1+1) 29 [.slice C.pb cb C.cb,.slice C.pf cf C.cf]:=l2;replace l3:Row wEBb (w0.heap.size+1+1+1) 38 [.int .i64 5,.string (str [])]:=l3;have hsz9:=Hsz.out;have oE:Only [] w0 wEBb:=HXo.out.2.2.zY hREBb (by simp;omega)
    have hE:=(HXo.out.1.only hREBb (fun z hz hm=>by have h9:=HXo.out.2.1 z hz;simp only [List.mem_cons,List.not_mem_nil,or_false] at hm;omega)).weaken (show w0.heap.size≤w4.heap.size by omega);have HE:=Lib.hid (show qA wEBb w0.heap.size C∧Only [] w0 wEBb from ⟨hE,oE⟩);clear hREBb hRr hRt hRd hRs hC0 hE oE;go_wp2_with fail;refine bodyPost_ret (xD rfl _ _ _ _ rfl rfl l2 l3 Tryz.underlying29 vL Tryz.underlying38 jH) rfl ⟨C,⟨5,[]⟩,?_,HE.out.1,?_,HE.out.2⟩
    ·unfold lcV xM;dsimp only;rw [HC.out.2.2.1,HC.out.2.2.2]
    ·rw [Happ.out,Hr.out]
   ·have hzi:¬ (0:Int) < (no:Int)+(nu:Int):=(by omega);have Hr:=Lib.hid (show apply smL C.cat m.x=({ C.cat with qJ:=(C.bs.eraseIdx i).map LBk.b },⟨0,[]⟩) by rw [Hyes.out,if_pos HH.out.2.2.2.2,if_neg hz]);clear hz;obtain ⟨d,hd⟩:∃ d,cb=d+1:=⟨cb - 1,by omega⟩;have h9:=HC.out.2.1.sb.zB HOq.out;rw [HG.out.2.1,HC.out.2.2.1,hd] at h9;have hdel:=zGy (some ⟨g,0,none⟩) d C.cb C.bs i w4.heap.size wq h9 (by rw [HC.out.2.2.1,hd]) (by omega) (by omega);have HD:=Lib.hid hdel;have Hd:Hid (cb=d+1∧i≤d):=Lib.hid ⟨hd,by omega⟩;have hwi:IntKind.i64.wrap ((i:Int)+1)=(i:Int)+1:=by rw [IntKind.wrap_i64];omega
    have hcq:=Hr6.out.zB HOq.out;have c0:=hcq.cell (i:=0) rfl;rw [HG.out.2.1,hd] at c0;clear h9 hdel hcq hd;go_wp2_with fail;refine HD.out.mono ?_;rintro e w8 ⟨rfl,h1,h2⟩;replace h2:Only [g] wq w8:=h2;clear HD c0;have hgX:g < X6:=(HX6.out.2 g HG.out.2.2.2.2.2.2.1).2;have hg4:w4.heap.size≤g:=(HX6.out.2 g HG.out.2.2.2.2.2.2.1).1;have hb8:=(Hr6.out.zB HOq.out).only h2 (by simp;omega);have k0:=hb8.cell (i:=0) rfl;have f0:=hb8.free 0;obtain ⟨w9,hw9⟩:∃ w,w=w8.setCell ⟨X6,0,none⟩ (.slice (some ⟨g,0,none⟩) d C.cb):=⟨_,rfl⟩;have o9:Only [X6] w8 w9:=by rw [hw9];exact Only.setCell _ ⟨X6,0,none⟩ _
    have hb9:=hb8.setCell 0 (.slice (some ⟨g,0,none⟩) d C.cb);rw [← hw9] at hb9;have hle:(C.bs.eraseIdx i).length=d:=(by rw [List.length_eraseIdx,if_pos (by rw [HC.out.2.2.1];have:=Hd.out;omega),HC.out.2.2.1];have:=Hd.out;omega);have hcb:=(HC.out.2.1.zB HOq.out).qJ (bs':=C.bs.eraseIdx i) (p':=some ⟨g,0,none⟩) (c':=C.cb) (show Only (blk C.pb) wq w8 by rw [HG.out.2.1];exact h2) (by rw [hle];exact h1) (fun y hy=>.inl (List.mem_of_mem_eraseIdx hy)) (fun z hz=>.inl (by rw [HG.out.2.1];exact hz)) ⟨_,List.Perm.refl _,zAQ (List.eraseIdx_sublist ..)⟩
    have hfp:∀ z∈({ C with bs:=C.bs.eraseIdx i,pb:=some ⟨g,0,none⟩,cb:=C.cb }:qK).fp,z∈C.fp:=fun z hz=>by
     have hz':z∈blk (some (⟨g,0,none⟩:Addr)) ++ (blk C.pf ++ (C.bs.eraseIdx i).flatMap LBk.fp):=hz;unfold qK.fp;rw [HG.out.2.1];simp only [List.mem_append] at hz' ⊢
     rcases hz' with k | k | k
     ·exact .inl k
     ·exact .inr (.inl k)
     ·exact .inr (.inr ((zAQ (List.eraseIdx_sublist ..)).subset k))
    have Hz3:=Lib.hid (((Hr3.out.zB (H46.out.zC HOq.out)).only h2 (by simp;omega)).only o9 (by simp;omega));have Hz4:=Lib.hid (((Hr4.out.zB (H46.out.zC HOq.out)).only h2 (by simp;omega)).only o9 (by simp;omega));have HB0:Hid (Row w9 X6 29 [.slice (some ⟨g,0,none⟩) d C.cb,.slice C.pf cf C.cf]):=Lib.hid hb9;have HXo:Hid (qA w9 w4.heap.size { C with bs:=C.bs.eraseIdx i,pb:=some ⟨g,0,none⟩,cb:=C.cb }∧(∀ z∈({ C with bs:=C.bs.eraseIdx i,pb:=some ⟨g,0,none⟩,cb:=C.cb }:qK).fp,w4.heap.size≤z)∧Only [] w0 w9):=Lib.hid ⟨hcb.only o9 (fun z hz hm=>by have h8:=(HX6.out.2 z (hfp z hz)).2;have:=List.mem_singleton.1 hm;omega),fun z hz=>(hcb.lo z hz).1,((HO6.out.zC HOq.out).zY h2 (fun z hz=>by rw [List.mem_singleton.1 hz];omega)).zY o9 (fun z hz=>by rw [List.mem_singleton.1 hz];omega)⟩
    have Hle:=Lib.hid hle;have Hw9:=Lib.hid hw9;clear h1 h2 hb8 hw9 o9 hb9 hle hcb hfp
    go_upto_region 19 with (fail)
    rw [← Hw9.out];clear Hw9 k0 f0;have hRr:∀ x,(Only [w0.heap.size+1+1,w0.heap.size+1+1+1]) x x:=fun x=>Only.refl _ _;have hRt:∀ x b e,(Only [w0.heap.size+1+1,w0.heap.size+1+1+1]) x b→(Only [w0.heap.size+1+1,w0.heap.size+1+1+1]) b e→(Only [w0.heap.size+1+1,w0.heap.size+1+1+1]) x e:=fun _ _ _ h k=>h.trans k (fun _ h _=>h);have hRd:(Only [w0.heap.size+1+1,w0.heap.size+1+1+1]) w9 w9.drew:=(Only.drew _).mono (by simp)
    have hRs:∀ j w,zZ [(2,Only [w0.heap.size+1+1]),(3,Only [w0.heap.size+1+1+1])] j w w:=zZ.refl (by
     intro x hx w;simp only [List.mem_cons,List.not_mem_nil,or_false] at hx
     rcases hx with rfl | rfl <;> exact Only.refl _ _)
    have hC0:∀ d∈[2,3],(fun (i:Nat) (a:World)=>(i=2→Row a (w0.heap.size+1+1) 29 [.slice none 0 0,.slice none 0 0])∧(i=3→Row a (w0.heap.size+1+1+1) 38 [.int .i64 0,.string ⟨#[]⟩])) d w9.drew:=fun _ _=>⟨fun _=>Hz3.out.zB (Only.drew _),fun _=>Hz4.out.zB (Only.drew _)⟩;refine zU (Only [w0.heap.size+1+1,w0.heap.size+1+1+1]) (zZ [(2,Only [w0.heap.size+1+1]),(3,Only [w0.heap.size+1+1+1])]) (fun (i:Nat) (a:World)=>(i=2→Row a (w0.heap.size+1+1) 29 [.slice none 0 0,.slice none 0 0])∧(i=3→Row a (w0.heap.size+1+1+1) 38 [.int .i64 0,.string ⟨#[]⟩])) [2,3] [[(6,none)],[],[(4,none),(104,some 1)],[(5,none),(105,some 1)]] [] [1,0] [none,none,none,none,none,none,none,none,none,none,none,none,none,none,none,none,none,none,none,none,none,none,none,none,none,none,none,none,none,none,none,none,none,none,none,none,none,none,none,none,none,none,none,none,none,none,none,none,none,none,none,none,none,none,none,none,none,none,none,none,none,none,none,none,none,none,none,none,none,none,none,none,none,none,none,none,none,none,none,none,none,none,none,none,none,none,none,none,none,none,none,none,none,none,none,none,none,none,none,none,none,none,none,none,some 104,some 105,none,none,none,none,none,none,none] (by kernel_rfl) rfl (by kernel_rfl) hRr hRt hRs hRd hC0 (by kernel_rfl) (by kernel_rfl) ?_
    apply zF
    ·rintro a w hR hC ⟨(e6:_=_),-⟩;refine zA rfl fun K hK=>?_;have hA:=HB0.out.only hR (by have h9:=HX6.out.1;have h10:=Hsz.out;simp <;> omega);have g0:=hA.cell (i:=0) rfl;have g1:=hA.cell (i:=1) rfl;go_simp;exact hK _ _ rfl ⟨hRr _,hRs _ _,fun _ _ _ _ h=>h⟩
    apply zF
    ·intro a w hR hC hf;refine zA rfl fun K hK=>?_;go_simp;(with_reducible refine (yB 0 w).mono ?_);rintro e w' ⟨rfl,o'⟩;exact hK _ _ rfl ⟨o'.mono (by simp),o',fun i _ _ _ hc=>⟨fun e=>(hc.1 e).zB o',fun e=>(hc.2 e).zB o'⟩⟩
    refine ⟨qH (w0.heap.size+1+1) 29 [.slice (some ⟨g,0,none⟩) d C.cb,.slice C.pf cf C.cf],zL qH.stable (by intro x hx hk;simp only [List.mem_cons,List.not_mem_nil,or_false] at hx;rcases hx with rfl | rfl <;> first | (refine qH.jC ?_;simp <;> omega;done) | exact Bool.noConfusion (hk.symm.trans (by kernel_rfl:_=true))),fun a w hR hC hf=>?_,?_⟩
    ·obtain ⟨e4,e104,-⟩:=hf;replace e4:a.tmps.getD 4 undef=_:=e4;replace e104:a.tmps.getD 104 undef=_:=e104;refine zA rfl fun K hK=>?_;have rz:=(hC 2 (by simp) (by kernel_rfl)).1 rfl;have zc0:=rz.cell (i:=0) rfl;have zc1:=rz.cell (i:=1) rfl;have zf0:=rz.free 0;have zf1:=rz.free 1;go_simp;have hst:=qB w (w0.heap.size+1+1) (.slice (some ⟨g,0,none⟩) d C.cb) (.slice C.pf cf C.cf);refine hK undef _ (Row.set2 rz _ _) ⟨hst.mono (by simp),hst,fun i hi hne ha hc=>⟨fun e=>(hc.1 e).only hst (by first | exact absurd e hne | (simp <;> omega)),fun e=>(hc.2 e).only hst (by first | exact absurd e hne | (simp <;> omega))⟩⟩
    refine ⟨qH (w0.heap.size+1+1+1) 38 [.int .i64 0,.string (str [])],zL qH.stable (by intro x hx hk;simp only [List.mem_cons,List.not_mem_nil,or_false] at hx;rcases hx with rfl | rfl <;> first | (refine qH.jC ?_;simp <;> omega;done) | exact Bool.noConfusion (hk.symm.trans (by kernel_rfl:_=true))),fun a w hR hC hf=>?_,?_⟩
    ·obtain ⟨e5,e105,-⟩:=hf;replace e5:a.tmps.getD 5 undef=_:=e5;replace e105:a.tmps.getD 105 undef=_:=e105;refine zA rfl fun K hK=>?_;have rz:=(hC 3 (by simp) (by kernel_rfl)).2 rfl;have zc0:=rz.cell (i:=0) rfl;have zc1:=rz.cell (i:=1) rfl;have zf0:=rz.free 0;have zf1:=rz.free 1;go_simp;have hst:=qB w (w0.heap.size+1+1+1) (.int .i64 0) (.string (str []));refine hK undef _ (Row.set2 rz _ _) ⟨hst.mono (by simp),hst,fun i hi hne ha hc=>⟨fun e=>(hc.1 e).only hst (by first | exact absurd e hne | (simp <;> omega)),fun e=>(hc.2 e).only hst (by first | exact absurd e hne | (simp <;> omega))⟩⟩
    intro fEBc wEBc hREBc hf hlEBc;dsimp only [qE];obtain ⟨l2,l3,-⟩:=hlEBc;replace l2:∃ v,(qH (w0.heap.size+1+1) 29 [.slice (some ⟨g,0,none⟩) d C.cb,.slice C.pf cf C.cf]) v wEBc:=l2;replace l3:∃ v,(qH (w0.heap.size+1+1+1) 38 [.int .i64 0,.string (str [])]) v wEBc:=l3;obtain ⟨_,l2⟩:=l2;obtain ⟨_,l3⟩:=l3;replace l2:Row wEBc (w0.heap.size+1+1) 29 [.slice (some ⟨g,0,none⟩) d C.cb,.slice C.pf cf C.cf]:=l2;replace l3:Row wEBc (w0.heap.size+1+1+1) 38 [.int .i64 0,.string (str [])]:=l3;have hsz9:=Hsz.out;have oE:Only [] w0 wEBc:=HXo.out.2.2.zY hREBc (by simp;omega)
    have hE:=(HXo.out.1.only hREBc (fun z hz hm=>by have h9:=HXo.out.2.1 z hz;simp only [List.mem_cons,List.not_mem_nil,or_false] at hm;omega)).weaken (show w0.heap.size≤w4.heap.size by omega);have HE:=Lib.hid (show qA wEBc w0.heap.size { C with bs:=C.bs.eraseIdx i,pb:=some ⟨g,0,none⟩,cb:=C.cb }∧Only [] w0 wEBc from ⟨hE,oE⟩);clear hREBc hRr hRt hRd hRs hC0 hE oE;go_wp2_with fail;refine bodyPost_ret (xD rfl _ _ _ _ rfl rfl l2 l3 Tryz.underlying29 vL Tryz.underlying38 jH) rfl ⟨{ C with bs:=C.bs.eraseIdx i,pb:=some ⟨g,0,none⟩,cb:=C.cb },⟨0,[]⟩,?_,HE.out.1,?_,HE.out.2⟩
    ·unfold lcV xM;dsimp only;rw [Hle.out,HC.out.2.2.2]
    ·rw [Happ.out,Hr.out];rfl
  ·have q2:(kd == (2:Int))=false:=beq_eq_false_iff_ne.2 hk2;obtain ⟨oc,hoc⟩:∃ oc,(jA smL b.b m.x).2=oc:=⟨_,rfl⟩;obtain ⟨bb,hbb⟩:∃ bb,(jA smL b.b m.x).1=bb:=⟨_,rfl⟩;have Hr:=Lib.hid (show apply smL C.cat m.x=({ C.cat with qJ:=(C.bs.map LBk.b).set i bb },oc) by rw [Hyes.out,if_neg (by rw [HH.out.2.2.2.2];exact hk2),hoc,hbb])
   have hin:∀ W,Only [] w6 W→Calls Tryz.prog 57 #[.pointer (some ⟨g,i * 5,none⟩),.agg #[.int .i64 kd,.int .i64 m.x.id.node,.int .i64 m.x.id.boot,.int .i64 m.x.id.seq,.string (str m.x.bucket),.string (str m.x.key),.int .i64 m.x.upload.node,.int .i64 m.x.upload.boot,.int .i64 m.x.upload.seq,.int .i64 m.x.piece.blob.node,.int .i64 m.x.piece.blob.boot,.int .i64 m.x.piece.blob.seq,.int .i64 m.x.piece.size,.string (str m.x.piece.etag),.int .i64 m.x.part,.slice m.p np m.c,.int .i64 m.x.time,.int .i64 m.x.days]] W fun e w'=>e=.returned (.agg #[.int .i64 oc.code,.string (str oc.etag)])∧Only (g :: b.fp) W w'∧∃ b1 cur1,b1.b=bb∧Row w' g 60 cur1∧jF (i * 5) cur1 (zD b1)∧Outside (i * 5) 5 U cur1∧qZ w' w4.heap.size b1∧∀ z∈b1.fp,z∈b.fp∨W.heap.size≤z:=fun W hW=>by
    obtain ⟨hb,hpb,hU,hrl,hra,hbo,hgC,hbC,hgb,hbk,hno,hnu,hrw,-⟩:=HG.out;have h:=zEh b m g (i * 5) w4.heap.size U W (hrw.zB hW) hra (hbo.zB hW) hgb (Nat.le_trans H46.out.size hW.size) hbk HH.out.2.1 (HH.out.2.2.1.zB (HO6.out.zC hW)) ⟨Hk.out.1,by rw [HH.out.2.2.2.2];exact hk2,Hk.out.2.1,Hk.out.2.2⟩;rw [show lmV m=.agg #[.int .i64 kd,.int .i64 m.x.id.node,.int .i64 m.x.id.boot,.int .i64 m.x.id.seq,.string (str m.x.bucket),.string (str m.x.key),.int .i64 m.x.upload.node,.int .i64 m.x.upload.boot,.int .i64 m.x.upload.seq,.int .i64 m.x.piece.blob.node,.int .i64 m.x.piece.blob.boot,.int .i64 m.x.piece.blob.seq,.int .i64 m.x.piece.size,.string (str m.x.piece.etag),.int .i64 m.x.part,.slice m.p np m.c,.int .i64 m.x.time,.int .i64 m.x.days] by unfold lmV;rw [HH.out.2.2.2.1,HH.out.2.2.2.2]] at h
    refine h.mono ?_;rintro e w' ⟨b1,cur1,rfl,h1,h2⟩;rw [hoc];exact ⟨rfl,h2.only,b1,cur1,by rw [h1,hbb],h2.row,h2.rcd,h2.out,h2.own,fun z hz=>(h2.fp z hz).imp id (fun k=>k.elim (fun k=>by cases k) id)⟩
   have HN:=Lib.hid hin;have m0:=(Hr2.out.zB (H46.out.zC o7)).cell (i:=0) rfl;have hg4:w4.heap.size≤g:=(HX6.out.2 g HG.out.2.2.2.2.2.2.1).1;have hgX:g < X6:=(HX6.out.2 g HG.out.2.2.2.2.2.2.1).2;have hb4:∀ z∈b.fp,w4.heap.size≤z∧z < X6:=fun z hz=>HX6.out.2 z (HG.out.2.2.2.2.2.2.2.1 z hz);have hX6w:X6 < w7.heap.size:=(Hr6.out.zB o7).lt
   have HnS:∀ z,z≠w0.heap.size+1+1→z≠w0.heap.size+1+1+1→z≠g→(z < w4.heap.size∨X6≤z)→z ∉ (w0.heap.size+1+1) :: (w0.heap.size+1+1+1) :: g :: b.fp:=fun z h1 h2 h3 h4 hm=>by
    simp only [List.mem_cons] at hm
    rcases hm with h | h | h | h
    ·exact h1 h
    ·exact h2 h
    ·exact h3 h
    ·have:=hb4 z h;omega
   have Hld:Hid (∀ w,(Only ((w0.heap.size+1+1) :: (w0.heap.size+1+1+1) :: g :: b.fp)) w7 w→(Instr.loadAt 36 (.pointer (some ⟨w0.heap.size+1,0,none⟩))).run Tryz.prog w=.ok (.agg #[.int .i64 kd,.int .i64 m.x.id.node,.int .i64 m.x.id.boot,.int .i64 m.x.id.seq,.string (str m.x.bucket),.string (str m.x.key),.int .i64 m.x.upload.node,.int .i64 m.x.upload.boot,.int .i64 m.x.upload.seq,.int .i64 m.x.piece.blob.node,.int .i64 m.x.piece.blob.boot,.int .i64 m.x.piece.blob.seq,.int .i64 m.x.piece.size,.string (str m.x.piece.etag),.int .i64 m.x.part,.slice m.p np m.c,.int .i64 m.x.time,.int .i64 m.x.days]) w):=Lib.hid (fun w h=>((Hr2.out.zB (H46.out.zC o7)).only h (HnS (w0.heap.size+1) (by omega) (by omega) (by omega) (by omega))).yM (P:=Tryz.prog) Tryz.underlying36 vK)
   have HBX:Hid (∀ w,(Only ((w0.heap.size+1+1) :: (w0.heap.size+1+1+1) :: g :: b.fp)) w7 w→w.cell? ⟨X6,0,none⟩=some (.slice (some ⟨g,0,none⟩) cb C.cb)∧w.cell? ⟨X6,1,none⟩=some (.slice C.pf cf C.cf)):=Lib.hid (fun w h=>⟨h.cell c0 (show X6 ∉ _ from HnS X6 (by omega) (by omega) (by omega) (by omega)),h.cell c1 (show X6 ∉ _ from HnS X6 (by omega) (by omega) (by omega) (by omega))⟩);have HSO7:∀ s∈[w0.heap.size+1+1],s≠g∧s ∉ b.fp∧s < w7.heap.size:=fun s hs=>by rw [List.mem_singleton.1 hs];exact ⟨by omega,fun h=>by have:=hb4 _ h;omega,by omega⟩
   have HSO8:∀ s∈[w0.heap.size+1+1+1],s≠g∧s ∉ b.fp∧s < w7.heap.size:=fun s hs=>by rw [List.mem_singleton.1 hs];exact ⟨by omega,fun h=>by have:=hb4 _ h;omega,by omega⟩
   have hn2:w0.heap.size+1+1 ∉ g :: b.fp:=fun h=>by
    rcases List.mem_cons.1 h with h | h
    ·omega
    ·have:=hb4 _ h;omega
   have hn3:w0.heap.size+1+1+1 ∉ g :: b.fp:=fun h=>by
    rcases List.mem_cons.1 h with h | h
    ·omega
    ·have:=hb4 _ h;omega
   have Hz3:=Lib.hid (Hr3.out.zB (H46.out.zC o7));have Hz4:=Lib.hid (Hr4.out.zB (H46.out.zC o7));clear hk2 hoc hbb hin y3 y4 c0 c1
   go_upto_region 20 with (fail)
   clear m0 q2;have hRr:∀ x,(Only ((w0.heap.size+1+1) :: (w0.heap.size+1+1+1) :: g :: b.fp)) x x:=fun x=>Only.refl _ _;have hRt:∀ x y z,(Only ((w0.heap.size+1+1) :: (w0.heap.size+1+1+1) :: g :: b.fp)) x y→(Only ((w0.heap.size+1+1) :: (w0.heap.size+1+1+1) :: g :: b.fp)) y z→(Only ((w0.heap.size+1+1) :: (w0.heap.size+1+1+1) :: g :: b.fp)) x z:=fun _ _ _ h k=>h.trans k (fun _ h _=>h);have hRd:(Only ((w0.heap.size+1+1) :: (w0.heap.size+1+1+1) :: g :: b.fp)) w7 w7.drew:=(Only.drew _).mono (by simp)
   have hRs:∀ j w,zZ [(6,Only (g :: b.fp)),(7,Only [w0.heap.size+1+1]),(8,Only [w0.heap.size+1+1+1])] j w w:=zZ.refl (by
    intro x hx w;simp only [List.mem_cons,List.not_mem_nil,or_false] at hx
    rcases hx with rfl | rfl | rfl <;> exact Only.refl _ _)
   have hC0:∀ d∈[6,7,8],(fun (i:Nat) (a:World)=>(i=6→Only [] w7 a)∧(i=7→Row a (w0.heap.size+1+1) 29 [.slice none 0 0,.slice none 0 0])∧(i=8→Row a (w0.heap.size+1+1+1) 38 [.int .i64 0,.string ⟨#[]⟩])) d w7.drew:=fun _ _=>⟨fun _=>Only.drew _,fun _=>Hz3.out.zB (Only.drew _),fun _=>Hz4.out.zB (Only.drew _)⟩;refine zU (Only ((w0.heap.size+1+1) :: (w0.heap.size+1+1+1) :: g :: b.fp)) (zZ [(6,Only (g :: b.fp)),(7,Only [w0.heap.size+1+1]),(8,Only [w0.heap.size+1+1+1])]) (fun (i:Nat) (a:World)=>(i=6→Only [] w7 a)∧(i=7→Row a (w0.heap.size+1+1) 29 [.slice none 0 0,.slice none 0 0])∧(i=8→Row a (w0.heap.size+1+1+1) 38 [.int .i64 0,.string ⟨#[]⟩])) [6,7,8] [[(6,none)],[(6,none)],[(107,some 0)],[(9,none)],[(108,some 1),(109,some 0)],[(3,none)],[(110,some 1),(111,some 0)],[(4,none),(106,some 6)],[(5,none),(112,some 1)]] [] [1,0] [none,none,none,none,none,none,none,none,none,none,none,none,none,none,none,none,none,none,none,none,none,none,none,none,none,none,none,none,none,none,none,none,none,none,none,none,none,none,none,none,none,none,none,none,none,none,none,none,none,none,none,none,none,none,none,none,none,none,none,none,none,none,none,none,none,none,none,none,none,none,none,none,none,none,none,none,none,none,none,none,none,none,none,none,none,none,none,none,none,none,none,none,none,none,none,none,none,none,none,none,none,none,none,none,none,none,some 106,some 107,some 108,some 109,some 110,some 111,some 112] (by kernel_rfl) rfl (by kernel_rfl) hRr hRt hRs hRd hC0 (by kernel_rfl) (by kernel_rfl) ?_
   apply zF
   ·rintro a w hR hC ⟨(e6:_=_),-⟩;refine zA rfl fun K hK=>?_;obtain ⟨z0,z1⟩:=HBX.out w hR;go_simp;exact hK _ _ rfl ⟨hRr _,hRs _ _,fun _ _ _ _ h=>h⟩
   apply zF
   ·rintro a w hR hC ⟨(e6:_=_),-⟩;refine zA rfl fun K hK=>?_;go_simp;exact hK _ _ rfl ⟨hRr _,hRs _ _,fun _ _ _ _ h=>h⟩
   apply zF
   ·rintro a w hR hC ⟨(e107:_=_),-⟩;refine zA rfl fun K hK=>?_;obtain ⟨z0,z1⟩:=HBX.out w hR;go_simp;exact hK _ _ rfl ⟨hRr _,hRs _ _,fun _ _ _ _ h=>h⟩
   apply zF
   ·rintro a w hR hC ⟨(e9:_=_),-⟩;refine zA rfl fun K hK=>?_;go_simp;exact hK _ _ rfl ⟨hRr _,hRs _ _,fun _ _ _ _ h=>h⟩
   apply zF
   ·rintro a w hR hC ⟨(e108:_=_),(e109:_=_),-⟩;refine zA rfl fun K hK=>?_;have hjj:(i:Int) < (cb:Int):=hii;go_simp;exact hK _ _ rfl ⟨hRr _,hRs _ _,fun _ _ _ _ h=>h⟩
   apply zF
   ·rintro a w hR hC ⟨(e3:_=_),-⟩;refine zA rfl fun K hK=>?_;refine zBN (ty:=36) (x:=.tmp 3) rfl e3 (Hld.out w hR) ?_;exact hK _ _ rfl ⟨hRr _,hRs _ _,fun _ _ _ _ h=>h⟩
   refine ⟨BkT w7 w4.heap.size g (i * 5) U b oc bb,zL BkT.stable (by intro x hx hk;simp only [List.mem_cons,List.not_mem_nil,or_false] at hx;rcases hx with rfl | rfl | rfl <;> first | (refine BkT.jC ?_;first | exact HSO7 | exact HSO8;done) | exact Bool.noConfusion (hk.symm.trans (by kernel_rfl:_=true))),fun a w hR hC hf=>?_,?_⟩
   ·obtain ⟨e110,e111,-⟩:=hf;replace e110:a.tmps.getD 110 undef=_:=e110;replace e111:a.tmps.getD 111 undef=_:=e111;refine zA rfl fun K hK=>?_;have hC6:=(hC 6 (by simp) (by kernel_rfl)).1 rfl;go_simp;(with_reducible refine (HN.out w (HO7.out.zC hC6)).mono ?_);rintro e w' ⟨rfl,h2,b1,cur1,h3,h4,h5,h6,h7,h8⟩;exact hK _ _ ⟨rfl,b1,cur1,h3,h4,h5,h6,h7,fun z hz=>(h8 z hz).imp id (fun k=>Nat.le_trans hC6.size k)⟩ ⟨h2.mono (fun z hz=>List.mem_cons_of_mem _ (List.mem_cons_of_mem _ hz)),h2,fun i hi hne ha hc=>⟨fun e=>absurd e hne,fun e=>(hc.2.1 e).only h2 hn2,fun e=>(hc.2.2 e).only h2 hn3⟩⟩
   refine ⟨qH (w0.heap.size+1+1) 29 [.slice (some ⟨g,0,none⟩) cb C.cb,.slice C.pf cf C.cf],zL qH.stable (by intro x hx hk;simp only [List.mem_cons,List.not_mem_nil,or_false] at hx;rcases hx with rfl | rfl | rfl <;> first | (refine qH.jC ?_;first | exact hn2 | (simp <;> omega);done) | exact Bool.noConfusion (hk.symm.trans (by kernel_rfl:_=true))),fun a w hR hC hf=>?_,?_⟩
   ·obtain ⟨e4,e106,-⟩:=hf;replace e4:a.tmps.getD 4 undef=_:=e4;replace e106:a.tmps.getD 106 undef=_:=e106;refine zA rfl fun K hK=>?_;have rz:=(hC 7 (by simp) (by kernel_rfl)).2.1 rfl;have zc0:=rz.cell (i:=0) rfl;have zc1:=rz.cell (i:=1) rfl;have zf0:=rz.free 0;have zf1:=rz.free 1;go_simp;have hst:=qB w (w0.heap.size+1+1) (.slice (some ⟨g,0,none⟩) cb C.cb) (.slice C.pf cf C.cf);refine hK undef _ (Row.set2 rz _ _) ⟨hst.mono (by simp),hst,fun i hi hne ha hc=>⟨fun e=>by first | exact absurd e hne | (simp only [List.mem_cons,List.not_mem_nil,or_false] at hi;rcases hi with rfl | rfl | rfl <;> first | exact absurd e (by decide) | exact Bool.noConfusion (ha.symm.trans (by kernel_rfl:_=true))),fun e=>by first | exact absurd e hne | exact (hc.2.1 e).only hst (by simp),fun e=>by first | exact absurd e hne | exact (hc.2.2 e).only hst (by simp)⟩⟩
   refine ⟨BkE w7 w4.heap.size g (i * 5) U b oc bb (w0.heap.size+1+1+1) 38 [.int .i64 oc.code,.string (str oc.etag)],zL BkE.stable (by intro x hx hk;simp only [List.mem_cons,List.not_mem_nil,or_false] at hx;rcases hx with rfl | rfl | rfl <;> first | fail | exact Bool.noConfusion (hk.symm.trans (by kernel_rfl:_=true))),fun a w hR hC hf=>?_,?_⟩
   ·obtain ⟨e5,e112,-⟩:=hf;replace e5:a.tmps.getD 5 undef=_:=e5;replace e112:BkT w7 w4.heap.size g (i * 5) U b oc bb (a.tmps.getD 112 undef) w:=e112;refine zA rfl fun K hK=>?_;have hT:=e112;obtain ⟨e112,-⟩:=e112;have rz:=(hC 8 (by simp) (by kernel_rfl)).2.2 rfl;have zc0:=rz.cell (i:=0) rfl;have zc1:=rz.cell (i:=1) rfl;have zf0:=rz.free 0;have zf1:=rz.free 1;go_simp;rw [e112] at hT;have hst:=qB w (w0.heap.size+1+1+1) (.int .i64 oc.code) (.string (str oc.etag));refine hK undef _ ⟨BkT.jC HSO8 _ _ _ hT hst,Row.set2 rz _ _⟩ ⟨hst.mono (by simp),hst,fun i hi hne ha hc=>⟨fun e=>by first | exact absurd e hne | (simp only [List.mem_cons,List.not_mem_nil,or_false] at hi;rcases hi with rfl | rfl | rfl <;> first | exact absurd e (by decide) | exact Bool.noConfusion (ha.symm.trans (by kernel_rfl:_=true))),fun e=>by first | exact absurd e hne | exact (hc.2.1 e).only hst (by simp),fun e=>by first | exact absurd e hne | exact (hc.2.2 e).only hst (by simp)⟩⟩
   intro f20 w20 hR20 hf hl20;dsimp only [qE];obtain ⟨l7,l8,-⟩:=hl20;replace l7:∃ v,(qH (w0.heap.size+1+1) 29 [.slice (some ⟨g,0,none⟩) cb C.cb,.slice C.pf cf C.cf]) v w20:=l7;replace l8:∃ v,(BkE w7 w4.heap.size g (i * 5) U b oc bb (w0.heap.size+1+1+1) 38 [.int .i64 oc.code,.string (str oc.etag)]) v w20:=l8;obtain ⟨_,l7⟩:=l7;obtain ⟨_,⟨-,b1,cur1,hb1,hrow1,hrec1,hout1,hown1,hfp1⟩,l8⟩:=l8;replace l7:Row w20 (w0.heap.size+1+1) 29 [.slice (some ⟨g,0,none⟩) cb C.cb,.slice C.pf cf C.cf]:=l7;replace l8:Row w20 (w0.heap.size+1+1+1) 38 [.int .i64 oc.code,.string (str oc.etag)]:=l8
   obtain ⟨hb,hpb,hU,hrl,hra,hbo,hgC,hbC,hgb,hbk,hno,hnu,hrw,-⟩:=HG.out
   have hset:=qA.zJU (rest:=rest) (b':=b1) (HC.out.2.1.zB o7) hpb hb hR20 (fun z hz=>by
    simp only [List.mem_cons] at hz
    rcases hz with h | h | h | h
    ·exact .inr (.inr (fun hm=>by have:=(HX6.out.2 z hm).1;omega))
    ·exact .inr (.inr (fun hm=>by have:=(HX6.out.2 z hm).1;omega))
    ·exact .inl h
    ·exact .inr (.inl h)) (by rw [← hU];exact hrl) hrow1 (by rw [← hU];exact hout1) hrec1 hown1 hfp1
   have hlen:(C.bs.set i b1).length=cb:=by rw [List.length_set,HC.out.2.2.1]
   have HE:Hid (qA w20 w0.heap.size { C with bs:=C.bs.set i b1 }∧Only [] w0 w20∧(({ C with bs:=C.bs.set i b1 }:qK).cat,oc)=apply smL L.cat m.x∧(C.bs.set i b1).length=cb∧C.fs.length=cf∧C.pb=some ⟨g,0,none⟩):=Lib.hid ⟨hset.weaken (by omega),(HO6.out.zC o7).zY hR20 (fun z hz=>by
    simp only [List.mem_cons] at hz
    rcases hz with h | h | h | h
    ·omega
    ·omega
    ·omega
    ·have:=hb4 z h;omega),by
     rw [Happ.out,Hr.out,← hb1,← List.map_set];rfl,hlen,HC.out.2.2.2,hpb⟩
   clear hRr hRt hRd hRs hC0 hR20 hset hlen hb1 hrow1 hrec1 hout1 hown1 hfp1 hb hpb hU hrl hra hbo hgC hbC hgb hbk hno hnu hrw HnS Hld HBX HSO7 HSO8 hn2 hn3 hb4;go_wp2_with fail;refine bodyPost_ret (xD rfl _ _ _ _ rfl rfl l7 l8 Tryz.underlying29 vL Tryz.underlying38 jH) rfl ⟨{ C with bs:=C.bs.set i b1 },oc,?_,HE.out.1,HE.out.2.2.1,HE.out.2.1⟩;unfold lcV xM;dsimp only;rw [HE.out.2.2.2.1,HE.out.2.2.2.2.1,HE.out.2.2.2.2.2]
end
section
open Go.RowKit
theorem zBs (L:qK) (m:zS) (w0:World) (hA:zBX w0 L) (hok:xS L.cat) (hx:xJ m.x) (hca:jS w0 m):Calls Tryz.prog 16 #[lcV L,lmV m] w0 (zDC L m w0):=by
 by_cases h1:m.x.kind=1
 ·exact zIM L m w0 hA hok hx hca h1
 by_cases h10:m.x.kind=10
 ·exact zHv L m w0 hA hok hx hca h10
 by_cases h11:m.x.kind=11
 ·exact zHm L m w0 hA hok hx hca h11
 exact zHo L m w0 hA hok hx hca ⟨h1,h10,h11⟩
end
section
open Go.RowKit
def zFY (t:TypeId):Prop:=t=29∨t=38
def zJM (t:TypeId):Prop:=t=60∨t=31∨t=48∨t=54∨t=33∨t=111
theorem zIp {t u:TypeId} (h:zJM t) (k:zFY u):t≠u:=by
 rcases h with rfl | rfl | rfl | rfl | rfl | rfl <;> rcases k with rfl | rfl <;> decide
theorem qZ.ty {w:World} {B:Nat} {b:LBk} (h:qZ w B b):∀ z∈b.fp,∃ t,zJM t∧Ty w z t:=fun z hz=>by
 unfold LBk.fp at hz
 rcases List.mem_append.1 hz with hz | hz
 ·exact ⟨_,.inr (.inr (.inl rfl)),zN.ty h.so z hz⟩
 rcases List.mem_append.1 hz with hz | hz
 ·exact ⟨_,.inr (.inr (.inr (.inl rfl))),zN.ty h.su z hz⟩
 rcases List.mem_append.1 hz with hz | hz
 ·obtain ⟨x,hx,hz⟩:=List.mem_flatMap.1 hz;exact ⟨_,.inr (.inr (.inr (.inr (.inl rfl)))),zN.ty (h.ob x hx) z hz⟩
 ·obtain ⟨x,hx,hz⟩:=List.mem_flatMap.1 hz;exact ⟨_,.inr (.inr (.inr (.inr (.inr rfl)))),zN.ty (h.up x hx) z hz⟩
theorem qA.ty {w:World} {B:Nat} {c:qK} (h:qA w B c):∀ z∈c.fp,∃ t,zJM t∧Ty w z t:=fun z hz=>by
 unfold qK.fp at hz
 rcases List.mem_append.1 hz with hz | hz
 ·exact ⟨_,.inl rfl,zN.ty h.sb z hz⟩
 rcases List.mem_append.1 hz with hz | hz
 ·exact ⟨_,.inr (.inl rfl),zN.ty h.sf z hz⟩
 ·obtain ⟨b,hb,hz⟩:=List.mem_flatMap.1 hz;exact (h.bk b hb).ty z hz
theorem qA.zJi {w:World} {B g:Nat} {c:qK} {t:TypeId} (h:qA w B c) (ht:zFY t) (hg:Ty w g t):g ∉ c.fp:=fun hm=>by
 obtain ⟨u,hu,hw⟩:=h.ty g hm;exact zIp hu ht (hw.uniq hg)
theorem qA.to {w w':World} {B B2:Nat} {c:qK} {t:TypeId} (h:qA w B c) (ht:zFY t) (ho:TO B2 t w w'):qA w' B c:=by
 obtain ⟨S,h1,h2⟩:=ho;exact h.only h1 (fun z hz hS=>h.zJi ht (h2 z hS).2 hz)
def ApS (B:Nat) (R:Cat × yA):Value→World→Prop:=fun v w=>∃ L' oc,v=.tuple #[lcV L',xM oc]∧(L'.cat,oc)=R∧qA w B L'
theorem ApS.stable {B:Nat} {R:Cat × yA}:Stable (Only []) (ApS B R):=fun v a c ⟨b',oc,h1,h2,h3⟩ ho=>⟨b',oc,h1,h2,h3.zB ho⟩
theorem ApS.to {B B2:Nat} {R:Cat × yA} {t:TypeId} (ht:zFY t):Stable (TO B2 t) (ApS B R):=fun v a c ⟨b',oc,h1,h2,h3⟩ ho=>⟨b',oc,h1,h2,h3.to ht ho⟩
def CtS (B:Nat) (R:Cat × yA):Value→World→Prop:=fun v w=>∃ L',v=lcV L'∧L'.cat=R.1∧qA w B L'
theorem CtS.stable {B:Nat} {R:Cat × yA}:Stable (Only []) (CtS B R):=fun v a c ⟨b',h1,h2,h3⟩ ho=>⟨b',h1,h2,h3.zB ho⟩
theorem CtS.to {B B2:Nat} {R:Cat × yA} {t:TypeId} (ht:zFY t):Stable (TO B2 t) (CtS B R):=fun v a c ⟨b',h1,h2,h3⟩ ho=>⟨b',h1,h2,h3.to ht ho⟩
def OuS (R:Cat × yA):Value→World→Prop:=fun v _=>v=xM R.2
theorem OuS.any {R:Cat × yA} {Q:World→World→Prop}:Stable Q (OuS R):=fun _ _ _ h _=>h
def zEm (B:Nat) (R:Cat × yA):Value→World→Prop:=fun v w=>∃ g L',v=.pointer (some ⟨g,0,none⟩)∧B≤g∧Row w g 29 (xA L')∧L'.cat=R.1∧qA w B L'
theorem zEm.stable {B:Nat} {R:Cat × yA}:Stable (Only []) (zEm B R):=fun v a c ⟨g,b',h1,h2,h3,h4,h5⟩ ho=>⟨g,b',h1,h2,h3.zB ho,h4,h5.zB ho⟩
theorem zEm.to {B B2:Nat} {R:Cat × yA}:Stable (TO B2 38) (zEm B R):=fun v a c ⟨g,b',h1,h2,h3,h4,h5⟩ ho=>⟨g,b',h1,h2,ho.row h3 (by decide),h4,h5.to (.inr rfl) ho⟩
theorem Tryz.infoI64c:(Tryz.prog.info? 3).map (fun i=>(i.zero,i.size,i.bytes))=some (some (.int .i64 0),1,8):=by kernel_rfl
end
end Go.Proofs.YtfeglnpmpgipiaaGreatDoor
