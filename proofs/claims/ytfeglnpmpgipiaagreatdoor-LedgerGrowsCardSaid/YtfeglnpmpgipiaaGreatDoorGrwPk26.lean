/- GrwPk, part 26: CatAppFW. -/
import Derived.Test.YtfeglnpmpgipiaaGreatDoorGrwPk24
import Derived.Test.YtfeglnpmpgipiaaGreatDoorGrwPk25
set_option linter.unusedVariables false
set_option maxRecDepth 100000
set_option linter.unusedSimpArgs false
namespace Go.Proofs.YtfeglnpmpgipiaaGreatDoor
section
open Go.RowKit
set_option maxHeartbeats 16000000 in
theorem zHm (L:qK) (m:zS) (w0:World) (hA:zBX w0 L) (hok:xS L.cat) (hx:xJ m.x) (hca:jS w0 m) (hk:m.x.kind=11) :
  Calls Tryz.prog 16 #[lcV L,lmV m] w0 (zDC L m w0):=by
 obtain ⟨kd,hkd⟩:∃ k,m.x.kind=k:=⟨_,rfl⟩;obtain ⟨nb,hnb⟩:∃ n,L.bs.length=n:=⟨_,rfl⟩;obtain ⟨nf,hnf⟩:∃ n,L.fs.length=n:=⟨_,rfl⟩;obtain ⟨np,hnp⟩:∃ n,m.x.parts.length=n:=⟨_,rfl⟩;obtain ⟨w1,hw1⟩:∃ w1,w1=w0.alloc (.cells #[.slice L.pb nb L.cb,.slice L.pf nf L.cf] 29):=⟨_,rfl⟩;have o1:Only [] w0 w1:=(by rw [hw1];exact Only.alloc _ _);have s1:w1.heap.size=w0.heap.size+1:=(by rw [hw1];simp);have r1:Row w1 (w0.heap.size) 29 [.slice L.pb nb L.cb,.slice L.pf nf L.cf]:=(by rw [hw1];exact Row.zV _ _ _ _ rfl);obtain ⟨w2,hw2⟩:∃ w2,w2=w1.alloc (.cells #[.int .i64 11,.int .i64 m.x.id.node,.int .i64 m.x.id.boot,.int .i64 m.x.id.seq,.string (str m.x.bucket),.string (str m.x.key),.int .i64 m.x.upload.node,.int .i64 m.x.upload.boot,.int .i64 m.x.upload.seq,.int .i64 m.x.piece.blob.node,.int .i64 m.x.piece.blob.boot,.int .i64 m.x.piece.blob.seq,.int .i64 m.x.piece.size,.string (str m.x.piece.etag),.int .i64 m.x.part,.slice m.p np m.c,.int .i64 m.x.time,.int .i64 m.x.days] 36):=⟨_,rfl⟩
 have o2:Only [] w1 w2:=(by rw [hw2];exact Only.alloc _ _);have s2:w2.heap.size=w0.heap.size+1+1:=(by rw [hw2];simp [s1]);have r2:Row w2 (w0.heap.size+1) 36 [.int .i64 11,.int .i64 m.x.id.node,.int .i64 m.x.id.boot,.int .i64 m.x.id.seq,.string (str m.x.bucket),.string (str m.x.key),.int .i64 m.x.upload.node,.int .i64 m.x.upload.boot,.int .i64 m.x.upload.seq,.int .i64 m.x.piece.blob.node,.int .i64 m.x.piece.blob.boot,.int .i64 m.x.piece.blob.seq,.int .i64 m.x.piece.size,.string (str m.x.piece.etag),.int .i64 m.x.part,.slice m.p np m.c,.int .i64 m.x.time,.int .i64 m.x.days]:=by rw [← s1,hw2];exact Row.zV _ _ _ _ rfl
 obtain ⟨w3,hw3⟩:∃ w3,w3=w2.alloc (.cells #[.slice none 0 0,.slice none 0 0] 29):=⟨_,rfl⟩;have o3:Only [] w2 w3:=(by rw [hw3];exact Only.alloc _ _);have s3:w3.heap.size=w0.heap.size+1+1+1:=(by rw [hw3];simp [s2]);have r3:Row w3 (w0.heap.size+1+1) 29 [.slice none 0 0,.slice none 0 0]:=(by rw [← s2,hw3];exact Row.zV _ _ _ _ rfl);obtain ⟨w4,hw4⟩:∃ w4,w4=w3.alloc (.cells #[.int .i64 0,.string ⟨#[]⟩] 38):=⟨_,rfl⟩;have o4:Only [] w3 w4:=(by rw [hw4];exact Only.alloc _ _);have s4:w4.heap.size=w0.heap.size+1+1+1+1:=by rw [hw4];simp [s3]
 have r4:Row w4 (w0.heap.size+1+1+1) 38 [.int .i64 0,.string ⟨#[]⟩]:=(by rw [← s3,hw4];exact Row.zV _ _ _ _ rfl);replace r1:=r1.zB ((o2.zC o3).zC o4);replace r2:=r2.zB (o3.zC o4);replace r3:=r3.zB o4;have oAll:Only [] w0 w4:=(((o1.zC o2).zC o3).zC o4);rw [hw1] at hw2;rw [hw2] at hw3;rw [hw3] at hw4;have hcp:=zAy L w4 (hA.zB oAll) (zBz hok);rw [show lcV L=.agg #[.slice L.pb nb L.cb,.slice L.pf nf L.cf] by unfold lcV;rw [hnb,hnf]] at hcp;have HCP:=Lib.hid hcp;have Hr1:=Lib.hid r1;have Hr2:=Lib.hid r2
 have Hr3:=Lib.hid r3;have Hr4:=Lib.hid r4;have HO:=Lib.hid oAll;have Hw:=Lib.hid hw4;have Hsz:Hid (w4.heap.size=w0.heap.size+1+1+1+1):=Lib.hid s4;have HH:Hid (xS L.cat∧xJ m.x∧jS w0 m∧m.x.parts.length=np∧m.x.kind=kd):=Lib.hid ⟨hok,hx,hca,hnp,hkd⟩;have Hk:=Lib.hid hk;rw [show lcV L=.agg #[.slice L.pb nb L.cb,.slice L.pf nf L.cf] by unfold lcV;rw [hnb,hnf],show lmV m=.agg #[.int .i64 11,.int .i64 m.x.id.node,.int .i64 m.x.id.boot,.int .i64 m.x.id.seq,.string (str m.x.bucket),.string (str m.x.key),.int .i64 m.x.upload.node,.int .i64 m.x.upload.boot,.int .i64 m.x.upload.seq,.int .i64 m.x.piece.blob.node,.int .i64 m.x.piece.blob.boot,.int .i64 m.x.piece.blob.seq,.int .i64 m.x.piece.size,.string (str m.x.piece.etag),.int .i64 m.x.part,.slice m.p np m.c,.int .i64 m.x.time,.int .i64 m.x.days] by unfold lmV;rw [hnp,hk]]
 have c0:=Hr1.out.cell (i:=0) rfl;have c1:=Hr1.out.cell (i:=1) rfl;clear hnb hnf hnp hkd hk hA hok hx hca r1 r2 r3 r4 oAll hw4 s4 s3 s2 s1 o1 o2 o3 o4 hw1 hw2 hw3 hcp
 go_enter Tryz.func16,Tryz.ntmps16
 go_upto_region 1 with (fail)
 rw [← Hw.out];clear Hw;go_wp2_with fail;refine HCP.out.mono ?_;rintro e w5 ⟨C,rfl,hcc,hown,o5⟩;clear HCP c0 c1;obtain ⟨cb,hcb⟩:∃ n,C.bs.length=n:=⟨_,rfl⟩;obtain ⟨cf,hcf⟩:∃ n,C.fs.length=n:=⟨_,rfl⟩;rw [show lcV C=.agg #[.slice C.pb cb C.cb,.slice C.pf cf C.cf] by unfold lcV;rw [hcb,hcf]];obtain ⟨w6,hw6⟩:∃ w6,w6=w5.alloc (.cells #[.slice C.pb cb C.cb,.slice C.pf cf C.cf] 29):=⟨_,rfl⟩;have o6:Only [] w5 w6:=(by rw [hw6];exact Only.alloc _ _);have r6:Row w6 w5.heap.size 29 [.slice C.pb cb C.cb,.slice C.pf cf C.cf]:=by rw [hw6];exact Row.zV _ _ _ _ rfl
 obtain ⟨X6,hX6⟩:∃ X,w5.heap.size=X:=⟨_,rfl⟩;rw [hX6] at r6;have HO6:=Lib.hid ((HO.out.zC o5).zC o6);have H46:=Lib.hid (o5.zC o6);have Hr6:=Lib.hid r6;have HX6:Hid (w4.heap.size≤X6∧∀ z∈C.fp,w4.heap.size≤z∧z < X6):=Lib.hid ⟨by rw [← hX6];exact o5.size,fun z hz=>by rw [← hX6];exact hown.lo z hz⟩;have HC:Hid (C.cat=L.cat∧qA w6 w4.heap.size C∧C.bs.length=cb∧C.fs.length=cf):=Lib.hid ⟨hcc,hown.zB o6,hcb,hcf⟩;have hz2:=Hr2.out.zB H46.out;have Hw6:=Lib.hid hw6;have HX6e:=Lib.hid hX6;have m0:=hz2.cell (i:=0) rfl
 have m1:=hz2.cell (i:=1) rfl;have m2:=hz2.cell (i:=2) rfl;have m3:=hz2.cell (i:=3) rfl;have c0:=r6.cell (i:=0) rfl;have c1:=r6.cell (i:=1) rfl;clear hcc hown o5 hcb hcf o6 r6 hX6 hw6 hz2
 go_upto_region 2 with (fail)
 rw [← Hw6.out];clear Hw6;have hX6:=HX6e.out;obtain ⟨i,hi⟩:∃ i,qV Cid.node ltZ C.fs m.x.id.node=i:=⟨_,rfl⟩;obtain ⟨th,hth⟩:∃ th,qC Cid.node ltZ C.fs m.x.id.node=th:=⟨_,rfl⟩;have hfs:jD Cid.node ltZ C.fs:=(by have h:=HH.out.1.fs;rw [← HC.out.1] at h;exact h);have hfl:cf≤16:=(by have h:=HH.out.1.zJd;rw [← HC.out.1] at h;rw [← HC.out.2.2.2];exact h);have hfd:=zFm C.pf cf C.cf C.fs m.x.id.node w6 HC.out.2.2.2 (by omega) (fun h0=>by rw [← HC.out.2.2.2];exact (HC.out.2.1.sf.view.2.2.2.1 h0).1) HC.out.2.1.sf.view.2.2.1 hfs;rw [hi,hth] at hfd
 have HF:=Lib.hid hfd;obtain ⟨YS,hYS⟩:∃ YS,jN Cid.node ltZ C.fs m.x.id.node m.x.id=YS:=⟨_,rfl⟩;obtain ⟨ny,hny⟩:∃ n,YS.length=n:=⟨_,rfl⟩
 have hset:∀ W,Only [] w6 W→Calls Tryz.prog 53 #[.slice C.pf cf C.cf,.int .i64 m.x.id.node,.func (.func 51) #[] #[],.agg #[.int .i64 m.x.id.node,.int .i64 m.x.id.boot,.int .i64 m.x.id.seq]] W fun e' w'=>∃ p' c',e'=.returned (.slice p' ny c')∧zN w' w4.heap.size 31 3 (.slice p' ny c') ny (YS.flatMap zI)∧Only (blk C.pf) W w'∧∀ z∈blk p',z∈blk C.pf∨W.heap.size≤z:=fun W hW=>by
  have h9:=HC.out.2.1.sf.zB hW;rw [HC.out.2.2.2] at h9;have h:=zHI C.pf cf C.cf C.fs m.x.id.node m.x.id w4.heap.size W HC.out.2.2.2 (by omega) h9 (Nat.le_trans H46.out.size hW.size) hfs;rw [hYS,hny] at h;refine h.mono ?_;rintro e' w' ⟨p',c',h1,h2,h3,h4⟩;exact ⟨p',c',h1,h2,h3,h4⟩
 have HS:=Lib.hid hset;have HY:Hid (YS.length=ny∧jN Cid.node ltZ C.fs m.x.id.node m.x.id=YS∧qV Cid.node ltZ C.fs m.x.id.node=i∧qC Cid.node ltZ C.fs m.x.id.node=th):=Lib.hid ⟨hny,hYS,hi,hth⟩
 have Happ:Hid (apply smL L.cat m.x=(⟨C.cat.qJ,zAb C.fs m.x.id⟩,⟨0,[]⟩)):=Lib.hid (by
  unfold apply;rw [if_neg (by have:=Hk.out;omega),if_neg (by have:=Hk.out;omega),if_pos Hk.out,← HC.out.1]
  rfl)
 have HM:Hid (∀ w,Only [] w6 w→w.cell? ⟨w0.heap.size+1,1,none⟩=some (.int .i64 m.x.id.node)∧w.cell? ⟨w0.heap.size+1,2,none⟩=some (.int .i64 m.x.id.boot)∧w.cell? ⟨w0.heap.size+1,3,none⟩=some (.int .i64 m.x.id.seq)∧w.cell? ⟨X6,0,none⟩=some (.slice C.pb cb C.cb)∧w.cell? ⟨X6,1,none⟩=some (.slice C.pf cf C.cf)):=Lib.hid (fun w h=>⟨h.cell m1 (by simp),h.cell m2 (by simp),h.cell m3 (by simp),h.cell c0 (by simp),h.cell c1 (by simp)⟩);clear hi hth hfs hfd hYS hny hset;go_wp2_with fail;refine HF.out.mono ?_;rintro e w7 ⟨rfl,o7⟩;clear HF m0 m1 m2 m3 c0 c1
 have HO7:=Lib.hid o7;have hsz4:=Hsz.out;clear o7
 cases th with
 | false =>
  have hfo:zAb C.fs m.x.id=YS:=by
   unfold zAb;rw [HY.out.2.2.1];have h9:=HY.out.2.2.2;unfold qC at h9;rw [HY.out.2.2.1] at h9
   cases hb:C.fs[i]? with
   | none=>exact HY.out.2.1
   | some f =>
    rw [hb] at h9;dsimp only at h9 ⊢;rw [if_neg (fun h=>by have:=of_decide_eq_false h9;exact this h.1)];exact HY.out.2.1
  have Hfo:=Lib.hid hfo;clear hfo
  go_upto_region 9 with (fail)
  refine qY (Only []) [[(8,none)],[(40,some 0)],[(41,some 0)],[(42,some 0),(6,none)],[(42,some 1),(43,some 0)],[(42,some 2),(7,none)],[(42,some 3),(44,some 1),(45,some 0)],[(42,some 4),(46,some 0)],[(42,some 5),(3,none)],[(42,some 6),(48,some 0)],[(42,some 7),(47,some 2),(49,some 0)],[(42,some 8),(50,some 0)],[(42,some 9),(51,some 0)]] [(52,0)] [none,none,none,none,none,none,none,none,none,none,none,none,none,none,none,none,none,none,none,none,none,none,none,none,none,none,none,none,none,none,none,none,none,none,none,none,none,none,none,none,some 40,some 41,some 42,some 43,some 44,some 45,some 46,some 47,some 48,some 49,some 50,some 51,some 52,none,none,none,none,none,none,none,none,none,none,none,none,none,none,none,none,none,none,none,none,none,none,none,none,none,none,none,none,none,none,none,none,none,none,none,none,none,none,none,none,none,none,none,none,none,none,none,none,none,none,none,none,none,none,none,none,none,none,none,none] (by kernel_rfl) rfl (by kernel_rfl) (fun _=>Only.refl _ _) (fun _ _ _ h k=>h.zC k) (Only.drew _) (by kernel_rfl) ?_
  apply zJ
  ·rintro a w hR ⟨(e8:_=_),-⟩;refine zA rfl fun K hK=>?_;go_simp;exact hK _ _ rfl (Only.refl _ _)
  apply zJ
  ·rintro a w hR ⟨(e40:_=_),-⟩;refine zA rfl fun K hK=>?_;go_simp;exact hK _ _ rfl (Only.refl _ _)
  apply zJ
  ·rintro a w hR ⟨(e41:_=_),-⟩;refine zA rfl fun K hK=>?_;go_simp;exact hK _ _ rfl (Only.refl _ _)
  apply zJ
  ·rintro a w hR ⟨(e42:_=_),(e6:_=_),-⟩;exact xQ rfl rfl e42 rfl
  apply zJ
  ·rintro a w hR ⟨(e42:_=_),(e43:_=_),-⟩;exact xQ rfl rfl e42 rfl
  apply zJ
  ·rintro a w hR ⟨(e42:_=_),(e7:_=_),-⟩;exact xQ rfl rfl e42 rfl
  apply zJ
  ·rintro a w hR ⟨(e42:_=_),(e44:_=_),(e45:_=_),-⟩;exact xQ rfl rfl e42 rfl
  apply zJ
  ·rintro a w hR ⟨(e42:_=_),(e46:_=_),-⟩;exact xQ rfl rfl e42 rfl
  apply zJ
  ·rintro a w hR ⟨(e42:_=_),(e3:_=_),-⟩;exact xQ rfl rfl e42 rfl
  apply zJ
  ·rintro a w hR ⟨(e42:_=_),(e48:_=_),-⟩;exact xQ rfl rfl e42 rfl
  apply zJ
  ·rintro a w hR ⟨(e42:_=_),(e47:_=_),(e49:_=_),-⟩;exact xQ rfl rfl e42 rfl
  apply zJ
  ·rintro a w hR ⟨(e42:_=_),(e50:_=_),-⟩;exact xQ rfl rfl e42 rfl
  apply zJ
  ·rintro a w hR ⟨(e42:_=_),(e51:_=_),-⟩;refine zA rfl fun K hK=>?_;go_simp;exact hK _ _ rfl (Only.refl _ _)
  intro f9 w9 hR9 hf;dsimp only [qE];obtain ⟨e52,-⟩:=hf;replace e52:f9 52=_:=e52;rw [e52];have HO8:=Lib.hid (HO7.out.zC hR9);clear hR9 HO7;obtain ⟨q1,q2,q3,q4,q5⟩:=HM.out w9 HO8.out;go_wp2_with fail;refine (HS.out w9 HO8.out).mono ?_;rintro e w10 ⟨p',c',rfl,h1,h2,h3⟩;clear q1 q2 q3 q4 q5;have hnC:∀ z,z < w4.heap.size→z ∉ blk C.pf:=fun z hz hm=>(by have:=(HX6.out.2 z (by unfold qK.fp;exact List.mem_append_right _ (List.mem_append_left _ hm))).1;omega);have hX6n:X6 ∉ blk C.pf:=fun hm=>by have:=(HX6.out.2 X6 (by unfold qK.fp;exact List.mem_append_right _ (List.mem_append_left _ hm))).2;omega
  have hb:=(Hr6.out.zB HO8.out).only h2 hX6n;have k1:=hb.cell (i:=1) rfl;have f1:=hb.free 1;obtain ⟨w12,hw12⟩:∃ w,w=w10.setCell ⟨X6,1,none⟩ (.slice p' ny c'):=⟨_,rfl⟩;have o12:Only [X6] w10 w12:=(by rw [hw12];exact Only.setCell _ ⟨X6,1,none⟩ _);have hb2:=hb.setCell 1 (.slice p' ny c');rw [← hw12] at hb2;have hof:=(HC.out.2.1.zB HO8.out).zAW (fs':=YS) h2 (by rw [HY.out.1];exact h1) h3;have h9X:X6 < w9.heap.size:=(Hr6.out.zB HO8.out).lt
  have hfpn:∀ z∈({ C with fs:=YS,pf:=p',cf:=c' }:qK).fp,z∈C.fp∨w9.heap.size≤z:=fun z hz=>by
   have hz':z∈blk C.pb ++ (blk p' ++ C.bs.flatMap LBk.fp):=hz;unfold qK.fp;simp only [List.mem_append] at hz' ⊢
   rcases hz' with k | k | k
   ·exact .inl (.inl k)
   ·exact (h3 z k).imp (fun h=>.inr (.inl h)) id
   ·exact .inl (.inr (.inr k))
  have hX6f:X6 ∉ ({ C with fs:=YS,pf:=p',cf:=c' }:qK).fp:=fun hm=>by
   rcases hfpn _ hm with k | k
   ·have:=(HX6.out.2 _ k).2;omega
   ·omega
  have hsz4:=Hsz.out;have hX4:=HX6.out.1;have hA2n:w0.heap.size+1+1 ∉ blk C.pf:=hnC _ (by omega);have hA3n:w0.heap.size+1+1+1 ∉ blk C.pf:=hnC _ (by omega);have Hz3:=Lib.hid (((Hr3.out.zB (H46.out.zC HO8.out)).only h2 hA2n).only o12 (by simp;omega));have Hz4:=Lib.hid (((Hr4.out.zB (H46.out.zC HO8.out)).only h2 hA3n).only o12 (by simp;omega));have HB0:Hid (Row w12 X6 29 [.slice C.pb cb C.cb,.slice p' ny c']):=Lib.hid hb2
  have HXo:Hid (qA w12 w4.heap.size { C with fs:=YS,pf:=p',cf:=c' }∧(∀ z∈({ C with fs:=YS,pf:=p',cf:=c' }:qK).fp,w4.heap.size≤z)∧Only [] w0 w12):=Lib.hid ⟨hof.only o12 (fun z hz hm=>hX6f (by rw [← List.mem_singleton.1 hm];exact hz)),fun z hz=>(hof.lo z hz).1,((HO6.out.zC HO8.out).zY h2 (fun z hz=>by
   by_cases h:z < w4.heap.size
   ·exact absurd hz (hnC z h)
   ·have:=HO.out.size;omega)).zY o12 (fun z hz=>by rw [List.mem_singleton.1 hz];have:=HO.out.size;omega)⟩
  have Hw12:=Lib.hid hw12;clear h1 h2 h3 hnC hX6n hb hw12 o12 hb2 hof hfpn hX6f hA2n hA3n
  go_upto_region 11 with (fail)
  rw [← Hw12.out];clear Hw12 k1 f1;have hRr:∀ x,(Only [w0.heap.size+1+1,w0.heap.size+1+1+1]) x x:=fun x=>Only.refl _ _;have hRt:∀ x b e,(Only [w0.heap.size+1+1,w0.heap.size+1+1+1]) x b→(Only [w0.heap.size+1+1,w0.heap.size+1+1+1]) b e→(Only [w0.heap.size+1+1,w0.heap.size+1+1+1]) x e:=fun _ _ _ h k=>h.trans k (fun _ h _=>h);have hRd:(Only [w0.heap.size+1+1,w0.heap.size+1+1+1]) w12 w12.drew:=(Only.drew _).mono (by simp)
  have hRs:∀ j w,zZ [(2,Only [w0.heap.size+1+1]),(3,Only [w0.heap.size+1+1+1])] j w w:=zZ.refl (by
   intro x hx w;simp only [List.mem_cons,List.not_mem_nil,or_false] at hx
   rcases hx with rfl | rfl <;> exact Only.refl _ _)
  have hC0:∀ d∈[2,3],(fun (i:Nat) (a:World)=>(i=2→Row a (w0.heap.size+1+1) 29 [.slice none 0 0,.slice none 0 0])∧(i=3→Row a (w0.heap.size+1+1+1) 38 [.int .i64 0,.string ⟨#[]⟩])) d w12.drew:=fun _ _=>⟨fun _=>Hz3.out.zB (Only.drew _),fun _=>Hz4.out.zB (Only.drew _)⟩;refine zU (Only [w0.heap.size+1+1,w0.heap.size+1+1+1]) (zZ [(2,Only [w0.heap.size+1+1]),(3,Only [w0.heap.size+1+1+1])]) (fun (i:Nat) (a:World)=>(i=2→Row a (w0.heap.size+1+1) 29 [.slice none 0 0,.slice none 0 0])∧(i=3→Row a (w0.heap.size+1+1+1) 38 [.int .i64 0,.string ⟨#[]⟩])) [2,3] [[(6,none)],[],[(4,none),(62,some 1)],[(5,none),(63,some 1)]] [] [1,0] [none,none,none,none,none,none,none,none,none,none,none,none,none,none,none,none,none,none,none,none,none,none,none,none,none,none,none,none,none,none,none,none,none,none,none,none,none,none,none,none,none,none,none,none,none,none,none,none,none,none,none,none,none,none,none,none,none,none,none,none,none,none,some 62,some 63,none,none,none,none,none,none,none,none,none,none,none,none,none,none,none,none,none,none,none,none,none,none,none,none,none,none,none,none,none,none,none,none,none,none,none,none,none,none,none,none,none,none,none,none,none,none,none,none,none] (by kernel_rfl) rfl (by kernel_rfl) hRr hRt hRs hRd hC0 (by kernel_rfl) (by kernel_rfl) ?_
  apply zF
  ·rintro a w hR hC ⟨(e6:_=_),-⟩;refine zA rfl fun K hK=>?_;have hA:=HB0.out.only hR (by have h9:=HX6.out.1;have h10:=Hsz.out;simp <;> omega);have g0:=hA.cell (i:=0) rfl;have g1:=hA.cell (i:=1) rfl;go_simp;exact hK _ _ rfl ⟨hRr _,hRs _ _,fun _ _ _ _ h=>h⟩
  apply zF
  ·intro a w hR hC hf;refine zA rfl fun K hK=>?_;go_simp;(with_reducible refine (yB 0 w).mono ?_);rintro e w' ⟨rfl,o'⟩;exact hK _ _ rfl ⟨o'.mono (by simp),o',fun i _ _ _ hc=>⟨fun e=>(hc.1 e).zB o',fun e=>(hc.2 e).zB o'⟩⟩
  refine ⟨qH (w0.heap.size+1+1) 29 [(.slice C.pb cb C.cb),(.slice p' ny c')],zL qH.stable (by intro x hx hk;simp only [List.mem_cons,List.not_mem_nil,or_false] at hx;rcases hx with rfl | rfl <;> first | (refine qH.jC ?_;simp <;> omega;done) | exact Bool.noConfusion (hk.symm.trans (by kernel_rfl:_=true))),fun a w hR hC hf=>?_,?_⟩
  ·obtain ⟨e4,e62,-⟩:=hf;replace e4:a.tmps.getD 4 undef=_:=e4;replace e62:a.tmps.getD 62 undef=_:=e62;refine zA rfl fun K hK=>?_;have rz:=(hC 2 (by simp) (by kernel_rfl)).1 rfl;have zc0:=rz.cell (i:=0) rfl;have zc1:=rz.cell (i:=1) rfl;have zf0:=rz.free 0;have zf1:=rz.free 1;go_simp;have hst:=qB w (w0.heap.size+1+1) ((.slice C.pb cb C.cb)) ((.slice p' ny c'));refine hK undef _ (Row.set2 rz _ _) ⟨hst.mono (by simp),hst,fun i hi hne ha hc=>⟨fun e=>(hc.1 e).only hst (by first | exact absurd e hne | (simp <;> omega)),fun e=>(hc.2 e).only hst (by first | exact absurd e hne | (simp <;> omega))⟩⟩
  refine ⟨qH (w0.heap.size+1+1+1) 38 [.int .i64 0,.string (str [])],zL qH.stable (by intro x hx hk;simp only [List.mem_cons,List.not_mem_nil,or_false] at hx;rcases hx with rfl | rfl <;> first | (refine qH.jC ?_;simp <;> omega;done) | exact Bool.noConfusion (hk.symm.trans (by kernel_rfl:_=true))),fun a w hR hC hf=>?_,?_⟩
  ·obtain ⟨e5,e63,-⟩:=hf;replace e5:a.tmps.getD 5 undef=_:=e5;replace e63:a.tmps.getD 63 undef=_:=e63;refine zA rfl fun K hK=>?_;have rz:=(hC 3 (by simp) (by kernel_rfl)).2 rfl;have zc0:=rz.cell (i:=0) rfl;have zc1:=rz.cell (i:=1) rfl;have zf0:=rz.free 0;have zf1:=rz.free 1;go_simp;have hst:=qB w (w0.heap.size+1+1+1) (.int .i64 0) (.string (str []));refine hK undef _ (Row.set2 rz _ _) ⟨hst.mono (by simp),hst,fun i hi hne ha hc=>⟨fun e=>(hc.1 e).only hst (by first | exact absurd e hne | (simp <;> omega)),fun e=>(hc.2 e).only hst (by first | exact absurd e hne | (simp <;> omega))⟩⟩
  intro fEF0 wEF0 hREF0 hf hlEF0;dsimp only [qE];obtain ⟨l2,l3,-⟩:=hlEF0;replace l2:∃ v,(qH (w0.heap.size+1+1) 29 [(.slice C.pb cb C.cb),(.slice p' ny c')]) v wEF0:=l2;replace l3:∃ v,(qH (w0.heap.size+1+1+1) 38 [.int .i64 0,.string (str [])]) v wEF0:=l3;obtain ⟨_,l2⟩:=l2;obtain ⟨_,l3⟩:=l3;replace l2:Row wEF0 (w0.heap.size+1+1) 29 [(.slice C.pb cb C.cb),(.slice p' ny c')]:=l2;replace l3:Row wEF0 (w0.heap.size+1+1+1) 38 [.int .i64 0,.string (str [])]:=l3;have hsz9:=Hsz.out;have oE:Only [] w0 wEF0:=HXo.out.2.2.zY hREF0 (by simp;omega)
  have hE:=(HXo.out.1.only hREF0 (fun z hz hm=>by have h9:=HXo.out.2.1 z hz;simp only [List.mem_cons,List.not_mem_nil,or_false] at hm;omega)).weaken (show w0.heap.size≤w4.heap.size by omega);have HE:=Lib.hid (show qA wEF0 w0.heap.size { C with fs:=YS,pf:=p',cf:=c' }∧Only [] w0 wEF0 from ⟨hE,oE⟩);clear hREF0 hRr hRt hRd hRs hC0 hE oE;go_wp2_with fail;refine bodyPost_ret (xD rfl _ _ _ _ rfl rfl l2 l3 Tryz.underlying29 vL Tryz.underlying38 jH) rfl ⟨{ C with fs:=YS,pf:=p',cf:=c' },⟨0,[]⟩,?_,HE.out.1,?_,HE.out.2⟩
  ·unfold lcV xM;dsimp only;rw [HC.out.2.2.1,HY.out.1]
  ·rw [Happ.out,Hfo.out];rfl
 | true =>
  obtain ⟨f,hf,hfn⟩:=jQ HY.out.2.2.2;rw [HY.out.2.2.1] at hf;have hilt:i < cf:=(by have:=(List.getElem?_eq_some_iff.1 hf).1;have:=HC.out.2.2.2;omega);obtain ⟨gf,-,hgf,-,-⟩:=HC.out.2.1.sf.rowOf (by have:=HC.out.2.2.2;omega);have hrd:=HC.out.2.1.sf.view.2.2.1;rw [hgf] at hrd;have y0:=zP qD hrd hf (r:=0) rfl;have y1:=zP qD hrd hf (r:=1) rfl;have y2:=zP qD hrd hf (r:=2) rfl;rw [Addr.add_lit,Nat.zero_add] at y0 y1 y2;rw [Nat.add_zero] at y0;have hii:(i:Int) < (cf:Int):=(by omega);have HN:Hid (∀ w,Only [] w6 w→w.cell? ⟨gf,i * 3,none⟩=some (.int .i64 f.node)∧w.cell? ⟨gf,i * 3+1,none⟩=some (.int .i64 f.boot)∧w.cell? ⟨gf,i * 3+2,none⟩=some (.int .i64 f.seq)∧w.cell? ⟨X6,1,none⟩=some (.slice (some ⟨gf,0,none⟩) cf C.cf)):=Lib.hid (fun w h=>⟨h.cell y0 (by simp),h.cell y1 (by simp),h.cell y2 (by simp),by rw [← hgf];exact (HM.out w h).2.2.2.2⟩)
  have hcmp:=fun w=>zDs f m.x.id w;unfold idV at hcmp
  have hfo:zAb C.fs m.x.id=if ltI f m.x.id then YS else C.fs:=by
   unfold zAb;rw [HY.out.2.2.1,hf];dsimp only
   by_cases hl:ltI f m.x.id
   ·rw [if_neg (fun h=>h.2 hl),if_pos hl];exact HY.out.2.1
   ·rw [if_pos ⟨hfn,hl⟩,if_neg hl]
  clear hf hfn hilt hgf hrd y0 y1 y2
  by_cases hl:ltI f m.x.id
  ·rw [if_pos hl] at hfo;rw [decide_eq_true hl] at hcmp;unfold sgn at hcmp;rw [if_pos rfl] at hcmp;have Hfo:=Lib.hid hfo;clear hfo hl
   go_upto_region 9 with (fail)
   refine qY (Only []) [[(8,none)],[(40,some 0)],[(41,some 0)],[(42,some 0),(6,none)],[(42,some 1),(43,some 0)],[(42,some 2),(7,none)],[(42,some 3),(44,some 1),(45,some 0)],[(42,some 4),(46,some 0)],[(42,some 5),(3,none)],[(42,some 6),(48,some 0)],[(42,some 7),(47,some 2),(49,some 0)],[(42,some 8),(50,some 0)],[(42,some 9),(51,some 0)]] [(52,0)] [none,none,none,none,none,none,none,none,none,none,none,none,none,none,none,none,none,none,none,none,none,none,none,none,none,none,none,none,none,none,none,none,none,none,none,none,none,none,none,none,some 40,some 41,some 42,some 43,some 44,some 45,some 46,some 47,some 48,some 49,some 50,some 51,some 52,none,none,none,none,none,none,none,none,none,none,none,none,none,none,none,none,none,none,none,none,none,none,none,none,none,none,none,none,none,none,none,none,none,none,none,none,none,none,none,none,none,none,none,none,none,none,none,none,none,none,none,none,none,none,none,none,none,none,none,none] (by kernel_rfl) rfl (by kernel_rfl) (fun _=>Only.refl _ _) (fun _ _ _ h k=>h.zC k) (Only.drew _) (by kernel_rfl) ?_
   apply zJ
   ·rintro a w hR ⟨(e8:_=_),-⟩;refine zA rfl fun K hK=>?_;go_simp;exact hK _ _ rfl (Only.refl _ _)
   apply zJ
   ·rintro a w hR ⟨(e40:_=_),-⟩;refine zA rfl fun K hK=>?_;go_simp;exact hK _ _ rfl (Only.refl _ _)
   apply zJ
   ·rintro a w hR ⟨(e41:_=_),-⟩;refine zA rfl fun K hK=>?_;go_simp;exact hK _ _ rfl (Only.refl _ _)
   apply zJ
   ·rintro a w hR ⟨(e42:_=_),(e6:_=_),-⟩;refine zX rfl rfl e42 fun K hK=>?_;clear e42;go_simp;exact hK _ _ rfl (Only.refl _ _)
   apply zJ
   ·rintro a w hR ⟨(e42:_=_),(e43:_=_),-⟩;refine zX rfl rfl e42 fun K hK=>?_;clear e42;obtain ⟨g0,g1,g2,g3⟩:=HN.out w (HO7.out.zC hR);go_simp;exact hK _ _ rfl (Only.refl _ _)
   apply zJ
   ·rintro a w hR ⟨(e42:_=_),(e7:_=_),-⟩;refine zX rfl rfl e42 fun K hK=>?_;clear e42;go_simp;exact hK _ _ rfl (Only.refl _ _)
   apply zJ
   ·rintro a w hR ⟨(e42:_=_),(e44:_=_),(e45:_=_),-⟩;refine zX rfl rfl e42 fun K hK=>?_;clear e42;have hjj:(i:Int) < (cf:Int):=hii;go_simp;exact hK _ _ rfl (Only.refl _ _)
   apply zJ
   ·rintro a w hR ⟨(e42:_=_),(e46:_=_),-⟩;refine zX rfl rfl e42 fun K hK=>?_;clear e42;obtain ⟨g0,g1,g2,g3⟩:=HN.out w (HO7.out.zC hR);go_simp;exact hK _ _ rfl (Only.refl _ _)
   apply zJ
   ·rintro a w hR ⟨(e42:_=_),(e3:_=_),-⟩;refine zX rfl rfl e42 fun K hK=>?_;clear e42;go_simp;exact hK _ _ rfl (Only.refl _ _)
   apply zJ
   ·rintro a w hR ⟨(e42:_=_),(e48:_=_),-⟩;refine zX rfl rfl e42 fun K hK=>?_;clear e42;obtain ⟨g0,g1,g2,g3,g4⟩:=HM.out w (HO7.out.zC hR);go_simp;exact hK _ _ rfl (Only.refl _ _)
   apply zJ
   ·rintro a w hR ⟨(e42:_=_),(e47:_=_),(e49:_=_),-⟩;refine zX rfl rfl e42 fun K hK=>?_;clear e42;go_simp;(with_reducible refine (hcmp w).mono ?_);rintro e w' ⟨rfl,o'⟩;exact hK _ _ rfl o'
   apply zJ
   ·rintro a w hR ⟨(e42:_=_),(e50:_=_),-⟩;refine zX rfl rfl e42 fun K hK=>?_;clear e42;go_simp;exact hK _ _ rfl (Only.refl _ _)
   apply zJ
   ·rintro a w hR ⟨(e42:_=_),(e51:_=_),-⟩;refine zA rfl fun K hK=>?_;go_simp;exact hK _ _ rfl (Only.refl _ _)
   intro f9 w9 hR9 hf;dsimp only [qE];obtain ⟨e52,-⟩:=hf;replace e52:f9 52=_:=e52;rw [e52];have HO8:=Lib.hid (HO7.out.zC hR9);clear hR9 HO7 hcmp HN hii;obtain ⟨q1,q2,q3,q4,q5⟩:=HM.out w9 HO8.out;go_wp2_with fail;refine (HS.out w9 HO8.out).mono ?_;rintro e w10 ⟨p',c',rfl,h1,h2,h3⟩;clear q1 q2 q3 q4 q5;have hnC:∀ z,z < w4.heap.size→z ∉ blk C.pf:=fun z hz hm=>(by have:=(HX6.out.2 z (by unfold qK.fp;exact List.mem_append_right _ (List.mem_append_left _ hm))).1;omega);have hX6n:X6 ∉ blk C.pf:=fun hm=>by have:=(HX6.out.2 X6 (by unfold qK.fp;exact List.mem_append_right _ (List.mem_append_left _ hm))).2;omega
   have hb:=(Hr6.out.zB HO8.out).only h2 hX6n;have k1:=hb.cell (i:=1) rfl;have f1:=hb.free 1;obtain ⟨w12,hw12⟩:∃ w,w=w10.setCell ⟨X6,1,none⟩ (.slice p' ny c'):=⟨_,rfl⟩;have o12:Only [X6] w10 w12:=(by rw [hw12];exact Only.setCell _ ⟨X6,1,none⟩ _);have hb2:=hb.setCell 1 (.slice p' ny c');rw [← hw12] at hb2;have hof:=(HC.out.2.1.zB HO8.out).zAW (fs':=YS) h2 (by rw [HY.out.1];exact h1) h3;have h9X:X6 < w9.heap.size:=(Hr6.out.zB HO8.out).lt
   have hfpn:∀ z∈({ C with fs:=YS,pf:=p',cf:=c' }:qK).fp,z∈C.fp∨w9.heap.size≤z:=fun z hz=>by
    have hz':z∈blk C.pb ++ (blk p' ++ C.bs.flatMap LBk.fp):=hz;unfold qK.fp;simp only [List.mem_append] at hz' ⊢
    rcases hz' with k | k | k
    ·exact .inl (.inl k)
    ·exact (h3 z k).imp (fun h=>.inr (.inl h)) id
    ·exact .inl (.inr (.inr k))
   have hX6f:X6 ∉ ({ C with fs:=YS,pf:=p',cf:=c' }:qK).fp:=fun hm=>by
    rcases hfpn _ hm with k | k
    ·have:=(HX6.out.2 _ k).2;omega
    ·omega
   have hsz4:=Hsz.out;have hX4:=HX6.out.1;have hA2n:w0.heap.size+1+1 ∉ blk C.pf:=hnC _ (by omega);have hA3n:w0.heap.size+1+1+1 ∉ blk C.pf:=hnC _ (by omega);have Hz3:=Lib.hid (((Hr3.out.zB (H46.out.zC HO8.out)).only h2 hA2n).only o12 (by simp;omega));have Hz4:=Lib.hid (((Hr4.out.zB (H46.out.zC HO8.out)).only h2 hA3n).only o12 (by simp;omega));have HB0:Hid (Row w12 X6 29 [.slice C.pb cb C.cb,.slice p' ny c']):=Lib.hid hb2
   have HXo:Hid (qA w12 w4.heap.size { C with fs:=YS,pf:=p',cf:=c' }∧(∀ z∈({ C with fs:=YS,pf:=p',cf:=c' }:qK).fp,w4.heap.size≤z)∧Only [] w0 w12):=Lib.hid ⟨hof.only o12 (fun z hz hm=>hX6f (by rw [← List.mem_singleton.1 hm];exact hz)),fun z hz=>(hof.lo z hz).1,((HO6.out.zC HO8.out).zY h2 (fun z hz=>by
    by_cases h:z < w4.heap.size
    ·exact absurd hz (hnC z h)
    ·have:=HO.out.size;omega)).zY o12 (fun z hz=>by rw [List.mem_singleton.1 hz];have:=HO.out.size;omega)⟩
   have Hw12:=Lib.hid hw12;clear h1 h2 h3 hnC hX6n hb hw12 o12 hb2 hof hfpn hX6f hA2n hA3n
   go_upto_region 11 with (fail)
   rw [← Hw12.out];clear Hw12 k1 f1;have hRr:∀ x,(Only [w0.heap.size+1+1,w0.heap.size+1+1+1]) x x:=fun x=>Only.refl _ _;have hRt:∀ x b e,(Only [w0.heap.size+1+1,w0.heap.size+1+1+1]) x b→(Only [w0.heap.size+1+1,w0.heap.size+1+1+1]) b e→(Only [w0.heap.size+1+1,w0.heap.size+1+1+1]) x e:=fun _ _ _ h k=>h.trans k (fun _ h _=>h);have hRd:(Only [w0.heap.size+1+1,w0.heap.size+1+1+1]) w12 w12.drew:=(Only.drew _).mono (by simp)
   have hRs:∀ j w,zZ [(2,Only [w0.heap.size+1+1]),(3,Only [w0.heap.size+1+1+1])] j w w:=zZ.refl (by
    intro x hx w;simp only [List.mem_cons,List.not_mem_nil,or_false] at hx
    rcases hx with rfl | rfl <;> exact Only.refl _ _)
   have hC0:∀ d∈[2,3],(fun (i:Nat) (a:World)=>(i=2→Row a (w0.heap.size+1+1) 29 [.slice none 0 0,.slice none 0 0])∧(i=3→Row a (w0.heap.size+1+1+1) 38 [.int .i64 0,.string ⟨#[]⟩])) d w12.drew:=fun _ _=>⟨fun _=>Hz3.out.zB (Only.drew _),fun _=>Hz4.out.zB (Only.drew _)⟩;refine zU (Only [w0.heap.size+1+1,w0.heap.size+1+1+1]) (zZ [(2,Only [w0.heap.size+1+1]),(3,Only [w0.heap.size+1+1+1])]) (fun (i:Nat) (a:World)=>(i=2→Row a (w0.heap.size+1+1) 29 [.slice none 0 0,.slice none 0 0])∧(i=3→Row a (w0.heap.size+1+1+1) 38 [.int .i64 0,.string ⟨#[]⟩])) [2,3] [[(6,none)],[],[(4,none),(62,some 1)],[(5,none),(63,some 1)]] [] [1,0] [none,none,none,none,none,none,none,none,none,none,none,none,none,none,none,none,none,none,none,none,none,none,none,none,none,none,none,none,none,none,none,none,none,none,none,none,none,none,none,none,none,none,none,none,none,none,none,none,none,none,none,none,none,none,none,none,none,none,none,none,none,none,some 62,some 63,none,none,none,none,none,none,none,none,none,none,none,none,none,none,none,none,none,none,none,none,none,none,none,none,none,none,none,none,none,none,none,none,none,none,none,none,none,none,none,none,none,none,none,none,none,none,none,none,none] (by kernel_rfl) rfl (by kernel_rfl) hRr hRt hRs hRd hC0 (by kernel_rfl) (by kernel_rfl) ?_
   apply zF
   ·rintro a w hR hC ⟨(e6:_=_),-⟩;refine zA rfl fun K hK=>?_;have hA:=HB0.out.only hR (by have h9:=HX6.out.1;have h10:=Hsz.out;simp <;> omega);have g0:=hA.cell (i:=0) rfl;have g1:=hA.cell (i:=1) rfl;go_simp;exact hK _ _ rfl ⟨hRr _,hRs _ _,fun _ _ _ _ h=>h⟩
   apply zF
   ·intro a w hR hC hf;refine zA rfl fun K hK=>?_;go_simp;(with_reducible refine (yB 0 w).mono ?_);rintro e w' ⟨rfl,o'⟩;exact hK _ _ rfl ⟨o'.mono (by simp),o',fun i _ _ _ hc=>⟨fun e=>(hc.1 e).zB o',fun e=>(hc.2 e).zB o'⟩⟩
   refine ⟨qH (w0.heap.size+1+1) 29 [(.slice C.pb cb C.cb),(.slice p' ny c')],zL qH.stable (by intro x hx hk;simp only [List.mem_cons,List.not_mem_nil,or_false] at hx;rcases hx with rfl | rfl <;> first | (refine qH.jC ?_;simp <;> omega;done) | exact Bool.noConfusion (hk.symm.trans (by kernel_rfl:_=true))),fun a w hR hC hf=>?_,?_⟩
   ·obtain ⟨e4,e62,-⟩:=hf;replace e4:a.tmps.getD 4 undef=_:=e4;replace e62:a.tmps.getD 62 undef=_:=e62;refine zA rfl fun K hK=>?_;have rz:=(hC 2 (by simp) (by kernel_rfl)).1 rfl;have zc0:=rz.cell (i:=0) rfl;have zc1:=rz.cell (i:=1) rfl;have zf0:=rz.free 0;have zf1:=rz.free 1;go_simp;have hst:=qB w (w0.heap.size+1+1) ((.slice C.pb cb C.cb)) ((.slice p' ny c'));refine hK undef _ (Row.set2 rz _ _) ⟨hst.mono (by simp),hst,fun i hi hne ha hc=>⟨fun e=>(hc.1 e).only hst (by first | exact absurd e hne | (simp <;> omega)),fun e=>(hc.2 e).only hst (by first | exact absurd e hne | (simp <;> omega))⟩⟩
   refine ⟨qH (w0.heap.size+1+1+1) 38 [.int .i64 0,.string (str [])],zL qH.stable (by intro x hx hk;simp only [List.mem_cons,List.not_mem_nil,or_false] at hx;rcases hx with rfl | rfl <;> first | (refine qH.jC ?_;simp <;> omega;done) | exact Bool.noConfusion (hk.symm.trans (by kernel_rfl:_=true))),fun a w hR hC hf=>?_,?_⟩
   ·obtain ⟨e5,e63,-⟩:=hf;replace e5:a.tmps.getD 5 undef=_:=e5;replace e63:a.tmps.getD 63 undef=_:=e63;refine zA rfl fun K hK=>?_;have rz:=(hC 3 (by simp) (by kernel_rfl)).2 rfl;have zc0:=rz.cell (i:=0) rfl;have zc1:=rz.cell (i:=1) rfl;have zf0:=rz.free 0;have zf1:=rz.free 1;go_simp;have hst:=qB w (w0.heap.size+1+1+1) (.int .i64 0) (.string (str []));refine hK undef _ (Row.set2 rz _ _) ⟨hst.mono (by simp),hst,fun i hi hne ha hc=>⟨fun e=>(hc.1 e).only hst (by first | exact absurd e hne | (simp <;> omega)),fun e=>(hc.2 e).only hst (by first | exact absurd e hne | (simp <;> omega))⟩⟩
   intro fEF1 wEF1 hREF1 hf hlEF1;dsimp only [qE];obtain ⟨l2,l3,-⟩:=hlEF1;replace l2:∃ v,(qH (w0.heap.size+1+1) 29 [(.slice C.pb cb C.cb),(.slice p' ny c')]) v wEF1:=l2;replace l3:∃ v,(qH (w0.heap.size+1+1+1) 38 [.int .i64 0,.string (str [])]) v wEF1:=l3;obtain ⟨_,l2⟩:=l2;obtain ⟨_,l3⟩:=l3;replace l2:Row wEF1 (w0.heap.size+1+1) 29 [(.slice C.pb cb C.cb),(.slice p' ny c')]:=l2;replace l3:Row wEF1 (w0.heap.size+1+1+1) 38 [.int .i64 0,.string (str [])]:=l3;have hsz9:=Hsz.out;have oE:Only [] w0 wEF1:=HXo.out.2.2.zY hREF1 (by simp;omega)
   have hE:=(HXo.out.1.only hREF1 (fun z hz hm=>by have h9:=HXo.out.2.1 z hz;simp only [List.mem_cons,List.not_mem_nil,or_false] at hm;omega)).weaken (show w0.heap.size≤w4.heap.size by omega);have HE:=Lib.hid (show qA wEF1 w0.heap.size { C with fs:=YS,pf:=p',cf:=c' }∧Only [] w0 wEF1 from ⟨hE,oE⟩);clear hREF1 hRr hRt hRd hRs hC0 hE oE;go_wp2_with fail;refine bodyPost_ret (xD rfl _ _ _ _ rfl rfl l2 l3 Tryz.underlying29 vL Tryz.underlying38 jH) rfl ⟨{ C with fs:=YS,pf:=p',cf:=c' },⟨0,[]⟩,?_,HE.out.1,?_,HE.out.2⟩
   ·unfold lcV xM;dsimp only;rw [HC.out.2.2.1,HY.out.1]
   ·rw [Happ.out,Hfo.out];rfl
  ·rw [if_neg hl] at hfo;rw [decide_eq_false hl] at hcmp;unfold sgn at hcmp;rw [if_neg (by simp)] at hcmp;obtain ⟨sv,hsv⟩:∃ s:Int,(if decide (f=m.x.id)=true then (0:Int) else 1)=s:=⟨_,rfl⟩;rw [hsv] at hcmp;have hsn:¬ sv < 0:=(by rw [← hsv];split <;> omega);have Hfo:=Lib.hid hfo;clear hfo hl hsv
   go_upto_region 9 with (fail)
   refine qY (Only []) [[(8,none)],[(40,some 0)],[(41,some 0)],[(42,some 0),(6,none)],[(42,some 1),(43,some 0)],[(42,some 2),(7,none)],[(42,some 3),(44,some 1),(45,some 0)],[(42,some 4),(46,some 0)],[(42,some 5),(3,none)],[(42,some 6),(48,some 0)],[(42,some 7),(47,some 2),(49,some 0)],[(42,some 8),(50,some 0)],[(42,some 9),(51,some 0)]] [(52,0)] [none,none,none,none,none,none,none,none,none,none,none,none,none,none,none,none,none,none,none,none,none,none,none,none,none,none,none,none,none,none,none,none,none,none,none,none,none,none,none,none,some 40,some 41,some 42,some 43,some 44,some 45,some 46,some 47,some 48,some 49,some 50,some 51,some 52,none,none,none,none,none,none,none,none,none,none,none,none,none,none,none,none,none,none,none,none,none,none,none,none,none,none,none,none,none,none,none,none,none,none,none,none,none,none,none,none,none,none,none,none,none,none,none,none,none,none,none,none,none,none,none,none,none,none,none,none] (by kernel_rfl) rfl (by kernel_rfl) (fun _=>Only.refl _ _) (fun _ _ _ h k=>h.zC k) (Only.drew _) (by kernel_rfl) ?_
   apply zJ
   ·rintro a w hR ⟨(e8:_=_),-⟩;refine zA rfl fun K hK=>?_;go_simp;exact hK _ _ rfl (Only.refl _ _)
   apply zJ
   ·rintro a w hR ⟨(e40:_=_),-⟩;refine zA rfl fun K hK=>?_;go_simp;exact hK _ _ rfl (Only.refl _ _)
   apply zJ
   ·rintro a w hR ⟨(e41:_=_),-⟩;refine zA rfl fun K hK=>?_;go_simp;exact hK _ _ rfl (Only.refl _ _)
   apply zJ
   ·rintro a w hR ⟨(e42:_=_),(e6:_=_),-⟩;refine zX rfl rfl e42 fun K hK=>?_;clear e42;go_simp;exact hK _ _ rfl (Only.refl _ _)
   apply zJ
   ·rintro a w hR ⟨(e42:_=_),(e43:_=_),-⟩;refine zX rfl rfl e42 fun K hK=>?_;clear e42;obtain ⟨g0,g1,g2,g3⟩:=HN.out w (HO7.out.zC hR);go_simp;exact hK _ _ rfl (Only.refl _ _)
   apply zJ
   ·rintro a w hR ⟨(e42:_=_),(e7:_=_),-⟩;refine zX rfl rfl e42 fun K hK=>?_;clear e42;go_simp;exact hK _ _ rfl (Only.refl _ _)
   apply zJ
   ·rintro a w hR ⟨(e42:_=_),(e44:_=_),(e45:_=_),-⟩;refine zX rfl rfl e42 fun K hK=>?_;clear e42;have hjj:(i:Int) < (cf:Int):=hii;go_simp;exact hK _ _ rfl (Only.refl _ _)
   apply zJ
   ·rintro a w hR ⟨(e42:_=_),(e46:_=_),-⟩;refine zX rfl rfl e42 fun K hK=>?_;clear e42;obtain ⟨g0,g1,g2,g3⟩:=HN.out w (HO7.out.zC hR);go_simp;exact hK _ _ rfl (Only.refl _ _)
   apply zJ
   ·rintro a w hR ⟨(e42:_=_),(e3:_=_),-⟩;refine zX rfl rfl e42 fun K hK=>?_;clear e42;go_simp;exact hK _ _ rfl (Only.refl _ _)
   apply zJ
   ·rintro a w hR ⟨(e42:_=_),(e48:_=_),-⟩;refine zX rfl rfl e42 fun K hK=>?_;clear e42;obtain ⟨g0,g1,g2,g3,g4⟩:=HM.out w (HO7.out.zC hR);go_simp;exact hK _ _ rfl (Only.refl _ _)
   apply zJ
   ·rintro a w hR ⟨(e42:_=_),(e47:_=_),(e49:_=_),-⟩;refine zX rfl rfl e42 fun K hK=>?_;clear e42;go_simp;(with_reducible refine (hcmp w).mono ?_);rintro e w' ⟨rfl,o'⟩;exact hK _ _ rfl o'
   apply zJ
   ·rintro a w hR ⟨(e42:_=_),(e50:_=_),-⟩;refine zX rfl rfl e42 fun K hK=>?_;clear e42;go_simp;exact hK _ _ rfl (Only.refl _ _)
   apply zJ
   ·rintro a w hR ⟨(e42:_=_),(e51:_=_),-⟩;refine zA rfl fun K hK=>?_;go_simp;exact hK _ _ rfl (Only.refl _ _)
   intro f9 w9 hR9 hf;dsimp only [qE];obtain ⟨e52,-⟩:=hf;replace e52:f9 52=_:=e52;rw [e52];have HO8:=Lib.hid (HO7.out.zC hR9);clear hR9 HO7 hcmp HN hii;have Hz3:=Lib.hid (Hr3.out.zB (H46.out.zC HO8.out));have Hz4:=Lib.hid (Hr4.out.zB (H46.out.zC HO8.out));have HB0:=Lib.hid (Hr6.out.zB HO8.out);have HXo:Hid (qA w9 w4.heap.size C∧(∀ z∈C.fp,w4.heap.size≤z)∧Only [] w0 w9):=Lib.hid ⟨HC.out.2.1.zB HO8.out,fun z hz=>(HX6.out.2 z hz).1,HO6.out.zC HO8.out⟩
   go_upto_region 11 with (fail)
   have hRr:∀ x,(Only [w0.heap.size+1+1,w0.heap.size+1+1+1]) x x:=fun x=>Only.refl _ _;have hRt:∀ x b e,(Only [w0.heap.size+1+1,w0.heap.size+1+1+1]) x b→(Only [w0.heap.size+1+1,w0.heap.size+1+1+1]) b e→(Only [w0.heap.size+1+1,w0.heap.size+1+1+1]) x e:=fun _ _ _ h k=>h.trans k (fun _ h _=>h);have hRd:(Only [w0.heap.size+1+1,w0.heap.size+1+1+1]) w9 w9.drew:=(Only.drew _).mono (by simp)
   have hRs:∀ j w,zZ [(2,Only [w0.heap.size+1+1]),(3,Only [w0.heap.size+1+1+1])] j w w:=zZ.refl (by
    intro x hx w;simp only [List.mem_cons,List.not_mem_nil,or_false] at hx
    rcases hx with rfl | rfl <;> exact Only.refl _ _)
   have hC0:∀ d∈[2,3],(fun (i:Nat) (a:World)=>(i=2→Row a (w0.heap.size+1+1) 29 [.slice none 0 0,.slice none 0 0])∧(i=3→Row a (w0.heap.size+1+1+1) 38 [.int .i64 0,.string ⟨#[]⟩])) d w9.drew:=fun _ _=>⟨fun _=>Hz3.out.zB (Only.drew _),fun _=>Hz4.out.zB (Only.drew _)⟩;refine zU (Only [w0.heap.size+1+1,w0.heap.size+1+1+1]) (zZ [(2,Only [w0.heap.size+1+1]),(3,Only [w0.heap.size+1+1+1])]) (fun (i:Nat) (a:World)=>(i=2→Row a (w0.heap.size+1+1) 29 [.slice none 0 0,.slice none 0 0])∧(i=3→Row a (w0.heap.size+1+1+1) 38 [.int .i64 0,.string ⟨#[]⟩])) [2,3] [[(6,none)],[],[(4,none),(62,some 1)],[(5,none),(63,some 1)]] [] [1,0] [none,none,none,none,none,none,none,none,none,none,none,none,none,none,none,none,none,none,none,none,none,none,none,none,none,none,none,none,none,none,none,none,none,none,none,none,none,none,none,none,none,none,none,none,none,none,none,none,none,none,none,none,none,none,none,none,none,none,none,none,none,none,some 62,some 63,none,none,none,none,none,none,none,none,none,none,none,none,none,none,none,none,none,none,none,none,none,none,none,none,none,none,none,none,none,none,none,none,none,none,none,none,none,none,none,none,none,none,none,none,none,none,none,none,none] (by kernel_rfl) rfl (by kernel_rfl) hRr hRt hRs hRd hC0 (by kernel_rfl) (by kernel_rfl) ?_
   apply zF
   ·rintro a w hR hC ⟨(e6:_=_),-⟩;refine zA rfl fun K hK=>?_;have hA:=HB0.out.only hR (by have h9:=HX6.out.1;have h10:=Hsz.out;simp <;> omega);have g0:=hA.cell (i:=0) rfl;have g1:=hA.cell (i:=1) rfl;go_simp;exact hK _ _ rfl ⟨hRr _,hRs _ _,fun _ _ _ _ h=>h⟩
   apply zF
   ·intro a w hR hC hf;refine zA rfl fun K hK=>?_;go_simp;(with_reducible refine (yB 0 w).mono ?_);rintro e w' ⟨rfl,o'⟩;exact hK _ _ rfl ⟨o'.mono (by simp),o',fun i _ _ _ hc=>⟨fun e=>(hc.1 e).zB o',fun e=>(hc.2 e).zB o'⟩⟩
   refine ⟨qH (w0.heap.size+1+1) 29 [.slice C.pb cb C.cb,.slice C.pf cf C.cf],zL qH.stable (by intro x hx hk;simp only [List.mem_cons,List.not_mem_nil,or_false] at hx;rcases hx with rfl | rfl <;> first | (refine qH.jC ?_;simp <;> omega;done) | exact Bool.noConfusion (hk.symm.trans (by kernel_rfl:_=true))),fun a w hR hC hf=>?_,?_⟩
   ·obtain ⟨e4,e62,-⟩:=hf;replace e4:a.tmps.getD 4 undef=_:=e4;replace e62:a.tmps.getD 62 undef=_:=e62;refine zA rfl fun K hK=>?_;have rz:=(hC 2 (by simp) (by kernel_rfl)).1 rfl;have zc0:=rz.cell (i:=0) rfl;have zc1:=rz.cell (i:=1) rfl;have zf0:=rz.free 0;have zf1:=rz.free 1;go_simp;have hst:=qB w (w0.heap.size+1+1) (.slice C.pb cb C.cb) (.slice C.pf cf C.cf);refine hK undef _ (Row.set2 rz _ _) ⟨hst.mono (by simp),hst,fun i hi hne ha hc=>⟨fun e=>(hc.1 e).only hst (by first | exact absurd e hne | (simp <;> omega)),fun e=>(hc.2 e).only hst (by first | exact absurd e hne | (simp <;> omega))⟩⟩
   refine ⟨qH (w0.heap.size+1+1+1) 38 [.int .i64 0,.string (str [])],zL qH.stable (by intro x hx hk;simp only [List.mem_cons,List.not_mem_nil,or_false] at hx;rcases hx with rfl | rfl <;> first | (refine qH.jC ?_;simp <;> omega;done) | exact Bool.noConfusion (hk.symm.trans (by kernel_rfl:_=true))),fun a w hR hC hf=>?_,?_⟩
   ·obtain ⟨e5,e63,-⟩:=hf;replace e5:a.tmps.getD 5 undef=_:=e5;replace e63:a.tmps.getD 63 undef=_:=e63;refine zA rfl fun K hK=>?_;have rz:=(hC 3 (by simp) (by kernel_rfl)).2 rfl;have zc0:=rz.cell (i:=0) rfl;have zc1:=rz.cell (i:=1) rfl;have zf0:=rz.free 0;have zf1:=rz.free 1;go_simp;have hst:=qB w (w0.heap.size+1+1+1) (.int .i64 0) (.string (str []));refine hK undef _ (Row.set2 rz _ _) ⟨hst.mono (by simp),hst,fun i hi hne ha hc=>⟨fun e=>(hc.1 e).only hst (by first | exact absurd e hne | (simp <;> omega)),fun e=>(hc.2 e).only hst (by first | exact absurd e hne | (simp <;> omega))⟩⟩
   intro fEFc wEFc hREFc hf hlEFc;dsimp only [qE];obtain ⟨l2,l3,-⟩:=hlEFc;replace l2:∃ v,(qH (w0.heap.size+1+1) 29 [.slice C.pb cb C.cb,.slice C.pf cf C.cf]) v wEFc:=l2;replace l3:∃ v,(qH (w0.heap.size+1+1+1) 38 [.int .i64 0,.string (str [])]) v wEFc:=l3;obtain ⟨_,l2⟩:=l2;obtain ⟨_,l3⟩:=l3;replace l2:Row wEFc (w0.heap.size+1+1) 29 [.slice C.pb cb C.cb,.slice C.pf cf C.cf]:=l2;replace l3:Row wEFc (w0.heap.size+1+1+1) 38 [.int .i64 0,.string (str [])]:=l3;have hsz9:=Hsz.out;have oE:Only [] w0 wEFc:=HXo.out.2.2.zY hREFc (by simp;omega)
   have hE:=(HXo.out.1.only hREFc (fun z hz hm=>by have h9:=HXo.out.2.1 z hz;simp only [List.mem_cons,List.not_mem_nil,or_false] at hm;omega)).weaken (show w0.heap.size≤w4.heap.size by omega);have HE:=Lib.hid (show qA wEFc w0.heap.size C∧Only [] w0 wEFc from ⟨hE,oE⟩);clear hREFc hRr hRt hRd hRs hC0 hE oE;go_wp2_with fail;refine bodyPost_ret (xD rfl _ _ _ _ rfl rfl l2 l3 Tryz.underlying29 vL Tryz.underlying38 jH) rfl ⟨C,⟨0,[]⟩,?_,HE.out.1,?_,HE.out.2⟩
   ·unfold lcV xM;dsimp only;rw [HC.out.2.2.1,HC.out.2.2.2]
   ·rw [Happ.out,Hfo.out];rfl
end
end Go.Proofs.YtfeglnpmpgipiaaGreatDoor
