/- UplPk: LawUplW. -/
import Derived.Test.YtfeglnpmpgipiaaGreatDoorUplPk00
import Derived.Test.YtfeglnpmpgipiaaGreatDoorUplPk02
set_option linter.unusedVariables false
set_option maxRecDepth 100000
set_option linter.unusedSimpArgs false
section
set_option linter.unusedVariables false
set_option linter.unusedSimpArgs false
set_option maxRecDepth 100000
namespace Go.Proofs.YtfeglnpmpgipiaaGreatDoor
open Go.RowKit
set_option maxHeartbeats 16000000 in
theorem lawUpl_any (p:Option Addr) (n c:Nat) (ms:List LCmd) (m:LCmd) (q:Option Addr) (nq cq:Nat) (zs:List Int) (w0:World) (hn:ms.length=n) (hnb:n * 184≤140737488355328) (hx:Rd w0 p (ms.flatMap lmCells)) (hms:CmsAt w0 ms) (hm:CmAt w0 m) (hs:Short m) (hzl:zs.length=nq) (hzr:Rd w0 q (i64s zs)) :
  Calls Tryz.prog 6 #[.slice p n c,lmV m,.slice q nq cq] w0 fun e w'=>e=.returned (.bool true)∧Only [] w0 w':=by
 have HQ:=Lib.hid (And.intro hzl hzr);clear hzl hzr;obtain ⟨np,hnp⟩:∃ np,m.x.parts.length=np:=⟨_,rfl⟩;obtain ⟨w1,hw1⟩:∃ w1,w1=w0.alloc (.cells #[.int .i64 m.x.kind,.int .i64 m.x.id.node,.int .i64 m.x.id.boot,.int .i64 m.x.id.seq,.string (str m.x.bucket),.string (str m.x.key),.int .i64 m.x.upload.node,.int .i64 m.x.upload.boot,.int .i64 m.x.upload.seq,.int .i64 m.x.piece.blob.node,.int .i64 m.x.piece.blob.boot,.int .i64 m.x.piece.blob.seq,.int .i64 m.x.piece.size,.string (str m.x.piece.etag),.int .i64 m.x.part,.slice m.p np m.c,.int .i64 m.x.time,.int .i64 m.x.days] 36):=⟨_,rfl⟩
 have o1:Only [] w0 w1:=(by rw [hw1];exact Only.alloc _ _);have r1:Row w1 w0.heap.size 36 [.int .i64 m.x.kind,.int .i64 m.x.id.node,.int .i64 m.x.id.boot,.int .i64 m.x.id.seq,.string (str m.x.bucket),.string (str m.x.key),.int .i64 m.x.upload.node,.int .i64 m.x.upload.boot,.int .i64 m.x.upload.seq,.int .i64 m.x.piece.blob.node,.int .i64 m.x.piece.blob.boot,.int .i64 m.x.piece.blob.seq,.int .i64 m.x.piece.size,.string (str m.x.piece.etag),.int .i64 m.x.part,.slice m.p np m.c,.int .i64 m.x.time,.int .i64 m.x.days]:=(by rw [hw1];exact Row.newOf _ _ _ _ rfl);have Hr1:=Lib.hid r1
 have HO1:=Lib.hid o1;have Hw:=Lib.hid hw1;have Hn:=Lib.hid hn;have Hx:=Lib.hid hx;have HM:=Lib.hid hms;have Hm:=Lib.hid hm;have Hs:=Lib.hid hs;have Hnp:=Lib.hid hnp;rw [show lmV m=.agg #[.int .i64 m.x.kind,.int .i64 m.x.id.node,.int .i64 m.x.id.boot,.int .i64 m.x.id.seq,.string (str m.x.bucket),.string (str m.x.key),.int .i64 m.x.upload.node,.int .i64 m.x.upload.boot,.int .i64 m.x.upload.seq,.int .i64 m.x.piece.blob.node,.int .i64 m.x.piece.blob.boot,.int .i64 m.x.piece.blob.seq,.int .i64 m.x.piece.size,.string (str m.x.piece.etag),.int .i64 m.x.part,.slice m.p np m.c,.int .i64 m.x.time,.int .i64 m.x.days] by unfold lmV;rw [hnp]]
 clear hw1 o1 r1 hn hx hms hm hs hnp
 go_enter Tryz.func6,Tryz.ntmps6
 go_upto_region 1 with (fail)
 rw [← Hw.out];clear Hw;go_wp2_with fail;refine (alive11_any w1).mono ?_;rintro e wa ⟨rfl,oa⟩;have HOa:=Lib.hid (HO1.out.trans0 oa);have H1a:=Lib.hid oa;clear oa;go_wp2_with fail;refine (forms11_any p n c ms wa Hn.out hnb (Hx.out.only0 HOa.out) ⟨fun x h=>(HM.out.ca x h).only0 HOa.out,HM.out.sh⟩).mono ?_;rintro e wb ⟨q,mm,k,fs,rfl,hfl,hrd,hq0,hfm,hmem,ob⟩;have HOb:=Lib.hid (HOa.out.trans0 ob);have H1b:=Lib.hid (H1a.out.trans0 ob);have HFs:Hid (fs.length=mm∧Rd wb q (fs.flatMap lmCells)∧(q=none→mm=0)∧FmOk fs∧∀ x∈fs,x∈ms):=Lib.hid ⟨hfl,hrd,hq0,hfm,hmem⟩
 clear HOa H1a ob hfl hrd hq0 hfm hmem
 by_cases hle:mm≤600
 rotate_left
 ·rw [decide_eq_false hle];clear hle;go_wp2_with fail
  go_ret
  exact ⟨rfl,HOb.out⟩
 ·rw [decide_eq_true hle];have Hld:=Lib.hid ((Hr1.out.only0 H1b.out).loadSA (P:=Tryz.prog) Tryz.underlying36 cmInfo);have hinf:=inForm10_any m wb (Hm.out.only0 HOb.out) Hs.out;unfold lmV at hinf;rw [Hnp.out] at hinf
  go_wp2_with (first | ((with_reducible show wpList _ _ _ _ _ _);refine wpl_load (ty:=36) (x:=.tmp 4) rfl rfl rfl Hld.out ?_) | ((with_reducible show wpList _ _ _ _ _ _);refine wpl_load_on (ty:=36) (x:=.tmp 4) rfl rfl rfl Hld.out ?_))
  (with_reducible refine hinf.mono ?_);clear hinf;rintro e wc ⟨v,rfl,hv,oc⟩;have HOc:=Lib.hid (HOb.out.trans0 oc);have H1c:=Lib.hid (H1b.out.trans0 oc);have HFc:Hid (fs.length=mm∧Rd wc q (fs.flatMap lmCells)∧(q=none→mm=0)∧FmOk fs∧∀ x∈fs,x∈ms):=Lib.hid ⟨HFs.out.1,HFs.out.2.1.only0 oc,HFs.out.2.2⟩;have Hv:=Lib.hid hv;clear Hld HFs HOb H1b oc hv
  cases v with
  | false =>
   clear HFc Hv;go_wp2_with fail
   go_ret
   exact ⟨rfl,HOc.out⟩
  | true =>
   have c0:=(Hr1.out.only0 H1c.out).cell (i:=0) rfl
   by_cases hk:m.x.kind=6
   rotate_left
   ·have hq:(m.x.kind == (6:Int))=false:=beq_eq_false_iff_ne.2 hk;have hq2:(m.x.kind != (6:Int))=true:=bne_iff_ne.2 hk;clear hk HFc Hv;go_wp2_with fail
    go_ret
    exact ⟨rfl,HOc.out⟩
   ·have Hok:=Lib.hid (show CmdOk m.x∧m.x.parts.length≤16∧m.x.kind=6 from ⟨(Hv.out rfl).1,by rw [Hnp.out];exact (Hv.out rfl).2,hk⟩);rw [hk] at c0;clear hk Hv
    by_cases h40:nq≤40
    rotate_left
    ·clear HFc;go_wp2_with fail
     go_ret
     exact ⟨rfl,HOc.out⟩
    have H40:=Lib.hid h40;obtain ⟨wd,hwd⟩:∃ wd,wd=wc.alloc (.cells #[.slice none 0 0,.slice none 0 0] 29):=⟨_,rfl⟩;have od:Only [] wc wd:=(by rw [hwd];exact Only.alloc _ _);obtain ⟨X,hX⟩:∃ X,wc.heap.size=X:=⟨_,rfl⟩;have rd:Row wd X 29 [.slice none 0 0,.slice none 0 0]:=(by rw [← hX,hwd];exact Row.newOf _ _ _ _ rfl);have HI0:Hid (∃ L:LCat,Row wd X 29 (lcCells L)∧CatOwn wd (X+1) L∧CatOk L.cat):=Lib.hid ⟨⟨[],none,0,[],none,0⟩,rd,⟨OwnK.nil _ _ _ _,OwnK.nil _ _ _ _,(fun b h=>by cases h),by simp [LCat.fp,blk]⟩,cat0_ok⟩;have HOd:=Lib.hid od
    have Hwd:=Lib.hid hwd;have HX:=Lib.hid hX;clear od hwd hX rd
    go_upto_region 7 with (fail)
    rw [← Hwd.out,HX.out];clear Hwd c0 h40;go_wp2_with fail
    go_loopw [57] (fun a wl=>∃ i:Nat,a=.int .i64 (i:Int)∧i≤mm∧Hid (∃ L:LCat,Row wl X 29 (lcCells L)∧CatOwn wl (X+1) L∧CatOk L.cat)∧Hid (Only [X] wd wl)) (fun a _=>mm - (intOf a).toNat)
    case atStart=>exact ⟨0,rfl,Nat.zero_le _,HI0,Lib.hid (Only.refl _ _)⟩
    case round =>
     clear HI0;obtain ⟨i,rfl,hi,HI,HOl⟩:=hrel
     by_cases hlt:i < mm
     ·obtain ⟨m2,hm2⟩:∃ m,fs[i]?=some m:=⟨_,List.getElem?_eq_getElem (by rw [HFc.out.1];exact hlt)⟩;have hmm:=List.mem_of_getElem? hm2;have hXc:wc.heap.size≤X:=(by rw [HX.out];exact Nat.le_refl _);have hOc:Only [] wc wr:=HOd.out.transN HOl.out (by simpa using hXc);have hrd:=HFc.out.2.1.only0 hOc;have hne:fs.flatMap lmCells≠[]:=fun e'=>(by have:=flat_get lmCells 18 lmCells_len fs _ m2 0 hm2 (by omega);rw [e'] at this;cases this);obtain ⟨bq,off,rfl,-⟩:=hrd.lt hne;have hld:=load_cm hrd hm2;obtain ⟨np2,hnp2⟩:∃ k,m2.x.parts.length=k:=⟨_,rfl⟩;have Hld:=Lib.hid hld
      have Hm2:=Lib.hid (show CmdOk m2.x∧CmAt wr m2∧m2.x.parts.length=np2 from ⟨(HFc.out.2.2.2.1.ok m2 hmm).1,(HM.out.ca m2 (HFc.out.2.2.2.2 m2 hmm)).only0 (HOc.out.trans0 hOc),hnp2⟩);obtain ⟨L,hrow,hown,hok⟩:=HI.out;obtain ⟨nb,hnb⟩:∃ k,L.bs.length=k:=⟨_,rfl⟩;obtain ⟨nf,hnf⟩:∃ k,L.fs.length=k:=⟨_,rfl⟩;have HL:=Lib.hid (show Row wr X 29 [.slice L.pb nb L.cb,.slice L.pf nf L.cf]∧CatOwn wr (X+1) L∧CatOk L.cat∧L.bs.length=nb∧L.fs.length=nf from ⟨by rw [← hnb,← hnf];exact hrow,hown,hok,hnb,hnf⟩);clear hm2 hmm hXc hOc hrd hne hld hnp2 hrow hown hok hnb hnf HI
      unfold lmV at Hld;rw [Hm2.out.2.2] at Hld
      go_upto_region 10 with (first | ((with_reducible show wpList _ _ _ _ _ _);refine wpl_load (ty:=36) (x:=.tmp 59) rfl rfl rfl Hld.out ?_))
      obtain ⟨wx,hwx⟩:∃ wx,wx=wr.alloc (.cells #[.int .i64 m2.x.kind,.int .i64 m2.x.id.node,.int .i64 m2.x.id.boot,.int .i64 m2.x.id.seq,.string (str m2.x.bucket),.string (str m2.x.key),.int .i64 m2.x.upload.node,.int .i64 m2.x.upload.boot,.int .i64 m2.x.upload.seq,.int .i64 m2.x.piece.blob.node,.int .i64 m2.x.piece.blob.boot,.int .i64 m2.x.piece.blob.seq,.int .i64 m2.x.piece.size,.string (str m2.x.piece.etag),.int .i64 m2.x.part,.slice m2.p np2 m2.c,.int .i64 m2.x.time,.int .i64 m2.x.days] 36):=⟨_,rfl⟩;have ox:Only [] wr wx:=(by rw [hwx];exact Only.alloc _ _);have rx:Row wx wr.heap.size 36 [.int .i64 m2.x.kind,.int .i64 m2.x.id.node,.int .i64 m2.x.id.boot,.int .i64 m2.x.id.seq,.string (str m2.x.bucket),.string (str m2.x.key),.int .i64 m2.x.upload.node,.int .i64 m2.x.upload.boot,.int .i64 m2.x.upload.seq,.int .i64 m2.x.piece.blob.node,.int .i64 m2.x.piece.blob.boot,.int .i64 m2.x.piece.blob.seq,.int .i64 m2.x.piece.size,.string (str m2.x.piece.etag),.int .i64 m2.x.part,.slice m2.p np2 m2.c,.int .i64 m2.x.time,.int .i64 m2.x.days]:=by rw [hwx];exact Row.newOf _ _ _ _ rfl
      rw [← hwx];have hXr:X < wr.heap.size:=HL.out.1.lt;have h6:=rx.loadSA (P:=Tryz.prog) Tryz.underlying36 cmInfo;have H6:=Lib.hid h6;have hap:=catApply_any L m2 wx ((HL.out.2.1.only0 ox).at) HL.out.2.2.1 Hm2.out.1 (Hm2.out.2.1.only0 ox);rw [show lcV L=.agg #[.slice L.pb nb L.cb,.slice L.pf nf L.cf] by unfold lcV;rw [HL.out.2.2.2.1,HL.out.2.2.2.2],show lmV m2=.agg #[.int .i64 m2.x.kind,.int .i64 m2.x.id.node,.int .i64 m2.x.id.boot,.int .i64 m2.x.id.seq,.string (str m2.x.bucket),.string (str m2.x.key),.int .i64 m2.x.upload.node,.int .i64 m2.x.upload.boot,.int .i64 m2.x.upload.seq,.int .i64 m2.x.piece.blob.node,.int .i64 m2.x.piece.blob.boot,.int .i64 m2.x.piece.blob.seq,.int .i64 m2.x.piece.size,.string (str m2.x.piece.etag),.int .i64 m2.x.part,.slice m2.p np2 m2.c,.int .i64 m2.x.time,.int .i64 m2.x.days] by unfold lmV;rw [Hm2.out.2.2]] at hap
      have HAp:=Lib.hid hap;have HOx:=Lib.hid ox;have hX6:=HL.out.1.only0 ox;have c0:=hX6.cell (i:=0) rfl;have c1:=hX6.cell (i:=1) rfl;have HX6:=Lib.hid hX6;obtain ⟨Bx,hBx⟩:∃ B,wr.heap.size=B:=⟨_,rfl⟩;rw [hBx] at H6 hXr ⊢;have HBx:=Lib.hid hBx;clear hwx ox rx h6 hap hX6 hBx Hld
      go_wp2_with (first | ((with_reducible show wpList _ _ _ _ _ _);refine wpl_load (ty:=36) (x:=.tmp 10) rfl rfl rfl H6.out ?_))
      refine HAp.out.mono ?_;rintro e w5 ⟨L2,oc2,rfl,hown2,happ,o5⟩;clear HAp c0 c1 H6;obtain ⟨lb,hlb⟩:∃ k,L2.bs.length=k:=⟨_,rfl⟩;obtain ⟨lf,hlf⟩:∃ k,L2.fs.length=k:=⟨_,rfl⟩;rw [show lcV L2=.agg #[.slice L2.pb lb L2.cb,.slice L2.pf lf L2.cf] by unfold lcV;rw [hlb,hlf]];have h5:=HX6.out.only0 o5;have a0:=h5.cell (i:=0) rfl;have a1:=h5.cell (i:=1) rfl;have f0:=h5.free 0;have f1:=h5.free 1;obtain ⟨wz,hwz⟩:∃ wz,wz=(w5.setCell ⟨X,0,none⟩ (.slice L2.pb lb L2.cb)).setCell ⟨X,1,none⟩ (.slice L2.pf lf L2.cf):=⟨_,rfl⟩;have hrz:=h5.set2 (.slice L2.pb lb L2.cb) (.slice L2.pf lf L2.cf)
      have hst:=only_set2 w5 X (.slice L2.pb lb L2.cb) (.slice L2.pf lf L2.cf);rw [← hwz] at hrz hst;have hXx:X < wx.heap.size:=HX6.out.lt
      have HI2:Hid (∃ L:LCat,Row wz X 29 (lcCells L)∧CatOwn wz (X+1) L∧CatOk L.cat):=Lib.hid ⟨L2,by unfold lcCells;rw [hlb,hlf];exact hrz,(hown2.only hst (fun z hz hm=>by have:=(hown2.lo z hz).1;rw [List.mem_singleton.1 hm] at this;omega)).weaken (by omega),by
       have h9:=apply_ok smL smL_len HL.out.2.2.1 Hm2.out.1;rw [← happ] at h9
       exact h9⟩
      have HO2:Hid (Only [X] wd wz):=Lib.hid ((HOl.out.trans0 (HOx.out.trans0 o5)).trans hst (fun _ h _=>h));have Hwz:=Lib.hid hwz;clear hown2 happ o5 hlb hlf h5 hwz hrz hst hXx HL Hm2 HX6 HOx HOl;go_wp2_with fail;rw [← Hwz.out];refine ⟨⟨i+1,by go_num,by omega,HI2,HO2⟩,?_⟩
      simp [intOf];omega
     ·obtain rfl:i=mm:=(by omega);clear HFc;obtain ⟨L,hrow,hown,hok⟩:=HI.out;obtain ⟨nb,hnb⟩:∃ k,L.bs.length=k:=⟨_,rfl⟩;obtain ⟨nf,hnf⟩:∃ k,L.fs.length=k:=⟨_,rfl⟩;have hXc:wc.heap.size≤X:=(by rw [HX.out];exact Nat.le_refl _);have hOc:Only [] wc wr:=HOd.out.transN HOl.out (by simpa using hXc);have HOe:=Lib.hid (HOc.out.trans0 hOc);have h36:=Hr1.out.only0 (H1c.out.trans0 hOc);have hCX:Row wr X 29 [.slice L.pb nb L.cb,.slice L.pf nf L.cf]:=(by rw [← hnb,← hnf];exact hrow);obtain ⟨pb,hpb⟩:∃ p,L.pb=p:=⟨_,rfl⟩;have hLV:lcV L=.agg #[.slice pb nb L.cb,.slice L.pf nf L.cf]:=by unfold lcV;rw [hnb,hnf,hpb]
      have hup:=catUpload_any L m.x.bucket m.x.key m.x.id wr hown.at hok;rw [hLV] at hup;unfold idV at hup;rw [hpb] at hCX;have Hup:=Lib.hid hup;have a0:=hCX.cell (i:=0) rfl;have a1:=hCX.cell (i:=1) rfl;have b1:=h36.cell (i:=1) rfl;have b2:=h36.cell (i:=2) rfl;have b3:=h36.cell (i:=3) rfl;have b4:=h36.cell (i:=4) rfl;have b5:=h36.cell (i:=5) rfl;have HLV:=Lib.hid hLV;have hnb16:nb≤16:=(by have:=len_bs hok;omega);have h40:=H40.out;have Hnb:=Lib.hid hnb;have Hpb:=Lib.hid hpb;clear hup hLV hnb hnf hpb HI HX hXc hOc;go_wp2_with fail;refine Hup.out.mono ?_
      rintro e w2 ⟨u,rfl,hu,huown,o2⟩;obtain ⟨nu,hnu⟩:∃ k,u.u.parts.length=k:=⟨_,rfl⟩;rw [show luV u=.agg #[.int .i64 u.u.id.node,.int .i64 u.u.id.boot,.int .i64 u.u.id.seq,.string (str u.u.key),.slice u.q nu u.c] by unfold luV;rw [hnu]];obtain ⟨tk,htk⟩:∃ v,(findU L.cat m.x.bucket m.x.key m.x.id).isSome=v:=⟨_,rfl⟩;rw [htk];clear Hup hu huown hnu htk a0 a1 b1 b2 b3 b4 b5
      go_upto_region 13 with (fail)
      obtain ⟨w3,hw3⟩:∃ w3,w3=w2.alloc (.cells #[.int .i64 u.u.id.node,.int .i64 u.u.id.boot,.int .i64 u.u.id.seq,.string (str u.u.key),.slice u.q nu u.c] 54):=⟨_,rfl⟩;have o3:Only [] w2 w3:=(by rw [hw3];exact Only.alloc _ _);have s3:w3.heap.size=w2.heap.size+1:=(by rw [hw3];simp);have r3:Row w3 w2.heap.size 54 [.int .i64 u.u.id.node,.int .i64 u.u.id.boot,.int .i64 u.u.id.seq,.string (str u.u.key),.slice u.q nu u.c]:=(by rw [hw3];exact Row.newOf _ _ _ _ rfl);rw [← hw3];have o23:=o2.trans0 o3;have HRX:=Lib.hid (hCX.only0 o23);have HRM:=Lib.hid (h36.only0 o23)
      have HO3:=Lib.hid (HOe.out.trans0 o23);have HA3:Hid (CatOwn w3 (X+1) L∧CatOk L.cat):=Lib.hid ⟨hown.only0 o23,hok⟩;have a0:=HRX.out.cell (i:=0) rfl;clear hw3 o3 s3 r3 o23 o2 hCX h36 HOe hown hrow;go_wp2_with fail;clear a0
      go_loopw [82,12] (fun a t wl=>∃ (i:Nat) (s:Bool),a=.int .i64 (i:Int)∧t=.bool s∧i≤nb∧Hid (s=false→∀ b∈L.bs.take i,∀ u∈b.us,u.u.id≠m.x.id)∧Hid (Only [] w3 wl)) (fun a _ _=>nb - (intOf a).toNat)
      case atStart=>exact ⟨0,tk,rfl,rfl,Nat.zero_le _,Lib.hid (fun _ b hb=>by simp at hb),Lib.hid (Only.refl _ _)⟩
      case round =>
       obtain ⟨i,s,rfl,rfl,hi,HT,HO4⟩:=hrel;obtain ⟨w4,rfl⟩:∃ w4,w4=wr:=⟨_,rfl⟩
       by_cases hlt:i < nb
       ·obtain ⟨b,hb⟩:∃ b,L.bs[i]?=some b:=⟨_,List.getElem?_eq_getElem (by rw [Hnb.out];assumption)⟩;have hrd:=(HA3.out.1.at.sb.only0 HO4.out).1;have hne:L.bs.flatMap lbCells≠[]:=fun e'=>(by have:=flat_get lbCells 5 lbCells_len L.bs _ b 0 hb (by omega);rw [e'] at this;cases this);obtain ⟨bq,off,hg,-⟩:=hrd.lt hne;rw [hg] at hrd;obtain rfl:=Hpb.out.symm.trans hg;clear hg;have d0:=rd_elem lbCells_len hrd hb (r:=0) rfl;have d1:=rd_elem lbCells_len hrd hb (r:=1) rfl;have d2:=rd_elem lbCells_len hrd hb (r:=2) rfl;have d3:=rd_elem lbCells_len hrd hb (r:=3) rfl
        have d4:=rd_elem lbCells_len hrd hb (r:=4) rfl;rw [Addr.add_lit,← Nat.add_assoc] at d0 d1 d2 d3 d4;rw [Nat.add_zero] at d0;clear hrd hne;have hbm:=List.mem_of_getElem? hb;obtain ⟨no,hno⟩:∃ n,b.os.length=n:=⟨_,rfl⟩;obtain ⟨nu,hnu⟩:∃ n,b.us.length=n:=⟨_,rfl⟩;obtain ⟨po,hpo⟩:∃ n,b.po=n:=⟨_,rfl⟩;obtain ⟨pu,hpu⟩:∃ n,b.pu=n:=⟨_,rfl⟩;rw [hno,hpo] at d3;rw [hnu,hpu] at d4;have HNB:=Lib.hid (show b.us.length=nu∧b.pu=pu∧b∈L.bs∧L.bs.take (i+1)=L.bs.take i ++ [b] from ⟨hnu,hpu,hbm,by rw [List.take_add_one,hb];rfl⟩);have hnu8:nu≤100000:=by have:=((small_of HA3.out.2).o b hbm).2.1;omega
        clear hb hbm hno hnu hpo hpu
        go_upto_region 16 with (fail)
        obtain ⟨w5,hw5⟩:∃ w5,w5=w4.alloc (.cells #[.string (str b.name),.int .i64 b.time,.int .i64 b.days,.slice po no b.co,.slice pu nu b.cu] 60):=⟨_,rfl⟩;have o5:Only [] w4 w5:=(by rw [hw5];exact Only.alloc _ _);have s5:w5.heap.size=w4.heap.size+1:=(by rw [hw5];simp);have r5:Row w5 w4.heap.size 60 [.string (str b.name),.int .i64 b.time,.int .i64 b.days,.slice po no b.co,.slice pu nu b.cu]:=(by rw [hw5];exact Row.newOf _ _ _ _ rfl);rw [← hw5];have HO5:=Lib.hid (HO4.out.trans0 o5);have e4:=r5.cell (i:=4) rfl;clear hw5 o5 s5 r5 d0 d1 d2 d3 d4;go_wp2_with fail
        clear e4
        go_loopw [89,12] (fun a t wl=>∃ (j:Nat) (s:Bool),a=.int .i64 (j:Int)∧t=.bool s∧j≤nu∧Hid (s=false→(∀ b∈L.bs.take i,∀ u∈b.us,u.u.id≠m.x.id)∧∀ u∈b.us.take j,u.u.id≠m.x.id)∧Hid (Only [] w3 wl)) (fun a _ _=>nu - (intOf a).toNat)
        case atStart=>exact ⟨0,s,rfl,rfl,Nat.zero_le _,Lib.hid (fun h=>⟨HT.out h,fun u hu=>by simp at hu⟩),HO5⟩
        case round =>
         clear HO5 HO4 HT;obtain ⟨j,s2,rfl,rfl,hj,HT2,HO6⟩:=hrel;obtain ⟨w6,rfl⟩:∃ w6,w6=wr:=⟨_,rfl⟩
         by_cases hlt2:j < nu
         ·have hlq:=hlt2;obtain ⟨y,hy⟩:∃ y,b.us[j]?=some y:=⟨_,List.getElem?_eq_getElem (by rw [HNB.out.1];assumption)⟩;have hrd:=(((HA3.out.1.at.bk b HNB.out.2.2.1).su).only0 HO6.out).1;have hne:b.us.flatMap luCells≠[]:=fun e'=>(by have:=flat_get luCells 5 luCells_len b.us _ y 0 hy (by omega);rw [e'] at this;cases this);obtain ⟨bq,off,hg,-⟩:=hrd.lt hne;rw [hg] at hrd;obtain rfl:=HNB.out.2.1.symm.trans hg;clear hg;have d0:=rd_elem luCells_len hrd hy (r:=0) rfl;have d1:=rd_elem luCells_len hrd hy (r:=1) rfl;have d2:=rd_elem luCells_len hrd hy (r:=2) rfl
          have d3:=rd_elem luCells_len hrd hy (r:=3) rfl;have d4:=rd_elem luCells_len hrd hy (r:=4) rfl;rw [Addr.add_lit,← Nat.add_assoc] at d0 d1 d2 d3 d4;rw [Nat.add_zero] at d0;clear hrd hne;obtain ⟨ny,hny⟩:∃ n,y.u.parts.length=n:=⟨_,rfl⟩;rw [hny] at d4;have HTk:=Lib.hid (show b.us.take (j+1)=b.us.take j ++ [y] by rw [List.take_add_one,hy];rfl);clear hy hny hlq
          go_upto_region 19 with (fail)
          obtain ⟨w7,hw7⟩:∃ w7,w7=w6.alloc (.cells #[.int .i64 y.u.id.node,.int .i64 y.u.id.boot,.int .i64 y.u.id.seq,.string (str y.u.key),.slice y.q ny y.c] 54):=⟨_,rfl⟩;have o7:Only [] w6 w7:=(by rw [hw7];exact Only.alloc _ _);have s7:w7.heap.size=w6.heap.size+1:=(by rw [hw7];simp);have r7:Row w7 w6.heap.size 54 [.int .i64 y.u.id.node,.int .i64 y.u.id.boot,.int .i64 y.u.id.seq,.string (str y.u.key),.slice y.q ny y.c]:=(by rw [hw7];exact Row.newOf _ _ _ _ rfl);rw [← hw7];have HO7:=Lib.hid (HO6.out.trans0 o7);have f0:=r7.cell (i:=0) rfl;have f1:=r7.cell (i:=1) rfl
          have f2:=r7.cell (i:=2) rfl;have m1:=(HRM.out.only0 HO7.out).cell (i:=1) rfl;have m2:=(HRM.out.only0 HO7.out).cell (i:=2) rfl;have m3:=(HRM.out.only0 HO7.out).cell (i:=3) rfl;have hq1:=fun w=>eqIdN 9998 y.u.id m.x.id w;unfold idV at hq1;clear hw7 o7 s7 r7 d0 d1 d2 d3 d4
          cases s2 with
          | true =>
           clear hq1 HTk HT2;go_wp2_with fail;refine ⟨⟨j+1,true,by go_num,rfl,by omega,Lib.hid (fun h=>by cases h),HO7⟩,?_⟩
           simp [intOf];omega
          | false =>
           by_cases hu1:y.u.id=m.x.id
           ·simp only [decide_eq_true hu1] at hq1;clear hu1 HTk HT2;go_wp2_with fail;refine ⟨⟨j+1,true,by go_num,rfl,by omega,Lib.hid (fun h=>by cases h),HO7⟩,?_⟩
            simp [intOf];omega
           ·simp only [decide_eq_false hu1] at hq1
            have HT4:Hid (false=false→(∀ b∈L.bs.take i,∀ u∈b.us,u.u.id≠m.x.id)∧∀ u∈b.us.take (j+1),u.u.id≠m.x.id):=Lib.hid (fun h=>⟨(HT2.out h).1,fun u hu=>by
             rw [HTk.out] at hu
             rcases List.mem_append.1 hu with h1 | h1
             ·exact (HT2.out h).2 u h1
             ·rw [List.mem_singleton.1 h1];exact hu1⟩)
            clear hu1 HTk HT2;go_wp2_with fail;refine ⟨⟨j+1,false,by go_num,rfl,by omega,HT4,HO7⟩,?_⟩
            simp [intOf];omega
         ·obtain rfl:j=nu:=by omega
          have HT3:Hid (s2=false→∀ b∈L.bs.take (i+1),∀ u∈b.us,u.u.id≠m.x.id):=Lib.hid (fun h b' hb'=>by
           rw [HNB.out.2.2.2] at hb'
           rcases List.mem_append.1 hb' with h1 | h1
           ·exact (HT2.out h).1 b' h1
           ·rw [List.mem_singleton.1 h1];have h9:=(HT2.out h).2;rw [List.take_of_length_le (by rw [HNB.out.1];exact Nat.le_refl _)] at h9
            exact h9)
          clear HT2 hlt2 hj;go_wp2_with fail;refine ⟨⟨i+1,s2,by go_num,rfl,by omega,HT3,HO6⟩,?_⟩
          simp [intOf];omega
       ·obtain rfl:nb=i:=(by omega);clear hlt hi
        cases s with
        | true =>
         clear HT;go_wp2_with fail
         go_ret
         exact ⟨rfl,HO3.out.trans0 HO4.out⟩
        | false =>
         have HU:Hid (∀ b∈L.bs,∀ u∈b.us,u.u.id≠m.x.id):=Lib.hid (fun b hb=>by
          have h9:=HT.out rfl b;rw [List.take_of_length_le (by rw [Hnb.out];exact Nat.le_refl _)] at h9
          exact h9 hb)
         go_upto_region 24 with (fail)
         exact uplTail (by assumption) hnb16 h40 HQ Hm Hnp (Lib.hid (HO3.out.trans0 HO4.out)) (Lib.hid (HRX.out.only0 HO4.out)) (Lib.hid (HRM.out.only0 HO4.out)) (Lib.hid ⟨HA3.out.1.only0 HO4.out,HA3.out.2⟩) HLV Hok HU
end Go.Proofs.YtfeglnpmpgipiaaGreatDoor
end
