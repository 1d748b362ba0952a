/- CatPk, part 46: LawApartW. -/
import Derived.Test.YtfeglnpmpgipiaaGreatDoorCatPk06
import Derived.Test.YtfeglnpmpgipiaaGreatDoorCatPk28
import Derived.Test.YtfeglnpmpgipiaaGreatDoorCatPk40
import Derived.Test.YtfeglnpmpgipiaaGreatDoorCatPk41
import Derived.Test.YtfeglnpmpgipiaaGreatDoorCatPk43
import Derived.Test.YtfeglnpmpgipiaaGreatDoorCatPk45
set_option linter.unusedVariables false
set_option maxRecDepth 100000
set_option linter.unusedSimpArgs false
namespace Go.Proofs.YtfeglnpmpgipiaaGreatDoor
section
open Go.RowKit
set_option maxHeartbeats 16000000 in
theorem lawApart_any (p:Option Addr) (n c:Nat) (ms:List LCmd) (m:LCmd) (w0:World) (hn:ms.length=n) (hnb:n * 184≤140737488355328) (hx:Rd w0 p (ms.flatMap lmCells)) (hms:CmsAt w0 ms) (hm:CmAt w0 m) (hs:Short m) :
  Calls Tryz.prog 8 #[.slice p n c,lmV m] w0 fun e w'=>e=.returned (.bool true)∧Only [] w0 w':=by
 obtain ⟨np,hnp⟩:∃ np,m.x.parts.length=np:=⟨_,rfl⟩;obtain ⟨w1,hw1⟩:∃ w1,w1=w0.alloc (.cells #[.int .i64 m.x.kind,.int .i64 m.x.id.node,.int .i64 m.x.id.boot,.int .i64 m.x.id.seq,.string (str m.x.bucket),.string (str m.x.key),.int .i64 m.x.upload.node,.int .i64 m.x.upload.boot,.int .i64 m.x.upload.seq,.int .i64 m.x.piece.blob.node,.int .i64 m.x.piece.blob.boot,.int .i64 m.x.piece.blob.seq,.int .i64 m.x.piece.size,.string (str m.x.piece.etag),.int .i64 m.x.part,.slice m.p np m.c,.int .i64 m.x.time,.int .i64 m.x.days] 36):=⟨_,rfl⟩;have o1:Only [] w0 w1:=by rw [hw1];exact Only.alloc _ _
 have r1:Row w1 w0.heap.size 36 [.int .i64 m.x.kind,.int .i64 m.x.id.node,.int .i64 m.x.id.boot,.int .i64 m.x.id.seq,.string (str m.x.bucket),.string (str m.x.key),.int .i64 m.x.upload.node,.int .i64 m.x.upload.boot,.int .i64 m.x.upload.seq,.int .i64 m.x.piece.blob.node,.int .i64 m.x.piece.blob.boot,.int .i64 m.x.piece.blob.seq,.int .i64 m.x.piece.size,.string (str m.x.piece.etag),.int .i64 m.x.part,.slice m.p np m.c,.int .i64 m.x.time,.int .i64 m.x.days]:=(by rw [hw1];exact Row.newOf _ _ _ _ rfl);have Hr1:=Lib.hid r1;have HO1:=Lib.hid o1;have Hw:=Lib.hid hw1;have Hn:=Lib.hid hn
 have Hx:=Lib.hid hx;have HM:=Lib.hid hms;have Hm:=Lib.hid hm;have Hs:=Lib.hid hs;have Hnp:=Lib.hid hnp;rw [show lmV m=.agg #[.int .i64 m.x.kind,.int .i64 m.x.id.node,.int .i64 m.x.id.boot,.int .i64 m.x.id.seq,.string (str m.x.bucket),.string (str m.x.key),.int .i64 m.x.upload.node,.int .i64 m.x.upload.boot,.int .i64 m.x.upload.seq,.int .i64 m.x.piece.blob.node,.int .i64 m.x.piece.blob.boot,.int .i64 m.x.piece.blob.seq,.int .i64 m.x.piece.size,.string (str m.x.piece.etag),.int .i64 m.x.part,.slice m.p np m.c,.int .i64 m.x.time,.int .i64 m.x.days] by unfold lmV;rw [hnp]]
 clear hw1 o1 r1 hn hx hms hm hs hnp
 go_enter Tryz.func8,Tryz.ntmps8
 go_upto_region 1 with (fail)
 rw [← Hw.out];clear Hw;go_wp2_with fail;refine (alive11_any w1).mono ?_;rintro e wa ⟨rfl,oa⟩;have HOa:=Lib.hid (HO1.out.trans0 oa);have H1a:=Lib.hid oa;clear oa;go_wp2_with fail;refine (forms11_any p n c ms wa Hn.out hnb (Hx.out.only0 HOa.out) ⟨fun x h=>(HM.out.ca x h).only0 HOa.out,HM.out.sh⟩).mono ?_;rintro e wb ⟨q,mm,k,fs,rfl,hfl,hrd,hq0,hfm,hmem,ob⟩;have HOb:=Lib.hid (HOa.out.trans0 ob);have H1b:=Lib.hid (H1a.out.trans0 ob);have HFs:Hid (fs.length=mm∧Rd wb q (fs.flatMap lmCells)∧(q=none→mm=0)∧FmOk fs∧∀ x∈fs,x∈ms):=Lib.hid ⟨hfl,hrd,hq0,hfm,hmem⟩
 clear HOa H1a ob hfl hrd hq0 hfm hmem
 by_cases hle:mm≤600
 rotate_left
 ·rw [decide_eq_false hle];clear hle;go_wp2_with fail
  go_ret
  exact ⟨rfl,HOb.out⟩
 ·rw [decide_eq_true hle];have Hld:=Lib.hid ((Hr1.out.only0 H1b.out).loadSA (P:=Tryz.prog) Tryz.underlying36 cmInfo);have hinf:=inForm10_any m wb (Hm.out.only0 HOb.out) Hs.out;unfold lmV at hinf;rw [Hnp.out] at hinf
  go_wp2_with (first | ((with_reducible show wpList _ _ _ _ _ _);refine wpl_load (ty:=36) (x:=.tmp 3) rfl rfl rfl Hld.out ?_) | ((with_reducible show wpList _ _ _ _ _ _);refine wpl_load_on (ty:=36) (x:=.tmp 3) rfl rfl rfl Hld.out ?_))
  (with_reducible refine hinf.mono ?_);clear hinf;rintro e wc ⟨v,rfl,hv,oc⟩;have HOc:=Lib.hid (HOb.out.trans0 oc);have H1c:=Lib.hid (H1b.out.trans0 oc);have HFc:Hid (fs.length=mm∧Rd wc q (fs.flatMap lmCells)∧(q=none→mm=0)∧FmOk fs∧∀ x∈fs,x∈ms):=Lib.hid ⟨HFs.out.1,HFs.out.2.1.only0 oc,HFs.out.2.2⟩;have Hv:=Lib.hid hv;clear Hld HFs HOb H1b oc hv
  cases v with
  | false =>
   clear HFc Hv;go_wp2_with fail
   go_ret
   exact ⟨rfl,HOc.out⟩
  | true =>
   ·have Hok:=Lib.hid (show CmdOk m.x∧m.x.parts.length≤16 from ⟨(Hv.out rfl).1,by rw [Hnp.out];exact (Hv.out rfl).2⟩);clear Hv;obtain ⟨wd,hwd⟩:∃ wd,wd=wc.alloc (.cells #[.slice none 0 0,.slice none 0 0] 29):=⟨_,rfl⟩;have od:Only [] wc wd:=(by rw [hwd];exact Only.alloc _ _);obtain ⟨X,hX⟩:∃ X,wc.heap.size=X:=⟨_,rfl⟩;have rd:Row wd X 29 [.slice none 0 0,.slice none 0 0]:=(by rw [← hX,hwd];exact Row.newOf _ _ _ _ rfl);have HI0:Hid (∃ L:LCat,Row wd X 29 (lcCells L)∧CatOwn wd (X+1) L∧CatOk L.cat):=Lib.hid ⟨⟨[],none,0,[],none,0⟩,rd,⟨OwnK.nil _ _ _ _,OwnK.nil _ _ _ _,(fun b h=>by cases h),by simp [LCat.fp,blk]⟩,cat0_ok⟩
    have HOd:=Lib.hid od;have Hwd:=Lib.hid hwd;have HX:=Lib.hid hX;clear od hwd hX rd
    go_upto_region 7 with (fail)
    rw [← Hwd.out,HX.out];clear Hwd;go_wp2_with fail
    go_loopw [40] (fun a wl=>∃ i:Nat,a=.int .i64 (i:Int)∧i≤mm∧Hid (∃ L:LCat,Row wl X 29 (lcCells L)∧CatOwn wl (X+1) L∧CatOk L.cat)∧Hid (Only [X] wd wl)) (fun a _=>mm - (intOf a).toNat)
    case atStart=>exact ⟨0,rfl,Nat.zero_le _,HI0,Lib.hid (Only.refl _ _)⟩
    case round =>
     clear HI0;obtain ⟨i,rfl,hi,HI,HOl⟩:=hrel
     by_cases hlt:i < mm
     ·obtain ⟨m2,hm2⟩:∃ m,fs[i]?=some m:=⟨_,List.getElem?_eq_getElem (by rw [HFc.out.1];exact hlt)⟩;have hmm:=List.mem_of_getElem? hm2;have hXc:wc.heap.size≤X:=(by rw [HX.out];exact Nat.le_refl _);have hOc:Only [] wc wr:=HOd.out.transN HOl.out (by simpa using hXc);have hrd:=HFc.out.2.1.only0 hOc;have hne:fs.flatMap lmCells≠[]:=fun e'=>(by have:=flat_get lmCells 18 lmCells_len fs _ m2 0 hm2 (by omega);rw [e'] at this;cases this);obtain ⟨bq,off,rfl,-⟩:=hrd.lt hne;have hld:=load_cm hrd hm2;obtain ⟨np2,hnp2⟩:∃ k,m2.x.parts.length=k:=⟨_,rfl⟩;have Hld:=Lib.hid hld
      have Hm2:=Lib.hid (show CmdOk m2.x∧CmAt wr m2∧m2.x.parts.length=np2 from ⟨(HFc.out.2.2.2.1.ok m2 hmm).1,(HM.out.ca m2 (HFc.out.2.2.2.2 m2 hmm)).only0 (HOc.out.trans0 hOc),hnp2⟩);obtain ⟨L,hrow,hown,hok⟩:=HI.out;obtain ⟨nb,hnb⟩:∃ k,L.bs.length=k:=⟨_,rfl⟩;obtain ⟨nf,hnf⟩:∃ k,L.fs.length=k:=⟨_,rfl⟩;have HL:=Lib.hid (show Row wr X 29 [.slice L.pb nb L.cb,.slice L.pf nf L.cf]∧CatOwn wr (X+1) L∧CatOk L.cat∧L.bs.length=nb∧L.fs.length=nf from ⟨by rw [← hnb,← hnf];exact hrow,hown,hok,hnb,hnf⟩);clear hm2 hmm hXc hOc hrd hne hld hnp2 hrow hown hok hnb hnf HI
      unfold lmV at Hld;rw [Hm2.out.2.2] at Hld
      go_upto_region 10 with (first | ((with_reducible show wpList _ _ _ _ _ _);refine wpl_load (ty:=36) (x:=.tmp 42) rfl rfl rfl Hld.out ?_))
      obtain ⟨wx,hwx⟩:∃ wx,wx=wr.alloc (.cells #[.int .i64 m2.x.kind,.int .i64 m2.x.id.node,.int .i64 m2.x.id.boot,.int .i64 m2.x.id.seq,.string (str m2.x.bucket),.string (str m2.x.key),.int .i64 m2.x.upload.node,.int .i64 m2.x.upload.boot,.int .i64 m2.x.upload.seq,.int .i64 m2.x.piece.blob.node,.int .i64 m2.x.piece.blob.boot,.int .i64 m2.x.piece.blob.seq,.int .i64 m2.x.piece.size,.string (str m2.x.piece.etag),.int .i64 m2.x.part,.slice m2.p np2 m2.c,.int .i64 m2.x.time,.int .i64 m2.x.days] 36):=⟨_,rfl⟩;have ox:Only [] wr wx:=(by rw [hwx];exact Only.alloc _ _);have rx:Row wx wr.heap.size 36 [.int .i64 m2.x.kind,.int .i64 m2.x.id.node,.int .i64 m2.x.id.boot,.int .i64 m2.x.id.seq,.string (str m2.x.bucket),.string (str m2.x.key),.int .i64 m2.x.upload.node,.int .i64 m2.x.upload.boot,.int .i64 m2.x.upload.seq,.int .i64 m2.x.piece.blob.node,.int .i64 m2.x.piece.blob.boot,.int .i64 m2.x.piece.blob.seq,.int .i64 m2.x.piece.size,.string (str m2.x.piece.etag),.int .i64 m2.x.part,.slice m2.p np2 m2.c,.int .i64 m2.x.time,.int .i64 m2.x.days]:=by rw [hwx];exact Row.newOf _ _ _ _ rfl
      rw [← hwx];have hXr:X < wr.heap.size:=HL.out.1.lt;have h6:=rx.loadSA (P:=Tryz.prog) Tryz.underlying36 cmInfo;have H6:=Lib.hid h6;have hap:=catApply_any L m2 wx ((HL.out.2.1.only0 ox).at) HL.out.2.2.1 Hm2.out.1 (Hm2.out.2.1.only0 ox);rw [show lcV L=.agg #[.slice L.pb nb L.cb,.slice L.pf nf L.cf] by unfold lcV;rw [HL.out.2.2.2.1,HL.out.2.2.2.2],show lmV m2=.agg #[.int .i64 m2.x.kind,.int .i64 m2.x.id.node,.int .i64 m2.x.id.boot,.int .i64 m2.x.id.seq,.string (str m2.x.bucket),.string (str m2.x.key),.int .i64 m2.x.upload.node,.int .i64 m2.x.upload.boot,.int .i64 m2.x.upload.seq,.int .i64 m2.x.piece.blob.node,.int .i64 m2.x.piece.blob.boot,.int .i64 m2.x.piece.blob.seq,.int .i64 m2.x.piece.size,.string (str m2.x.piece.etag),.int .i64 m2.x.part,.slice m2.p np2 m2.c,.int .i64 m2.x.time,.int .i64 m2.x.days] by unfold lmV;rw [Hm2.out.2.2]] at hap
      have HAp:=Lib.hid hap;have HOx:=Lib.hid ox;have hX6:=HL.out.1.only0 ox;have c0:=hX6.cell (i:=0) rfl;have c1:=hX6.cell (i:=1) rfl;have HX6:=Lib.hid hX6;obtain ⟨Bx,hBx⟩:∃ B,wr.heap.size=B:=⟨_,rfl⟩;rw [hBx] at H6 hXr ⊢;have HBx:=Lib.hid hBx;clear hwx ox rx h6 hap hX6 hBx Hld
      go_wp2_with (first | ((with_reducible show wpList _ _ _ _ _ _);refine wpl_load (ty:=36) (x:=.tmp 8) rfl rfl rfl H6.out ?_))
      refine HAp.out.mono ?_;rintro e w5 ⟨L2,oc2,rfl,hown2,happ,o5⟩;clear HAp c0 c1 H6;obtain ⟨lb,hlb⟩:∃ k,L2.bs.length=k:=⟨_,rfl⟩;obtain ⟨lf,hlf⟩:∃ k,L2.fs.length=k:=⟨_,rfl⟩;rw [show lcV L2=.agg #[.slice L2.pb lb L2.cb,.slice L2.pf lf L2.cf] by unfold lcV;rw [hlb,hlf]];have h5:=HX6.out.only0 o5;have a0:=h5.cell (i:=0) rfl;have a1:=h5.cell (i:=1) rfl;have f0:=h5.free 0;have f1:=h5.free 1;obtain ⟨wz,hwz⟩:∃ wz,wz=(w5.setCell ⟨X,0,none⟩ (.slice L2.pb lb L2.cb)).setCell ⟨X,1,none⟩ (.slice L2.pf lf L2.cf):=⟨_,rfl⟩;have hrz:=h5.set2 (.slice L2.pb lb L2.cb) (.slice L2.pf lf L2.cf)
      have hst:=only_set2 w5 X (.slice L2.pb lb L2.cb) (.slice L2.pf lf L2.cf);rw [← hwz] at hrz hst;have hXx:X < wx.heap.size:=HX6.out.lt
      have HI2:Hid (∃ L:LCat,Row wz X 29 (lcCells L)∧CatOwn wz (X+1) L∧CatOk L.cat):=Lib.hid ⟨L2,by unfold lcCells;rw [hlb,hlf];exact hrz,(hown2.only hst (fun z hz hm=>by have:=(hown2.lo z hz).1;rw [List.mem_singleton.1 hm] at this;omega)).weaken (by omega),by
       have h9:=apply_ok smL smL_len HL.out.2.2.1 Hm2.out.1;rw [← happ] at h9
       exact h9⟩
      have HO2:Hid (Only [X] wd wz):=Lib.hid ((HOl.out.trans0 (HOx.out.trans0 o5)).trans hst (fun _ h _=>h));have Hwz:=Lib.hid hwz;clear hown2 happ o5 hlb hlf h5 hwz hrz hst hXx HL Hm2 HX6 HOx HOl;go_wp2_with fail;rw [← Hwz.out];refine ⟨⟨i+1,by go_num,by omega,HI2,HO2⟩,?_⟩
      simp [intOf];omega
     ·obtain rfl:i=mm:=(by omega);clear HFc;obtain ⟨L,hrow,hown,hok⟩:=HI.out;obtain ⟨nb,hnb⟩:∃ k,L.bs.length=k:=⟨_,rfl⟩;obtain ⟨nf,hnf⟩:∃ k,L.fs.length=k:=⟨_,rfl⟩;have hXc:wc.heap.size≤X:=(by rw [HX.out];exact Nat.le_refl _);have hOc:Only [] wc wr:=HOd.out.transN HOl.out (by simpa using hXc);have HOe:=Lib.hid (HOc.out.trans0 hOc);have h36:=Hr1.out.only0 (H1c.out.trans0 hOc);have hCX:Row wr X 29 [.slice L.pb nb L.cb,.slice L.pf nf L.cf]:=(by rw [← hnb,← hnf];exact hrow);obtain ⟨pb,hpb⟩:∃ p,L.pb=p:=⟨_,rfl⟩;have hap:=catApply_any L m wr hown.at hok Hok.out.1 (Hm.out.only0 HOe.out)
      have hLV:lcV L=.agg #[.slice pb nb L.cb,.slice L.pf nf L.cf]:=(by unfold lcV;rw [hnb,hnf,hpb]);rw [hLV,show lmV m=.agg #[.int .i64 m.x.kind,.int .i64 m.x.id.node,.int .i64 m.x.id.boot,.int .i64 m.x.id.seq,.string (str m.x.bucket),.string (str m.x.key),.int .i64 m.x.upload.node,.int .i64 m.x.upload.boot,.int .i64 m.x.upload.seq,.int .i64 m.x.piece.blob.node,.int .i64 m.x.piece.blob.boot,.int .i64 m.x.piece.blob.seq,.int .i64 m.x.piece.size,.string (str m.x.piece.etag),.int .i64 m.x.part,.slice m.p np m.c,.int .i64 m.x.time,.int .i64 m.x.days] by unfold lmV;rw [Hnp.out]] at hap
      rw [hpb] at hCX;have HAp:=Lib.hid hap;have Hld3:=Lib.hid (h36.loadSA (P:=Tryz.prog) Tryz.underlying36 cmInfo);have a0:=hCX.cell (i:=0) rfl;have a1:=hCX.cell (i:=1) rfl;have HhCX:=Lib.hid hCX;have Hh36:=Lib.hid h36;clear hap hCX h36
      go_wp2_with (first | ((with_reducible show wpList _ _ _ _ _ _);refine wpl_load (ty:=36) (x:=.tmp 3) rfl rfl rfl Hld3.out ?_))
      refine HAp.out.mono ?_;rintro e w4 ⟨L4,oc4,rfl,hown4,happ4,o4⟩;obtain ⟨nb4,hnb4⟩:∃ k,L4.bs.length=k:=⟨_,rfl⟩;obtain ⟨nf4,hnf4⟩:∃ k,L4.fs.length=k:=⟨_,rfl⟩;have hLV4:lcV L4=.agg #[.slice L4.pb nb4 L4.cb,.slice L4.pf nf4 L4.cf]:=(by unfold lcV;rw [hnb4,hnf4]);rw [hLV4,show oucV oc4=.agg #[.int .i64 oc4.code,.string (str oc4.etag)] from rfl];clear HAp Hld3 a0 a1
      go_upto_region 13 with (fail)
      obtain ⟨w5,hw5⟩:∃ w5,w5=w4.alloc (.cells #[.slice L4.pb nb4 L4.cb,.slice L4.pf nf4 L4.cf] 29):=⟨_,rfl⟩;have o5:Only [] w4 w5:=(by rw [hw5];exact Only.alloc _ _);have s5:w5.heap.size=w4.heap.size+1:=(by rw [hw5];simp);have r5:Row w5 w4.heap.size 29 [.slice L4.pb nb4 L4.cb,.slice L4.pf nf4 L4.cf]:=(by rw [hw5];exact Row.newOf _ _ _ _ rfl);obtain ⟨w6,hw6⟩:∃ w6,w6=w5.alloc (.cells #[.int .i64 oc4.code,.string (str oc4.etag)] 38):=⟨_,rfl⟩;have o6:Only [] w5 w6:=(by rw [hw6];exact Only.alloc _ _);have r6:Row w6 (w4.heap.size+1) 38 [.int .i64 oc4.code,.string (str oc4.etag)]:=by rw [← s5,hw6];exact Row.newOf _ _ _ _ rfl
      rw [← hw5,← hw6];have o46:=o4.trans0 (o5.trans0 o6);have HO6:=Lib.hid (HOe.out.trans0 o46);have HR5:=Lib.hid (r5.only0 o6);have HRX:=Lib.hid (HhCX.out.only0 o46);have HRM:=Lib.hid (Hh36.out.only0 o46);have c0:=HRX.out.cell (i:=0) rfl;have c1:=HRX.out.cell (i:=1) rfl;have d0:=HR5.out.cell (i:=0) rfl;have d1:=HR5.out.cell (i:=1) rfl;have g0:=r6.cell (i:=0) rfl;have g1:=r6.cell (i:=1) rfl;have m0:=HRM.out.cell (i:=0) rfl;have hap4:(apply smL L.cat m.x).2=oc4∧(apply smL L.cat m.x).1=L4.cat:=(by rw [← happ4];exact ⟨rfl,rfl⟩);have HA6:Hid (CatAt w6 L∧CatAt w6 L4):=Lib.hid ⟨(hown.only0 o46).at,(hown4.only0 (o5.trans0 o6)).at⟩
      have Hok4:Hid (CatOk L4.cat):=Lib.hid (by
       have h9:=apply_ok smL smL_len hok Hok.out.1;rw [← happ4] at h9
       exact h9)
      have Hsm:=Lib.hid (small_of hok);have Hsm4:=Lib.hid (small_of Hok4.out);have Hap4:=Lib.hid hap4;have HokL:=Lib.hid hok;have hnb16:nb≤16:=(by have:=len_bs hok;omega);have HLV:=Lib.hid hLV;have HLV4:=Lib.hid hLV4;have Hnb:=Lib.hid hnb;have Hpb:=Lib.hid hpb;clear hw5 o5 s5 r5 hw6 o6 r6 o46 hap4 hok hown hown4 happ4 hnb hnf hnb4 hnf4 hLV hLV4 hpb hXc hOc HX HI HOe HhCX Hh36 o4
      by_cases h0:oc4.code=0
      rotate_left
      ·have hb0:(oc4.code != (0:Int))=true:=bne_iff_ne.2 h0;have hb1:(oc4.code == (0:Int))=false:=beq_eq_false_iff_ne.2 h0;have hbad:=apply_bad smL (c:=L.cat) (x:=m.x) (by rw [Hap4.out.1];exact h0);rw [Hap4.out.1,Hap4.out.2] at hbad;have hS:=sameCt_any L L4 w6 HA6.out.1 HA6.out.2 Hsm.out;rw [decide_eq_true hbad.1.symm,HLV.out,HLV4.out] at hS;have HS:=Lib.hid hS;rw [hbad.2,show str []=⟨#[]⟩ from rfl] at g1;clear h0 hbad hS HA6 m0;go_wp2_with fail;refine HS.out.mono ?_;rintro e w10 ⟨rfl,o10⟩;have HO10:=Lib.hid (HO6.out.trans0 o10);replace g1:=o10.cell g1 (by simp)
       clear HS o10;go_wp2_with fail
       go_ret
       exact ⟨rfl,HO10.out⟩
      ·have Happ:Hid (m.x.kind≠10→∀ b∈L.cat.bucks,(b.name≠m.x.bucket→findB L4.cat b.name=some b)∧(b.name=m.x.bucket→(∀ y∈b.objs,y.key≠m.x.key→findO L4.cat b.name y.key=some y)∧∀ y∈b.upls,y.id≠m.x.upload→y.id≠m.x.id→findU L4.cat b.name y.key y.id=some y)):=Lib.hid (fun hk b hb=>by
        have h9:=apply_apart smL HokL.out (x:=m.x) (by rw [Hap4.out.1];exact h0) hk hb;rw [Hap4.out.2] at h9
        exact h9)
       rw [h0] at g0;clear h0 g1
       by_cases hk:m.x.kind=10
       ·rw [hk] at m0;clear hk;go_wp2_with fail
        go_ret
        exact ⟨rfl,HO6.out⟩
       ·have hkf:(m.x.kind == (10:Int))=false:=beq_eq_false_iff_ne.2 hk;have HAP:=Lib.hid (Happ.out hk);clear hk Happ
        go_upto_region 17 with (fail)
        clear hkf g0 m0;have HB:Hid (∀ b∈L.bs,(b.name≠m.x.bucket→findB L4.cat b.name=some b.b)∧(b.name=m.x.bucket→(∀ y∈b.os,y.o.key≠m.x.key→findO L4.cat b.name y.o.key=some y.o)∧∀ y∈b.us,y.u.id≠m.x.upload→y.u.id≠m.x.id→findU L4.cat b.name y.u.key y.u.id=some y.u)):=Lib.hid (fun b hb=>⟨fun h=>(HAP.out b.b (List.mem_map_of_mem hb)).1 h,fun h=>⟨fun y hy=>((HAP.out b.b (List.mem_map_of_mem hb)).2 h).1 y.o (List.mem_map_of_mem hy),fun y hy=>((HAP.out b.b (List.mem_map_of_mem hb)).2 h).2 y.u (List.mem_map_of_mem hy)⟩⟩);clear HAP Hap4;go_wp2_with fail
        clear c0 c1 d0 d1
        go_loopw [74] (fun a wl=>∃ i:Nat,a=.int .i64 (i:Int)∧i≤nb∧Hid (Only [] w6 wl)) (fun a _=>nb - (intOf a).toNat)
        case atStart=>exact ⟨0,rfl,Nat.zero_le _,Lib.hid (Only.refl _ _)⟩
        case round =>
         obtain ⟨i,rfl,hi,HO7⟩:=hrel
         by_cases hlt:i < nb
         rotate_left
         ·obtain rfl:i=nb:=(by omega);go_wp2_with fail
          go_ret
          exact ⟨rfl,HO6.out.trans0 HO7.out⟩
         ·obtain ⟨w7,rfl⟩:∃ w7,w7=wr:=⟨_,rfl⟩;obtain ⟨b,hb⟩:∃ b,L.bs[i]?=some b:=⟨_,List.getElem?_eq_getElem (by rw [Hnb.out];assumption)⟩;have hrd:=(HA6.out.1.sb.only0 HO7.out).1;have hne:L.bs.flatMap lbCells≠[]:=fun e'=>(by have:=flat_get lbCells 5 lbCells_len L.bs _ b 0 hb (by omega);rw [e'] at this;cases this);obtain ⟨bq,off,hg,-⟩:=hrd.lt hne;rw [hg] at hrd;obtain rfl:=Hpb.out.symm.trans hg;clear hg;have d0:=rd_elem lbCells_len hrd hb (r:=0) rfl;have d1:=rd_elem lbCells_len hrd hb (r:=1) rfl;have d2:=rd_elem lbCells_len hrd hb (r:=2) rfl
          have d3:=rd_elem lbCells_len hrd hb (r:=3) rfl;have d4:=rd_elem lbCells_len hrd hb (r:=4) rfl;rw [Addr.add_lit,← Nat.add_assoc] at d0 d1 d2 d3 d4;rw [Nat.add_zero] at d0;clear hrd hne;have hbm:=List.mem_of_getElem? hb;obtain ⟨no,hno⟩:∃ n,b.os.length=n:=⟨_,rfl⟩;obtain ⟨nu,hnu⟩:∃ n,b.us.length=n:=⟨_,rfl⟩;obtain ⟨po,hpo⟩:∃ n,b.po=n:=⟨_,rfl⟩;obtain ⟨pu,hpu⟩:∃ n,b.pu=n:=⟨_,rfl⟩;rw [hno,hpo] at d3;rw [hnu,hpu] at d4;have hno8:no≤100000:=(by have:=(Hsm.out.o b hbm).1;omega);have hnu8:nu≤100000:=by have:=(Hsm.out.o b hbm).2.1;omega
          have HNB:=Lib.hid (show b.os.length=no∧b.us.length=nu∧b.po=po∧b.pu=pu from ⟨hno,hnu,hpo,hpu⟩);have HBm:=Lib.hid hbm;have hAll:=HB.out b hbm;have HAll:=Lib.hid hAll;have HbV:Hid (lbV b=.agg #[.string (str b.name),.int .i64 b.time,.int .i64 b.days,.slice po no b.co,.slice pu nu b.cu]):=Lib.hid (by unfold lbV;rw [hno,hnu,hpo,hpu]);clear hb hbm hno hnu hpo hpu hAll
          go_upto_region 20 with (fail)
          obtain ⟨w8,hw8⟩:∃ w8,w8=w7.alloc (.cells #[.string (str b.name),.int .i64 b.time,.int .i64 b.days,.slice po no b.co,.slice pu nu b.cu] 60):=⟨_,rfl⟩;have o8:Only [] w7 w8:=(by rw [hw8];exact Only.alloc _ _);have r8:Row w8 w7.heap.size 60 [.string (str b.name),.int .i64 b.time,.int .i64 b.days,.slice po no b.co,.slice pu nu b.cu]:=(by rw [hw8];exact Row.newOf _ _ _ _ rfl);rw [← hw8];have HO8:=Lib.hid (HO7.out.trans0 o8);have HR8:=Lib.hid r8;have e0:=r8.cell (i:=0) rfl;have x0:=(HR5.out.only0 HO8.out).cell (i:=0) rfl;have x1:=(HR5.out.only0 HO8.out).cell (i:=1) rfl
          have hbk:=catBucket_any L4 b.name w8 (HA6.out.2.only0 HO8.out) Hok4.out;rw [HLV4.out] at hbk;have Hbk:=Lib.hid hbk;clear hw8 o8 r8 hbk d0 d1 d2 d3 d4;go_wp2_with fail;refine Hbk.out.mono ?_;rintro e w9 ⟨x,rfl,hx,hxown,o9⟩;have Hx5:=Lib.hid hx;clear hx;clear Hbk e0 x0 x1;obtain ⟨nx,hnx⟩:∃ n,x.os.length=n:=⟨_,rfl⟩;obtain ⟨mx,hmx⟩:∃ n,x.us.length=n:=⟨_,rfl⟩;have hxV:lbV x=.agg #[.string (str x.name),.int .i64 x.time,.int .i64 x.days,.slice x.po nx x.co,.slice x.pu mx x.cu]:=(by unfold lbV;rw [hnx,hmx]);rw [hxV]
          go_upto_region 21 with (fail)
          obtain ⟨w10,hw10⟩:∃ w10,w10=w9.alloc (.cells #[.string (str x.name),.int .i64 x.time,.int .i64 x.days,.slice x.po nx x.co,.slice x.pu mx x.cu] 60):=⟨_,rfl⟩;have o10:Only [] w9 w10:=(by rw [hw10];exact Only.alloc _ _);have r10:Row w10 w9.heap.size 60 [.string (str x.name),.int .i64 x.time,.int .i64 x.days,.slice x.po nx x.co,.slice x.pu mx x.cu]:=(by rw [hw10];exact Row.newOf _ _ _ _ rfl);rw [← hw10];have hx:=Hx5.out;have HO10:=Lib.hid (HO8.out.trans0 (o9.trans0 o10));have HE10:=Lib.hid (HR8.out.only0 (o9.trans0 o10));have e0:=HE10.out.cell (i:=0) rfl;have m4:=(HRM.out.only0 HO10.out).cell (i:=4) rfl
          have hsq:=str_eqb b.name m.x.bucket
          by_cases hn:b.name=m.x.bucket
          rotate_left
          ·rw [decide_eq_false hn] at hsq;have hfB:=HAll.out.1 hn;have hS:=sameBk_any b x w10 ((HA6.out.1.bk b HBm.out).only0 HO10.out) (hxown.only0 o10).at (by have:=Hsm.out.o b HBm.out;exact this.1) (by have:=Hsm.out.o b HBm.out;exact this.2.1) (by have:=Hsm.out.o b HBm.out;exact this.2.2.1) (by have:=Hsm.out.o b HBm.out;exact this.2.2.2);rw [hfB] at hx;rw [decide_eq_true (show b.b=x.b from hx.symm),HbV.out,hxV] at hS;rw [show (findB L4.cat b.name).isSome=true by rw [hfB];rfl];have HS:=Lib.hid hS;have e1:=HE10.out.cell (i:=1) rfl;have e2:=HE10.out.cell (i:=2) rfl
           have e3:=HE10.out.cell (i:=3) rfl;have e4:=HE10.out.cell (i:=4) rfl;have q0:=r10.cell (i:=0) rfl;have q1:=r10.cell (i:=1) rfl;have q2:=r10.cell (i:=2) rfl;have q3:=r10.cell (i:=3) rfl;have q4:=r10.cell (i:=4) rfl;clear hn hfB hS hx hnx hmx hxV hw10 r10 o10 o9 hxown;go_wp2_with fail;refine HS.out.mono ?_;rintro e w11 ⟨rfl,o11⟩;have HO11:=Lib.hid (HO10.out.trans0 o11);clear HS o11;go_wp2_with fail;refine ⟨⟨i+1,by go_num,by omega,HO11⟩,?_⟩
           simp [intOf];omega
          ·rw [decide_eq_true hn] at hsq;have HAQ:=Lib.hid (HAll.out.2 hn);obtain ⟨isB,hisB⟩:∃ v,(findB L4.cat b.name).isSome=v:=⟨_,rfl⟩;rw [hisB];clear hn hx hnx hmx hxV hw10 r10 o10 o9 hxown hisB HAll HbV
           go_upto_region 24 with (fail)
           have e3:=HE10.out.cell (i:=3) rfl;clear hsq m4;go_wp2_with fail;clear e0 e3
           go_loopw [101] (fun a wl=>∃ j:Nat,a=.int .i64 (j:Int)∧j≤no∧Hid (Only [] w10 wl)) (fun a _=>no - (intOf a).toNat)
           case atStart=>exact ⟨0,rfl,Nat.zero_le _,Lib.hid (Only.refl _ _)⟩
           case round =>
            obtain ⟨j,rfl,hj,HO11⟩:=hrel;obtain ⟨w11,rfl⟩:∃ w11,w11=wr:=⟨_,rfl⟩
            by_cases hlt2:j < no
            ·have hlq:=hlt2;obtain ⟨y,hy⟩:∃ y,b.os[j]?=some y:=⟨_,List.getElem?_eq_getElem (by rw [HNB.out.1];assumption)⟩;have hrd:=((HA6.out.1.bk b HBm.out).so.only0 (HO10.out.trans0 HO11.out)).1;have hne:b.os.flatMap loCells≠[]:=fun e'=>(by have:=flat_get loCells 5 loCells_len b.os _ y 0 hy (by omega);rw [e'] at this;cases this);obtain ⟨bq,off,hg,-⟩:=hrd.lt hne;rw [hg] at hrd;obtain rfl:=HNB.out.2.2.1.symm.trans hg;clear hg;have d0:=rd_elem loCells_len hrd hy (r:=0) rfl;have d1:=rd_elem loCells_len hrd hy (r:=1) rfl;have d2:=rd_elem loCells_len hrd hy (r:=2) rfl
             have d3:=rd_elem loCells_len hrd hy (r:=3) rfl;have d4:=rd_elem loCells_len hrd hy (r:=4) rfl;rw [Addr.add_lit,← Nat.add_assoc] at d0 d1 d2 d3 d4;rw [Nat.add_zero] at d0;clear hrd hne;have hym:=List.mem_of_getElem? hy;obtain ⟨ny,hny⟩:∃ n,y.o.pcs.length=n:=⟨_,rfl⟩;rw [hny] at d4;have HYV:Hid (loV y=.agg #[.string (str y.o.key),.int .i64 y.o.size,.string (str y.o.etag),.int .i64 y.o.time,.slice y.q ny y.c]):=Lib.hid (by unfold loV;rw [hny]);have HYm:=Lib.hid hym;clear hy hym hlq
             go_upto_region 27 with (fail)
             obtain ⟨w12,hw12⟩:∃ w12,w12=w11.alloc (.cells #[.string (str y.o.key),.int .i64 y.o.size,.string (str y.o.etag),.int .i64 y.o.time,.slice y.q ny y.c] 48):=⟨_,rfl⟩;have o12:Only [] w11 w12:=(by rw [hw12];exact Only.alloc _ _);have r12:Row w12 w11.heap.size 48 [.string (str y.o.key),.int .i64 y.o.size,.string (str y.o.etag),.int .i64 y.o.time,.slice y.q ny y.c]:=(by rw [hw12];exact Row.newOf _ _ _ _ rfl);rw [← hw12];have HO12:=Lib.hid (HO11.out.trans0 o12);have HR12:=Lib.hid r12;have f0:=r12.cell (i:=0) rfl;have e0:=(HE10.out.only0 HO12.out).cell (i:=0) rfl
             have x0:=(HR5.out.only0 (HO10.out.trans0 HO12.out)).cell (i:=0) rfl;have x1:=(HR5.out.only0 (HO10.out.trans0 HO12.out)).cell (i:=1) rfl;have hob:=catObject_any L4 b.name y.o.key w12 (HA6.out.2.only0 (HO10.out.trans0 HO12.out)) Hok4.out;rw [HLV4.out] at hob;have Hob:=Lib.hid hob;clear hw12 o12 r12 hob d0 d1 d2 d3 d4;go_wp2_with fail;refine Hob.out.mono ?_;rintro e w13 ⟨z,rfl,hz,hzown,o13⟩;have Hz:=Lib.hid hz;clear hz;clear Hob e0 x0 x1 f0;obtain ⟨nz,hnz⟩:∃ n,z.o.pcs.length=n:=⟨_,rfl⟩;have hzV:loV z=.agg #[.string (str z.o.key),.int .i64 z.o.size,.string (str z.o.etag),.int .i64 z.o.time,.slice z.q nz z.c]:=by unfold loV;rw [hnz]
             rw [hzV]
             go_upto_region 28 with (fail)
             obtain ⟨w14,hw14⟩:∃ w14,w14=w13.alloc (.cells #[.string (str z.o.key),.int .i64 z.o.size,.string (str z.o.etag),.int .i64 z.o.time,.slice z.q nz z.c] 48):=⟨_,rfl⟩;have o14:Only [] w13 w14:=(by rw [hw14];exact Only.alloc _ _);have r14:Row w14 w13.heap.size 48 [.string (str z.o.key),.int .i64 z.o.size,.string (str z.o.etag),.int .i64 z.o.time,.slice z.q nz z.c]:=(by rw [hw14];exact Row.newOf _ _ _ _ rfl);rw [← hw14];have hz:=Hz.out;have HO14:=Lib.hid (HO12.out.trans0 (o13.trans0 o14));have hR14:=HR12.out.only0 (o13.trans0 o14);have f0:=hR14.cell (i:=0) rfl
             have m5:=(HRM.out.only0 (HO10.out.trans0 HO14.out)).cell (i:=5) rfl;have hsk:=str_eqb y.o.key m.x.key
             by_cases hky:y.o.key=m.x.key
             ·rw [decide_eq_true hky] at hsk;obtain ⟨isO,hisO⟩:∃ v,(findO L4.cat b.name y.o.key).isSome=v:=⟨_,rfl⟩;rw [hisO];clear hky hz hzown hnz hzV hw14 o14 r14 hR14 o13 hisO;go_wp2_with fail;refine ⟨⟨j+1,by go_num,by omega,HO14⟩,?_⟩
              simp [intOf];omega
             ·rw [decide_eq_false hky] at hsk;have hfO:=HAQ.out.1 y HYm.out hky;have hS:=sameOb_any y z w14 (((HA6.out.1.bk b HBm.out).ob y HYm.out).only0 (HO10.out.trans0 HO14.out)) (.own (OwnK.only0 hzown o14)) (by have:=(Hsm.out.o b HBm.out).2.2.1 y HYm.out;omega);rw [hfO] at hz;rw [decide_eq_true (show y.o=z.o from hz.symm),HYV.out,hzV] at hS;rw [show (findO L4.cat b.name y.o.key).isSome=true by rw [hfO];rfl];have HS:=Lib.hid hS;have f1:=hR14.cell (i:=1) rfl;have f2:=hR14.cell (i:=2) rfl;have f3:=hR14.cell (i:=3) rfl;have f4:=hR14.cell (i:=4) rfl;have q0:=r14.cell (i:=0) rfl
              have q1:=r14.cell (i:=1) rfl;have q2:=r14.cell (i:=2) rfl;have q3:=r14.cell (i:=3) rfl;have q4:=r14.cell (i:=4) rfl;clear hky hfO hS hz hnz hzV hw14 r14 o14 o13 hzown hR14;go_wp2_with fail;refine HS.out.mono ?_;rintro e w15 ⟨rfl,o15⟩;have HO15:=Lib.hid (HO14.out.trans0 o15);clear HS o15;go_wp2_with fail;refine ⟨⟨j+1,by go_num,by omega,HO15⟩,?_⟩
              simp [intOf];omega
            ·obtain rfl:j=no:=(by omega);have e4:=(HE10.out.only0 HO11.out).cell (i:=4) rfl;clear hlt2 hj;go_wp2_with fail;clear e4
             go_loopw [133] (fun a wl=>∃ j:Nat,a=.int .i64 (j:Int)∧j≤nu∧Hid (Only [] w10 wl)) (fun a _=>nu - (intOf a).toNat)
             case atStart=>exact ⟨0,rfl,Nat.zero_le _,HO11⟩
             case round =>
              clear HO11;obtain ⟨k,rfl,hk,HO11⟩:=hrel;obtain ⟨w11,rfl⟩:∃ w11,w11=wr:=⟨_,rfl⟩
              by_cases hlt3:k < nu
              rotate_left
              ·obtain rfl:k=nu:=(by omega);have HO17:=Lib.hid (HO10.out.trans0 HO11.out);clear HO11;go_wp2_with fail;refine ⟨⟨i+1,by go_num,by omega,HO17⟩,?_⟩
               simp [intOf];omega
              ·have hlq:=hlt3;obtain ⟨y,hy⟩:∃ y,b.us[k]?=some y:=⟨_,List.getElem?_eq_getElem (by rw [HNB.out.2.1];assumption)⟩;have hrd:=((HA6.out.1.bk b HBm.out).su.only0 (HO10.out.trans0 HO11.out)).1;have hne:b.us.flatMap luCells≠[]:=fun e'=>(by have:=flat_get luCells 5 luCells_len b.us _ y 0 hy (by omega);rw [e'] at this;cases this);obtain ⟨bq,off,hg,-⟩:=hrd.lt hne;rw [hg] at hrd;obtain rfl:=HNB.out.2.2.2.symm.trans hg;clear hg;have d0:=rd_elem luCells_len hrd hy (r:=0) rfl;have d1:=rd_elem luCells_len hrd hy (r:=1) rfl;have d2:=rd_elem luCells_len hrd hy (r:=2) rfl
               have d3:=rd_elem luCells_len hrd hy (r:=3) rfl;have d4:=rd_elem luCells_len hrd hy (r:=4) rfl;rw [Addr.add_lit,← Nat.add_assoc] at d0 d1 d2 d3 d4;rw [Nat.add_zero] at d0;clear hrd hne;have hym:=List.mem_of_getElem? hy;obtain ⟨ny,hny⟩:∃ n,y.u.parts.length=n:=⟨_,rfl⟩;rw [hny] at d4;have HYV:Hid (luV y=.agg #[.int .i64 y.u.id.node,.int .i64 y.u.id.boot,.int .i64 y.u.id.seq,.string (str y.u.key),.slice y.q ny y.c]):=Lib.hid (by unfold luV;rw [hny]);have HYm:=Lib.hid hym;clear hy hym hlq
               go_upto_region 34 with (fail)
               obtain ⟨w12,hw12⟩:∃ w12,w12=w11.alloc (.cells #[.int .i64 y.u.id.node,.int .i64 y.u.id.boot,.int .i64 y.u.id.seq,.string (str y.u.key),.slice y.q ny y.c] 54):=⟨_,rfl⟩;have o12:Only [] w11 w12:=(by rw [hw12];exact Only.alloc _ _);have r12:Row w12 w11.heap.size 54 [.int .i64 y.u.id.node,.int .i64 y.u.id.boot,.int .i64 y.u.id.seq,.string (str y.u.key),.slice y.q ny y.c]:=(by rw [hw12];exact Row.newOf _ _ _ _ rfl);rw [← hw12];have HO12:=Lib.hid (HO11.out.trans0 o12);have HR12:=Lib.hid r12;have f0:=r12.cell (i:=0) rfl;have f1:=r12.cell (i:=1) rfl;have f2:=r12.cell (i:=2) rfl
               have f3:=r12.cell (i:=3) rfl;have e0:=(HE10.out.only0 HO12.out).cell (i:=0) rfl;have x0:=(HR5.out.only0 (HO10.out.trans0 HO12.out)).cell (i:=0) rfl;have x1:=(HR5.out.only0 (HO10.out.trans0 HO12.out)).cell (i:=1) rfl;have hob:=catUpload_any L4 b.name y.u.key y.u.id w12 (HA6.out.2.only0 (HO10.out.trans0 HO12.out)) Hok4.out;rw [HLV4.out] at hob;unfold idV at hob;have Hob:=Lib.hid hob;clear hw12 o12 r12 hob d0 d1 d2 d3 d4;go_wp2_with fail;refine Hob.out.mono ?_;rintro e w13 ⟨z,rfl,hz,hzown,o13⟩;have Hz:=Lib.hid hz;clear hz;clear Hob e0 x0 x1 f0 f1 f2 f3;obtain ⟨nz,hnz⟩:∃ n,z.u.parts.length=n:=⟨_,rfl⟩
               have hzV:luV z=.agg #[.int .i64 z.u.id.node,.int .i64 z.u.id.boot,.int .i64 z.u.id.seq,.string (str z.u.key),.slice z.q nz z.c]:=(by unfold luV;rw [hnz]);rw [hzV]
               go_upto_region 35 with (fail)
               obtain ⟨w14,hw14⟩:∃ w14,w14=w13.alloc (.cells #[.int .i64 z.u.id.node,.int .i64 z.u.id.boot,.int .i64 z.u.id.seq,.string (str z.u.key),.slice z.q nz z.c] 54):=⟨_,rfl⟩;have o14:Only [] w13 w14:=(by rw [hw14];exact Only.alloc _ _);have r14:Row w14 w13.heap.size 54 [.int .i64 z.u.id.node,.int .i64 z.u.id.boot,.int .i64 z.u.id.seq,.string (str z.u.key),.slice z.q nz z.c]:=(by rw [hw14];exact Row.newOf _ _ _ _ rfl);rw [← hw14];have hz:=Hz.out;have HO14:=Lib.hid (HO12.out.trans0 (o13.trans0 o14));have hR14:=HR12.out.only0 (o13.trans0 o14);have f0:=hR14.cell (i:=0) rfl
               have f1:=hR14.cell (i:=1) rfl;have f2:=hR14.cell (i:=2) rfl;have f3:=hR14.cell (i:=3) rfl;have f4:=hR14.cell (i:=4) rfl;have m1:=(HRM.out.only0 (HO10.out.trans0 HO14.out)).cell (i:=1) rfl;have m2:=(HRM.out.only0 (HO10.out.trans0 HO14.out)).cell (i:=2) rfl;have m3:=(HRM.out.only0 (HO10.out.trans0 HO14.out)).cell (i:=3) rfl;have m6:=(HRM.out.only0 (HO10.out.trans0 HO14.out)).cell (i:=6) rfl;have m7:=(HRM.out.only0 (HO10.out.trans0 HO14.out)).cell (i:=7) rfl;have m8:=(HRM.out.only0 (HO10.out.trans0 HO14.out)).cell (i:=8) rfl;have hq1:=fun w=>eqIdN 9998 y.u.id m.x.upload w
               have hq2:=fun w=>eqIdN 9998 y.u.id m.x.id w;unfold idV at hq1 hq2
               by_cases hu1:y.u.id=m.x.upload
               ·simp only [decide_eq_true hu1] at hq1;obtain ⟨isU,hisU⟩:∃ v,(findU L4.cat b.name y.u.key y.u.id).isSome=v:=⟨_,rfl⟩;rw [hisU];clear hu1 hz hzown hnz hzV hw14 o14 r14 hR14 o13 hisU hq2;go_wp2_with fail;refine ⟨⟨k+1,by go_num,by omega,HO14⟩,?_⟩
                simp [intOf];omega
               simp only [decide_eq_false hu1] at hq1
               by_cases hu2:y.u.id=m.x.id
               ·simp only [decide_eq_true hu2] at hq2;obtain ⟨isU,hisU⟩:∃ v,(findU L4.cat b.name y.u.key y.u.id).isSome=v:=⟨_,rfl⟩;rw [hisU];clear hu1 hu2 hz hzown hnz hzV hw14 o14 r14 hR14 o13 hisU;go_wp2_with fail;refine ⟨⟨k+1,by go_num,by omega,HO14⟩,?_⟩
                simp [intOf];omega
               ·simp only [decide_eq_false hu2] at hq2;have hfO:=HAQ.out.2 y HYm.out hu1 hu2;have hS:=sameUp_any y z w14 (((HA6.out.1.bk b HBm.out).up y HYm.out).only0 (HO10.out.trans0 HO14.out)) (.own (OwnK.only0 hzown o14)) (by have:=(Hsm.out.o b HBm.out).2.2.2 y HYm.out;omega);rw [hfO] at hz;rw [decide_eq_true (show y.u=z.u from hz.symm),HYV.out,hzV] at hS;rw [show (findU L4.cat b.name y.u.key y.u.id).isSome=true by rw [hfO];rfl];have HS:=Lib.hid hS;have q0:=r14.cell (i:=0) rfl;have q1:=r14.cell (i:=1) rfl;have q2:=r14.cell (i:=2) rfl;have q3:=r14.cell (i:=3) rfl
                have q4:=r14.cell (i:=4) rfl;clear hu1 hu2 hfO hS hz hnz hzV hw14 r14 o14 o13 hzown hR14;go_wp2_with fail;refine HS.out.mono ?_;rintro e w15 ⟨rfl,o15⟩;have HO15:=Lib.hid (HO14.out.trans0 o15);clear HS o15;go_wp2_with fail;refine ⟨⟨k+1,by go_num,by omega,HO15⟩,?_⟩
                simp [intOf];omega
end
end Go.Proofs.YtfeglnpmpgipiaaGreatDoor
