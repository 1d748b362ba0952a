/- OrdPk, part 51: LawOrdW. -/
import Derived.Test.YtfeglnpmpgipiaaGreatDoorOrdPk47
import Derived.Test.YtfeglnpmpgipiaaGreatDoorOrdPk49
import Derived.Test.YtfeglnpmpgipiaaGreatDoorOrdPk50
set_option linter.unusedVariables false
set_option maxRecDepth 100000
set_option linter.unusedSimpArgs false
namespace Go.Proofs.YtfeglnpmpgipiaaGreatDoor
section
open Go.RowKit
set_option maxHeartbeats 16000000 in
theorem lawOrd_any (p:Option Addr) (n c:Nat) (ms:List LCmd) (w0:World) (hn:ms.length=n) (hnb:n * 184≤140737488355328) (hx:Rd w0 p (ms.flatMap lmCells)) (hms:CmsAt w0 ms) :
  Calls Tryz.prog 4 #[.slice p n c] w0 fun e w'=>e=.returned (.bool true)∧Only [] w0 w':=by
 have Hn:=Lib.hid hn;have Hx:=Lib.hid hx;have HM:=Lib.hid hms;clear hn hx hms
 go_enter Tryz.func4,Tryz.ntmps4
 go_wp2_with fail;refine (alive11_any w0).mono ?_;rintro e wa ⟨rfl,oa⟩;have HOa:=Lib.hid oa;clear oa;go_wp2_with fail;refine (forms11_any p n c ms wa Hn.out hnb (Hx.out.only0 HOa.out) ⟨fun x h=>(HM.out.ca x h).only0 HOa.out,HM.out.sh⟩).mono ?_;rintro e wc ⟨q,mm,k,fs,rfl,hfl,hrd,hq0,hfm,hmem,ob⟩;have HOc:=Lib.hid (HOa.out.trans0 ob);have HFc:Hid (fs.length=mm∧Rd wc q (fs.flatMap lmCells)∧(q=none→mm=0)∧FmOk fs∧∀ x∈fs,x∈ms):=Lib.hid ⟨hfl,hrd,hq0,hfm,hmem⟩;clear HOa ob hfl hrd hq0 hfm hmem
 by_cases hle:mm≤600
 rotate_left
 ·rw [decide_eq_false hle];clear hle;go_wp2_with fail
  go_ret
  exact ⟨rfl,HOc.out⟩
 ·rw [decide_eq_true hle];obtain ⟨wd,hwd⟩:∃ wd,wd=wc.alloc (.cells #[.slice none 0 0,.slice none 0 0] 29):=⟨_,rfl⟩;have od:Only [] wc wd:=(by rw [hwd];exact Only.alloc _ _);obtain ⟨X,hX⟩:∃ X,wc.heap.size=X:=⟨_,rfl⟩;have rd:Row wd X 29 [.slice none 0 0,.slice none 0 0]:=(by rw [← hX,hwd];exact Row.newOf _ _ _ _ rfl);have HI0:Hid (∃ L:LCat,Row wd X 29 (lcCells L)∧CatOwn wd (X+1) L∧CatOk L.cat):=Lib.hid ⟨⟨[],none,0,[],none,0⟩,rd,⟨OwnK.nil _ _ _ _,OwnK.nil _ _ _ _,(fun b h=>by cases h),by simp [LCat.fp,blk]⟩,cat0_ok⟩;have HOd:=Lib.hid od
  have Hwd:=Lib.hid hwd;have HX:=Lib.hid hX;clear od hwd hX rd
  go_upto_region 7 with (fail)
  rw [← Hwd.out,HX.out];clear Hwd;go_wp2_with fail
  go_loopw [19] (fun a wl=>∃ i:Nat,a=.int .i64 (i:Int)∧i≤mm∧Hid (∃ L:LCat,Row wl X 29 (lcCells L)∧CatOwn wl (X+1) L∧CatOk L.cat)∧Hid (Only [X] wd wl)) (fun a _=>mm - (intOf a).toNat)
  case atStart=>exact ⟨0,rfl,Nat.zero_le _,HI0,Lib.hid (Only.refl _ _)⟩
  case round =>
   clear HI0;obtain ⟨i,rfl,hi,HI,HOl⟩:=hrel
   by_cases hlt:i < mm
   ·obtain ⟨m2,hm2⟩:∃ m,fs[i]?=some m:=⟨_,List.getElem?_eq_getElem (by rw [HFc.out.1];exact hlt)⟩;have hmm:=List.mem_of_getElem? hm2;have hXc:wc.heap.size≤X:=(by rw [HX.out];exact Nat.le_refl _);have hOc:Only [] wc wr:=HOd.out.transN HOl.out (by simpa using hXc);have hrd:=HFc.out.2.1.only0 hOc;have hne:fs.flatMap lmCells≠[]:=fun e'=>(by have:=flat_get lmCells 18 lmCells_len fs _ m2 0 hm2 (by omega);rw [e'] at this;cases this);obtain ⟨bq,off,rfl,-⟩:=hrd.lt hne;have hld:=load_cm hrd hm2;obtain ⟨np2,hnp2⟩:∃ k,m2.x.parts.length=k:=⟨_,rfl⟩;have Hld:=Lib.hid hld
    have Hm2:=Lib.hid (show CmdOk m2.x∧CmAt wr m2∧m2.x.parts.length=np2 from ⟨(HFc.out.2.2.2.1.ok m2 hmm).1,(HM.out.ca m2 (HFc.out.2.2.2.2 m2 hmm)).only0 (HOc.out.trans0 hOc),hnp2⟩);obtain ⟨L,hrow,hown,hok⟩:=HI.out;obtain ⟨nb,hnb⟩:∃ k,L.bs.length=k:=⟨_,rfl⟩;obtain ⟨nf,hnf⟩:∃ k,L.fs.length=k:=⟨_,rfl⟩;have HL:=Lib.hid (show Row wr X 29 [.slice L.pb nb L.cb,.slice L.pf nf L.cf]∧CatOwn wr (X+1) L∧CatOk L.cat∧L.bs.length=nb∧L.fs.length=nf from ⟨by rw [← hnb,← hnf];exact hrow,hown,hok,hnb,hnf⟩);clear hm2 hmm hXc hOc hrd hne hld hnp2 hrow hown hok hnb hnf HI
    unfold lmV at Hld;rw [Hm2.out.2.2] at Hld
    go_upto_region 10 with (first | ((with_reducible show wpList _ _ _ _ _ _);refine wpl_load (ty:=36) (x:=.tmp 21) rfl rfl rfl Hld.out ?_))
    obtain ⟨wx,hwx⟩:∃ wx,wx=wr.alloc (.cells #[.int .i64 m2.x.kind,.int .i64 m2.x.id.node,.int .i64 m2.x.id.boot,.int .i64 m2.x.id.seq,.string (str m2.x.bucket),.string (str m2.x.key),.int .i64 m2.x.upload.node,.int .i64 m2.x.upload.boot,.int .i64 m2.x.upload.seq,.int .i64 m2.x.piece.blob.node,.int .i64 m2.x.piece.blob.boot,.int .i64 m2.x.piece.blob.seq,.int .i64 m2.x.piece.size,.string (str m2.x.piece.etag),.int .i64 m2.x.part,.slice m2.p np2 m2.c,.int .i64 m2.x.time,.int .i64 m2.x.days] 36):=⟨_,rfl⟩;have ox:Only [] wr wx:=(by rw [hwx];exact Only.alloc _ _);have rx:Row wx wr.heap.size 36 [.int .i64 m2.x.kind,.int .i64 m2.x.id.node,.int .i64 m2.x.id.boot,.int .i64 m2.x.id.seq,.string (str m2.x.bucket),.string (str m2.x.key),.int .i64 m2.x.upload.node,.int .i64 m2.x.upload.boot,.int .i64 m2.x.upload.seq,.int .i64 m2.x.piece.blob.node,.int .i64 m2.x.piece.blob.boot,.int .i64 m2.x.piece.blob.seq,.int .i64 m2.x.piece.size,.string (str m2.x.piece.etag),.int .i64 m2.x.part,.slice m2.p np2 m2.c,.int .i64 m2.x.time,.int .i64 m2.x.days]:=by rw [hwx];exact Row.newOf _ _ _ _ rfl
    rw [← hwx];have hXr:X < wr.heap.size:=HL.out.1.lt;have h6:=rx.loadSA (P:=Tryz.prog) Tryz.underlying36 cmInfo;have H6:=Lib.hid h6;have hap:=catApply_any L m2 wx ((HL.out.2.1.only0 ox).at) HL.out.2.2.1 Hm2.out.1 (Hm2.out.2.1.only0 ox);rw [show lcV L=.agg #[.slice L.pb nb L.cb,.slice L.pf nf L.cf] by unfold lcV;rw [HL.out.2.2.2.1,HL.out.2.2.2.2],show lmV m2=.agg #[.int .i64 m2.x.kind,.int .i64 m2.x.id.node,.int .i64 m2.x.id.boot,.int .i64 m2.x.id.seq,.string (str m2.x.bucket),.string (str m2.x.key),.int .i64 m2.x.upload.node,.int .i64 m2.x.upload.boot,.int .i64 m2.x.upload.seq,.int .i64 m2.x.piece.blob.node,.int .i64 m2.x.piece.blob.boot,.int .i64 m2.x.piece.blob.seq,.int .i64 m2.x.piece.size,.string (str m2.x.piece.etag),.int .i64 m2.x.part,.slice m2.p np2 m2.c,.int .i64 m2.x.time,.int .i64 m2.x.days] by unfold lmV;rw [Hm2.out.2.2]] at hap
    have HAp:=Lib.hid hap;have HOx:=Lib.hid ox;have hX6:=HL.out.1.only0 ox;have c0:=hX6.cell (i:=0) rfl;have c1:=hX6.cell (i:=1) rfl;have HX6:=Lib.hid hX6;obtain ⟨Bx,hBx⟩:∃ B,wr.heap.size=B:=⟨_,rfl⟩;rw [hBx] at H6 hXr ⊢;have HBx:=Lib.hid hBx;clear hwx ox rx h6 hap hX6 hBx Hld
    go_wp2_with (first | ((with_reducible show wpList _ _ _ _ _ _);refine wpl_load (ty:=36) (x:=.tmp 6) rfl rfl rfl H6.out ?_))
    refine HAp.out.mono ?_;rintro e w5 ⟨L2,oc2,rfl,hown2,happ,o5⟩;clear HAp c0 c1 H6;obtain ⟨lb,hlb⟩:∃ k,L2.bs.length=k:=⟨_,rfl⟩;obtain ⟨lf,hlf⟩:∃ k,L2.fs.length=k:=⟨_,rfl⟩;rw [show lcV L2=.agg #[.slice L2.pb lb L2.cb,.slice L2.pf lf L2.cf] by unfold lcV;rw [hlb,hlf]];have h5:=HX6.out.only0 o5;have a0:=h5.cell (i:=0) rfl;have a1:=h5.cell (i:=1) rfl;have f0:=h5.free 0;have f1:=h5.free 1;obtain ⟨wz,hwz⟩:∃ wz,wz=(w5.setCell ⟨X,0,none⟩ (.slice L2.pb lb L2.cb)).setCell ⟨X,1,none⟩ (.slice L2.pf lf L2.cf):=⟨_,rfl⟩;have hrz:=h5.set2 (.slice L2.pb lb L2.cb) (.slice L2.pf lf L2.cf)
    have hst:=only_set2 w5 X (.slice L2.pb lb L2.cb) (.slice L2.pf lf L2.cf);rw [← hwz] at hrz hst;have hXx:X < wx.heap.size:=HX6.out.lt;have HRz:=Lib.hid hrz;have Hown2:=Lib.hid (hown2.only hst (fun z hz hm=>by have:=(hown2.lo z hz).1;rw [List.mem_singleton.1 hm] at this;omega))
    have Hok2:Hid (CatOk L2.cat):=Lib.hid (by
     have h9:=apply_ok smL smL_len HL.out.2.2.1 Hm2.out.1;rw [← happ] at h9
     exact h9)
    have HLV2:Hid (lcV L2=.agg #[.slice L2.pb lb L2.cb,.slice L2.pf lf L2.cf]):=Lib.hid (by unfold lcV;rw [hlb,hlf]);have HXn:Hid (X+1≤wx.heap.size):=Lib.hid hXx;have HLL:Hid (L2.bs.length=lb∧L2.fs.length=lf):=Lib.hid ⟨hlb,hlf⟩;have HO2:Hid (Only [X] wd wz):=Lib.hid ((HOl.out.trans0 (HOx.out.trans0 o5)).trans hst (fun _ h _=>h));have Hwz:=Lib.hid hwz;clear hown2 happ o5 hlb hlf h5 hwz hrz hst hXx HL Hm2 HX6 HOx HOl
    go_upto_region 11 with (fail)
    rw [← Hwz.out];clear a0 a1 f0 f1;have c0:=HRz.out.cell (i:=0) rfl;have c1:=HRz.out.cell (i:=1) rfl;have hord:=ordered_any L2 wz Hown2.out.at Hok2.out;rw [HLV2.out] at hord;have Hord:=Lib.hid hord;clear hord;go_wp2_with fail;refine Hord.out.mono ?_;rintro e w9 ⟨rfl,o9⟩;have HI2:Hid (∃ L:LCat,Row w9 X 29 (lcCells L)∧CatOwn w9 (X+1) L∧CatOk L.cat):=Lib.hid ⟨L2,by unfold lcCells;rw [HLL.out.1,HLL.out.2];exact HRz.out.only0 o9,(Hown2.out.weaken HXn.out).only0 o9,Hok2.out⟩;have HO3:Hid (Only [X] wd w9):=Lib.hid (HO2.out.trans0 o9);clear Hord HRz Hown2 Hok2 HLV2 HXn HLL o9 c0 c1 HO2 Hwz
    go_wp2_with fail;refine ⟨⟨i+1,by go_num,by omega,HI2,HO3⟩,?_⟩
    simp [intOf];omega
   ·obtain rfl:i=mm:=(by omega);have hXc:wc.heap.size≤X:=(by rw [HX.out];exact Nat.le_refl _);have hOc:Only [] wc wr:=HOd.out.transN HOl.out (by simpa using hXc);have HOe:=Lib.hid (HOc.out.trans0 hOc);clear HI HFc hOc;go_wp2_with fail
    go_ret
    exact ⟨rfl,HOe.out⟩
end
end Go.Proofs.YtfeglnpmpgipiaaGreatDoor
