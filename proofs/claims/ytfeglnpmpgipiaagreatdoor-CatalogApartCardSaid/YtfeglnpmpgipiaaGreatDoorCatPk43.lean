/- CatPk, part 43: Forms11W, LawBackW. -/
import Derived.Test.YtfeglnpmpgipiaaGreatDoorCatPk06
import Derived.Test.YtfeglnpmpgipiaaGreatDoorCatPk14
import Derived.Test.YtfeglnpmpgipiaaGreatDoorCatPk28
import Derived.Test.YtfeglnpmpgipiaaGreatDoorCatPk39
import Derived.Test.YtfeglnpmpgipiaaGreatDoorCatPk40
import Derived.Test.YtfeglnpmpgipiaaGreatDoorCatPk41
import Derived.Test.YtfeglnpmpgipiaaGreatDoorCatPk42
set_option linter.unusedVariables false
set_option maxRecDepth 100000
set_option linter.unusedSimpArgs false
namespace Go.Proofs.YtfeglnpmpgipiaaGreatDoor
section
open Go.RowKit
theorem Tryz.infoCm:(Tryz.prog.info? 36).map (fun i=>(i.zero,i.size,i.bytes))=some (some (.agg #[.int .i64 0,.int .i64 0,.int .i64 0,.int .i64 0,.string ⟨#[]⟩,.string ⟨#[]⟩,.int .i64 0,.int .i64 0,.int .i64 0,.int .i64 0,.int .i64 0,.int .i64 0,.int .i64 0,.string ⟨#[]⟩,.int .i64 0,.slice none 0 0,.int .i64 0,.int .i64 0]),18,184):=by kernel_rfl
theorem OutK.pushB {α:Type} {f:α→List Value} {e:TypeId} {K:Nat} {P:Program} {t:TypeId} {z:Value} {bytes:Nat} (ht:P.underlying t=some (.slice e)) (hi:(P.info? e).map (fun i=>(i.zero,i.size,i.bytes))=some (some z,K,bytes)) (hz:z.cells.size=K) (hK:0 < K)
  (hfl:∀ a,(f a).length=K) (hf1:∀ a,∀ u∈f a,u.oneCell'=true) {w0 w:World} {q:Option Addr} {m k:Nat} {ps:List α} (x:α) (h:OutK f e K w0 w q m k ps) (hb:(m+1) * bytes≤140737488355328) (h63:m+1≤140737488355328) :
  ∃ q' k' w2,Hid ((Builtin.append_ #[t,t] t #[.slice q m k,.slice (some ⟨w.heap.size,0,none⟩) 1 1]).run P (w.alloc (.cells (f x).toArray e))=.ok (.slice q' (m+1) k') w2)∧OutK f e K w0 w2 q' (m+1) k' (ps ++ [x])∧Only (Go.Proofs.YtfeglnpmpgipiaaGreatDoor.blk q) w w2:=by
 have oz:=Only.alloc w (.cells (f x).toArray e);have rz:=Row.new w e (f x);have h2:=h.only0 oz;obtain ⟨p',c',w2,hr2,o2,h3⟩:=appendK (P:=P) (t:=t) (ty:=t) (q:=some ⟨w.heap.size,0,none⟩) (m:=1) (c:=1) (news:=f x) (w.alloc (.cells (f x).toArray e)) ht hi hz hK h2.1 rz.rd0 (by rw [hfl,Nat.one_mul]) (by simp) (hf1 x) hb (by omega) h2.2.2.size;refine ⟨p',c',w2,Lib.hid hr2,⟨by rw [List.flatMap_append];simpa using o2,by rw [List.length_append,h.2.1];rfl,h2.2.2.transN h3 (fun t ht=>(h.blk _ ht).1)⟩,(oz.mono (by simp)).trans h3 (fun i hi _=>hi)⟩
structure FmOk (fs:List LCmd):Prop where
 ok:∀ m∈fs,CmdOk m.x∧m.x.parts.length≤16
set_option maxHeartbeats 16000000 in
theorem forms11_any (p:Option Addr) (n c:Nat) (ms:List LCmd) (w0:World) (hn:ms.length=n) (hnb:n * 184≤140737488355328) (hx:Rd w0 p (ms.flatMap lmCells)) (hms:CmsAt w0 ms) :
  Calls Tryz.prog 15 #[.slice p n c] w0 fun e w'=>∃ q m k fs,e=.returned (.tuple #[.slice q m k,.bool (decide (m≤600))])∧fs.length=m∧Rd w' q (fs.flatMap lmCells)∧(q=none→m=0)∧FmOk fs∧(∀ x∈fs,x∈ms)∧Only [] w0 w':=by
 obtain ⟨w2,hw2⟩:∃ w2,w2=w0.alloc (.cells #[] 36):=⟨_,rfl⟩;have HI0:Hid (OutK lmCells 36 18 w0 w2 (some ⟨w0.heap.size,0,none⟩) 0 0 []∧FmOk []∧∀ x∈([]:List LCmd),x∈ms):=Lib.hid ⟨OutK.start (Only.refl _ _) hw2,⟨fun m hm=>by cases hm⟩,fun x hx=>by cases hx⟩;have Hw:=Lib.hid hw2;have Hn:=Lib.hid hn;have Hx:=Lib.hid hx;have HM:=Lib.hid hms;clear hn hx hms hw2
 go_enter Tryz.func15,Tryz.ntmps15
 go_upto_region 2 with (fail)
 rw [← Hw.out];clear Hw;go_wp2_with fail
 go_loopw [4,10] (fun a b wl=>∃ (i m k:Nat) (q:Option Addr) (fs:List LCmd),a=.slice q m k∧b=.int .i64 (i:Int)∧i≤n∧m≤i∧Hid (OutK lmCells 36 18 w0 wl q m k fs∧FmOk fs∧∀ x∈fs,x∈ms)) (fun _ b _=>n - (intOf b).toNat)
 case atStart=>exact ⟨0,0,0,_,[],rfl,rfl,Nat.zero_le _,Nat.le_refl _,HI0⟩
 case round =>
  clear HI0;obtain ⟨i,nm,k,q,fs,rfl,rfl,hi,hmi,HI⟩:=hrel
  by_cases hlt:i < n
  ·obtain ⟨m,hm⟩:∃ m,ms[i]?=some m:=⟨_,List.getElem?_eq_getElem (by rw [Hn.out];exact hlt)⟩;have hmm:=List.mem_of_getElem? hm;have hOwr:Only [] w0 wr:=HI.out.1.2.2;have hrd:=Hx.out.only0 hOwr;have hne:ms.flatMap lmCells≠[]:=fun e'=>(by have:=flat_get lmCells 18 lmCells_len ms _ m 0 hm (by omega);rw [e'] at this;cases this);obtain ⟨bq,off,rfl,-⟩:=hrd.lt hne;have hld:=load_cm hrd hm;have Hld:=Lib.hid hld;have HmA:=Lib.hid ((HM.out.ca m hmm).only0 hOwr);have HmS:=Lib.hid (HM.out.sh m hmm);have Hmm:=Lib.hid hmm;obtain ⟨np,hnp⟩:∃ np,m.x.parts.length=np:=⟨_,rfl⟩
   have Hnp:=Lib.hid hnp;clear hne hrd hld hm hmm hOwr hnp;unfold lmV at Hld;rw [Hnp.out] at Hld
   go_upto_region 5 with (first | ((with_reducible show wpList _ _ _ _ _ _);refine wpl_load (ty:=36) (x:=.tmp 12) rfl rfl rfl Hld.out ?_))
   obtain ⟨wx,hwx⟩:∃ wx,wx=wr.alloc (.cells #[.int .i64 m.x.kind,.int .i64 m.x.id.node,.int .i64 m.x.id.boot,.int .i64 m.x.id.seq,.string (str m.x.bucket),.string (str m.x.key),.int .i64 m.x.upload.node,.int .i64 m.x.upload.boot,.int .i64 m.x.upload.seq,.int .i64 m.x.piece.blob.node,.int .i64 m.x.piece.blob.boot,.int .i64 m.x.piece.blob.seq,.int .i64 m.x.piece.size,.string (str m.x.piece.etag),.int .i64 m.x.part,.slice m.p np m.c,.int .i64 m.x.time,.int .i64 m.x.days] 36):=⟨_,rfl⟩;have ox:Only [] wr wx:=(by rw [hwx];exact Only.alloc _ _);have rx:Row wx wr.heap.size 36 [.int .i64 m.x.kind,.int .i64 m.x.id.node,.int .i64 m.x.id.boot,.int .i64 m.x.id.seq,.string (str m.x.bucket),.string (str m.x.key),.int .i64 m.x.upload.node,.int .i64 m.x.upload.boot,.int .i64 m.x.upload.seq,.int .i64 m.x.piece.blob.node,.int .i64 m.x.piece.blob.boot,.int .i64 m.x.piece.blob.seq,.int .i64 m.x.piece.size,.string (str m.x.piece.etag),.int .i64 m.x.part,.slice m.p np m.c,.int .i64 m.x.time,.int .i64 m.x.days]:=by rw [hwx];exact Row.newOf _ _ _ _ rfl
   rw [← hwx];obtain ⟨B,hB⟩:∃ B,wr.heap.size=B:=⟨_,rfl⟩;rw [hB] at rx ⊢;have hinf:=inForm10_any m wx (HmA.out.only0 ox) HmS.out;have h6:=rx.loadSA (P:=Tryz.prog) Tryz.underlying36 cmInfo;unfold lmV at hinf;rw [Hnp.out] at hinf;have H6:=Lib.hid h6;have HRx:=Lib.hid rx;have HOx:=Lib.hid ox;clear hwx h6 rx ox hB Hld
   go_wp2_with (first | ((with_reducible show wpList _ _ _ _ _ _);refine wpl_load (ty:=36) (x:=.tmp 6) rfl rfl rfl H6.out ?_))
   (with_reducible refine hinf.mono ?_);clear hinf H6;rintro e w3 ⟨v,rfl,hv,o3⟩;have HO3:=Lib.hid (HOx.out.trans0 o3);have HR3:=Lib.hid (HRx.out.only0 o3);have Hv:=Lib.hid hv;clear o3 hv HRx HOx
   cases v with
   | false =>
    have HI2:Hid (OutK lmCells 36 18 w0 w3 q nm k fs∧FmOk fs∧∀ x∈fs,x∈ms):=Lib.hid ⟨HI.out.1.only0 HO3.out,HI.out.2⟩;clear HI HR3 HO3 Hv;go_wp2_with fail;refine ⟨⟨i+1,nm,k,q,fs,rfl,by go_num,by omega,by omega,HI2⟩,?_⟩;show n - ((i:Int)+1).toNat < n - ((i:Int)).toNat;omega
   | true =>
    have h6:=HR3.out.loadSA (P:=Tryz.prog) Tryz.underlying36 cmInfo;have H6:=Lib.hid h6;obtain ⟨q',k',w5,Hap,hO,-⟩:=OutK.pushB (P:=Tryz.prog) (t:=22) Tryz.underlying22 Tryz.infoCm rfl (by omega) lmCells_len lmCells_one m (HI.out.1.only0 HO3.out) (by have:=Nat.mul_le_mul_right 184 (show nm+1≤n by omega);omega) (by omega);unfold lmCells at Hap;rw [Hnp.out] at Hap
    have HI2:Hid (OutK lmCells 36 18 w0 w5 q' (nm+1) k' (fs ++ [m])∧FmOk (fs ++ [m])∧∀ x∈fs ++ [m],x∈ms):=Lib.hid ⟨hO,⟨fun x hx=>by
     rcases List.mem_append.1 hx with h | h
     ·exact HI.out.2.1.ok x h
     ·rw [List.mem_singleton.1 h,Hnp.out];exact Hv.out rfl⟩,fun x hx=>by
     rcases List.mem_append.1 hx with h | h
     ·exact HI.out.2.2 x h
     ·rw [List.mem_singleton.1 h];exact Hmm.out⟩
    clear h6 hO HI HR3 HO3 Hv
    go_wp2_with (first | ((with_reducible show wpList _ _ _ _ _ _);refine wpl_load (ty:=36) (x:=.tmp 6) rfl rfl rfl H6.out ?_) | (at_builtin;refine wpl_append (s:=.tmp 16) (x:=.tmp 18) rfl rfl rfl rfl Hap.out ?_))
    refine ⟨⟨i+1,nm+1,k',q',fs ++ [m],rfl,by go_num,by omega,by omega,HI2⟩,?_⟩;show n - ((i:Int)+1).toNat < n - ((i:Int)).toNat;omega
  ·obtain rfl:i=n:=(by omega);have hq0:=HI.out.1.rd.2.1;have HE:Hid (fs.length=nm∧Rd wr q (fs.flatMap lmCells)∧(q=none→nm=0)∧FmOk fs∧(∀ x∈fs,x∈ms)∧Only [] w0 wr):=Lib.hid ⟨HI.out.1.2.1,HI.out.1.rd.1,fun h=>(hq0 h).1,HI.out.2.1,HI.out.2.2,HI.out.1.2.2⟩
   have hdec:decide ((nm:Int)≤600)=decide (nm≤600):=by
    by_cases h:nm≤600
    ·rw [decide_eq_true h,decide_eq_true (show (nm:Int)≤600 by omega)]
    ·rw [decide_eq_false h,decide_eq_false (show ¬ (nm:Int)≤600 by omega)]
   have Hdec:=Lib.hid hdec;clear HI hq0 hdec;go_wp2_with fail
   go_ret2
   exact ⟨q,nm,k,fs,by rw [← Hdec.out];rfl,HE.out⟩
end
section
open Go.RowKit
def delC (m:LCmd):LCmd:=⟨⟨4,m.x.id,m.x.bucket,m.x.key,⟨0,0,0⟩,⟨⟨0,0,0⟩,0,[]⟩,0,[],0,0⟩,none,0⟩
theorem delC_v (m:LCmd):lmV (delC m)=.agg #[.int .i64 4,.int .i64 m.x.id.node,.int .i64 m.x.id.boot,.int .i64 m.x.id.seq,.string (str m.x.bucket),.string (str m.x.key),.int .i64 0,.int .i64 0,.int .i64 0,.int .i64 0,.int .i64 0,.int .i64 0,.int .i64 0,.string ⟨#[]⟩,.int .i64 0,.slice none 0 0,.int .i64 0,.int .i64 0]:=rfl
theorem delC_ok {m:LCmd} (h:CmdOk m.x):CmdOk (delC m).x :=
 ⟨by simp [delC],by simp [delC],h.nlo,h.nhi,h.buck,h.key,fun e=>by simp [delC] at e,fun e=>by simp [delC] at e,fun e=>by simp [delC] at e,fun e=>by simp [delC] at e,by simp [delC],by simp [delC],by simp [delC],by simp [delC]⟩
theorem delC_at (m:LCmd) (w:World):CmAt w (delC m):=⟨.inl rfl,fun _=>⟨rfl,rfl⟩,Nat.le_refl _⟩
set_option maxHeartbeats 16000000 in
theorem lawBack_any (p:Option Addr) (n c:Nat) (ms:List LCmd) (m:LCmd) (w0:World) (hn:ms.length=n) (hnb:n * 184≤140737488355328) (hx:Rd w0 p (ms.flatMap lmCells)) (hms:CmsAt w0 ms) (hm:CmAt w0 m) (hs:Short m) :
  Calls Tryz.prog 5 #[.slice p n c,lmV m] w0 fun e w'=>e=.returned (.bool true)∧Only [] w0 w':=by
 obtain ⟨np,hnp⟩:∃ np,m.x.parts.length=np:=⟨_,rfl⟩;obtain ⟨w1,hw1⟩:∃ w1,w1=w0.alloc (.cells #[.int .i64 m.x.kind,.int .i64 m.x.id.node,.int .i64 m.x.id.boot,.int .i64 m.x.id.seq,.string (str m.x.bucket),.string (str m.x.key),.int .i64 m.x.upload.node,.int .i64 m.x.upload.boot,.int .i64 m.x.upload.seq,.int .i64 m.x.piece.blob.node,.int .i64 m.x.piece.blob.boot,.int .i64 m.x.piece.blob.seq,.int .i64 m.x.piece.size,.string (str m.x.piece.etag),.int .i64 m.x.part,.slice m.p np m.c,.int .i64 m.x.time,.int .i64 m.x.days] 36):=⟨_,rfl⟩;have o1:Only [] w0 w1:=by rw [hw1];exact Only.alloc _ _
 have r1:Row w1 w0.heap.size 36 [.int .i64 m.x.kind,.int .i64 m.x.id.node,.int .i64 m.x.id.boot,.int .i64 m.x.id.seq,.string (str m.x.bucket),.string (str m.x.key),.int .i64 m.x.upload.node,.int .i64 m.x.upload.boot,.int .i64 m.x.upload.seq,.int .i64 m.x.piece.blob.node,.int .i64 m.x.piece.blob.boot,.int .i64 m.x.piece.blob.seq,.int .i64 m.x.piece.size,.string (str m.x.piece.etag),.int .i64 m.x.part,.slice m.p np m.c,.int .i64 m.x.time,.int .i64 m.x.days]:=(by rw [hw1];exact Row.newOf _ _ _ _ rfl);have Hr1:=Lib.hid r1;have HO1:=Lib.hid o1;have Hw:=Lib.hid hw1;have Hn:=Lib.hid hn
 have Hx:=Lib.hid hx;have HM:=Lib.hid hms;have Hm:=Lib.hid hm;have Hs:=Lib.hid hs;have Hnp:=Lib.hid hnp;rw [show lmV m=.agg #[.int .i64 m.x.kind,.int .i64 m.x.id.node,.int .i64 m.x.id.boot,.int .i64 m.x.id.seq,.string (str m.x.bucket),.string (str m.x.key),.int .i64 m.x.upload.node,.int .i64 m.x.upload.boot,.int .i64 m.x.upload.seq,.int .i64 m.x.piece.blob.node,.int .i64 m.x.piece.blob.boot,.int .i64 m.x.piece.blob.seq,.int .i64 m.x.piece.size,.string (str m.x.piece.etag),.int .i64 m.x.part,.slice m.p np m.c,.int .i64 m.x.time,.int .i64 m.x.days] by unfold lmV;rw [hnp]]
 clear hw1 o1 r1 hn hx hms hm hs hnp
 go_enter Tryz.func5,Tryz.ntmps5
 go_upto_region 1 with (fail)
 rw [← Hw.out];clear Hw;go_wp2_with fail;refine (alive11_any w1).mono ?_;rintro e wa ⟨rfl,oa⟩;have HOa:=Lib.hid (HO1.out.trans0 oa);have H1a:=Lib.hid oa;clear oa;go_wp2_with fail;refine (forms11_any p n c ms wa Hn.out hnb (Hx.out.only0 HOa.out) ⟨fun x h=>(HM.out.ca x h).only0 HOa.out,HM.out.sh⟩).mono ?_;rintro e wb ⟨q,mm,k,fs,rfl,hfl,hrd,hq0,hfm,hmem,ob⟩;have HOb:=Lib.hid (HOa.out.trans0 ob);have H1b:=Lib.hid (H1a.out.trans0 ob);have HFs:Hid (fs.length=mm∧Rd wb q (fs.flatMap lmCells)∧(q=none→mm=0)∧FmOk fs∧∀ x∈fs,x∈ms):=Lib.hid ⟨hfl,hrd,hq0,hfm,hmem⟩
 clear HOa H1a ob hfl hrd hq0 hfm hmem
 by_cases hle:mm≤600
 rotate_left
 ·rw [decide_eq_false hle];clear hle;go_wp2_with fail
  go_ret
  exact ⟨rfl,HOb.out⟩
 ·rw [decide_eq_true hle];have Hld:=Lib.hid ((Hr1.out.only0 H1b.out).loadSA (P:=Tryz.prog) Tryz.underlying36 cmInfo);have hinf:=inForm10_any m wb (Hm.out.only0 HOb.out) Hs.out;unfold lmV at hinf;rw [Hnp.out] at hinf
  go_wp2_with (first | ((with_reducible show wpList _ _ _ _ _ _);refine wpl_load (ty:=36) (x:=.tmp 3) rfl rfl rfl Hld.out ?_) | ((with_reducible show wpList _ _ _ _ _ _);refine wpl_load_on (ty:=36) (x:=.tmp 3) rfl rfl rfl Hld.out ?_))
  (with_reducible refine hinf.mono ?_);clear hinf;rintro e wc ⟨v,rfl,hv,oc⟩;have HOc:=Lib.hid (HOb.out.trans0 oc);have H1c:=Lib.hid (H1b.out.trans0 oc);have HFc:Hid (fs.length=mm∧Rd wc q (fs.flatMap lmCells)∧(q=none→mm=0)∧FmOk fs∧∀ x∈fs,x∈ms):=Lib.hid ⟨HFs.out.1,HFs.out.2.1.only0 oc,HFs.out.2.2⟩;have Hv:=Lib.hid hv;clear Hld HFs HOb H1b oc hv
  cases v with
  | false =>
   clear HFc Hv;go_wp2_with fail
   go_ret
   exact ⟨rfl,HOc.out⟩
  | true =>
   have c0:=(Hr1.out.only0 H1c.out).cell (i:=0) rfl
   by_cases hk:m.x.kind=3
   rotate_left
   ·have hq:(m.x.kind == (3:Int))=false:=beq_eq_false_iff_ne.2 hk;clear hk HFc Hv;go_wp2_with fail
    go_ret
    exact ⟨rfl,HOc.out⟩
   ·have Hok:=Lib.hid (show CmdOk m.x∧m.x.parts.length≤16∧m.x.kind=3 from ⟨(Hv.out rfl).1,by rw [Hnp.out];exact (Hv.out rfl).2,hk⟩);rw [hk] at c0;clear hk Hv;obtain ⟨wd,hwd⟩:∃ wd,wd=wc.alloc (.cells #[.slice none 0 0,.slice none 0 0] 29):=⟨_,rfl⟩;have od:Only [] wc wd:=(by rw [hwd];exact Only.alloc _ _);obtain ⟨X,hX⟩:∃ X,wc.heap.size=X:=⟨_,rfl⟩;have rd:Row wd X 29 [.slice none 0 0,.slice none 0 0]:=(by rw [← hX,hwd];exact Row.newOf _ _ _ _ rfl);have HI0:Hid (∃ L:LCat,Row wd X 29 (lcCells L)∧CatOwn wd (X+1) L∧CatOk L.cat):=Lib.hid ⟨⟨[],none,0,[],none,0⟩,rd,⟨OwnK.nil _ _ _ _,OwnK.nil _ _ _ _,(fun b h=>by cases h),by simp [LCat.fp,blk]⟩,cat0_ok⟩
    have HOd:=Lib.hid od;have Hwd:=Lib.hid hwd;have HX:=Lib.hid hX;clear od hwd hX rd
    go_upto_region 7 with (fail)
    rw [← Hwd.out,HX.out];clear Hwd c0;go_wp2_with fail
    go_loopw [37] (fun a wl=>∃ i:Nat,a=.int .i64 (i:Int)∧i≤mm∧Hid (∃ L:LCat,Row wl X 29 (lcCells L)∧CatOwn wl (X+1) L∧CatOk L.cat)∧Hid (Only [X] wd wl)) (fun a _=>mm - (intOf a).toNat)
    case atStart=>exact ⟨0,rfl,Nat.zero_le _,HI0,Lib.hid (Only.refl _ _)⟩
    case round =>
     clear HI0;obtain ⟨i,rfl,hi,HI,HOl⟩:=hrel
     by_cases hlt:i < mm
     ·obtain ⟨m2,hm2⟩:∃ m,fs[i]?=some m:=⟨_,List.getElem?_eq_getElem (by rw [HFc.out.1];exact hlt)⟩;have hmm:=List.mem_of_getElem? hm2;have hXc:wc.heap.size≤X:=(by rw [HX.out];exact Nat.le_refl _);have hOc:Only [] wc wr:=HOd.out.transN HOl.out (by simpa using hXc);have hrd:=HFc.out.2.1.only0 hOc;have hne:fs.flatMap lmCells≠[]:=fun e'=>(by have:=flat_get lmCells 18 lmCells_len fs _ m2 0 hm2 (by omega);rw [e'] at this;cases this);obtain ⟨bq,off,rfl,-⟩:=hrd.lt hne;have hld:=load_cm hrd hm2;obtain ⟨np2,hnp2⟩:∃ k,m2.x.parts.length=k:=⟨_,rfl⟩;have Hld:=Lib.hid hld
      have Hm2:=Lib.hid (show CmdOk m2.x∧CmAt wr m2∧m2.x.parts.length=np2 from ⟨(HFc.out.2.2.2.1.ok m2 hmm).1,(HM.out.ca m2 (HFc.out.2.2.2.2 m2 hmm)).only0 (HOc.out.trans0 hOc),hnp2⟩);obtain ⟨L,hrow,hown,hok⟩:=HI.out;obtain ⟨nb,hnb⟩:∃ k,L.bs.length=k:=⟨_,rfl⟩;obtain ⟨nf,hnf⟩:∃ k,L.fs.length=k:=⟨_,rfl⟩;have HL:=Lib.hid (show Row wr X 29 [.slice L.pb nb L.cb,.slice L.pf nf L.cf]∧CatOwn wr (X+1) L∧CatOk L.cat∧L.bs.length=nb∧L.fs.length=nf from ⟨by rw [← hnb,← hnf];exact hrow,hown,hok,hnb,hnf⟩);clear hm2 hmm hXc hOc hrd hne hld hnp2 hrow hown hok hnb hnf HI
      unfold lmV at Hld;rw [Hm2.out.2.2] at Hld
      go_upto_region 10 with (first | ((with_reducible show wpList _ _ _ _ _ _);refine wpl_load (ty:=36) (x:=.tmp 39) rfl rfl rfl Hld.out ?_))
      obtain ⟨wx,hwx⟩:∃ wx,wx=wr.alloc (.cells #[.int .i64 m2.x.kind,.int .i64 m2.x.id.node,.int .i64 m2.x.id.boot,.int .i64 m2.x.id.seq,.string (str m2.x.bucket),.string (str m2.x.key),.int .i64 m2.x.upload.node,.int .i64 m2.x.upload.boot,.int .i64 m2.x.upload.seq,.int .i64 m2.x.piece.blob.node,.int .i64 m2.x.piece.blob.boot,.int .i64 m2.x.piece.blob.seq,.int .i64 m2.x.piece.size,.string (str m2.x.piece.etag),.int .i64 m2.x.part,.slice m2.p np2 m2.c,.int .i64 m2.x.time,.int .i64 m2.x.days] 36):=⟨_,rfl⟩;have ox:Only [] wr wx:=(by rw [hwx];exact Only.alloc _ _);have rx:Row wx wr.heap.size 36 [.int .i64 m2.x.kind,.int .i64 m2.x.id.node,.int .i64 m2.x.id.boot,.int .i64 m2.x.id.seq,.string (str m2.x.bucket),.string (str m2.x.key),.int .i64 m2.x.upload.node,.int .i64 m2.x.upload.boot,.int .i64 m2.x.upload.seq,.int .i64 m2.x.piece.blob.node,.int .i64 m2.x.piece.blob.boot,.int .i64 m2.x.piece.blob.seq,.int .i64 m2.x.piece.size,.string (str m2.x.piece.etag),.int .i64 m2.x.part,.slice m2.p np2 m2.c,.int .i64 m2.x.time,.int .i64 m2.x.days]:=by rw [hwx];exact Row.newOf _ _ _ _ rfl
      rw [← hwx];have hXr:X < wr.heap.size:=HL.out.1.lt;have h6:=rx.loadSA (P:=Tryz.prog) Tryz.underlying36 cmInfo;have H6:=Lib.hid h6;have hap:=catApply_any L m2 wx ((HL.out.2.1.only0 ox).at) HL.out.2.2.1 Hm2.out.1 (Hm2.out.2.1.only0 ox);rw [show lcV L=.agg #[.slice L.pb nb L.cb,.slice L.pf nf L.cf] by unfold lcV;rw [HL.out.2.2.2.1,HL.out.2.2.2.2],show lmV m2=.agg #[.int .i64 m2.x.kind,.int .i64 m2.x.id.node,.int .i64 m2.x.id.boot,.int .i64 m2.x.id.seq,.string (str m2.x.bucket),.string (str m2.x.key),.int .i64 m2.x.upload.node,.int .i64 m2.x.upload.boot,.int .i64 m2.x.upload.seq,.int .i64 m2.x.piece.blob.node,.int .i64 m2.x.piece.blob.boot,.int .i64 m2.x.piece.blob.seq,.int .i64 m2.x.piece.size,.string (str m2.x.piece.etag),.int .i64 m2.x.part,.slice m2.p np2 m2.c,.int .i64 m2.x.time,.int .i64 m2.x.days] by unfold lmV;rw [Hm2.out.2.2]] at hap
      have HAp:=Lib.hid hap;have HOx:=Lib.hid ox;have hX6:=HL.out.1.only0 ox;have c0:=hX6.cell (i:=0) rfl;have c1:=hX6.cell (i:=1) rfl;have HX6:=Lib.hid hX6;obtain ⟨Bx,hBx⟩:∃ B,wr.heap.size=B:=⟨_,rfl⟩;rw [hBx] at H6 hXr ⊢;have HBx:=Lib.hid hBx;clear hwx ox rx h6 hap hX6 hBx Hld
      go_wp2_with (first | ((with_reducible show wpList _ _ _ _ _ _);refine wpl_load (ty:=36) (x:=.tmp 8) rfl rfl rfl H6.out ?_))
      refine HAp.out.mono ?_;rintro e w5 ⟨L2,oc2,rfl,hown2,happ,o5⟩;clear HAp c0 c1 H6;obtain ⟨lb,hlb⟩:∃ k,L2.bs.length=k:=⟨_,rfl⟩;obtain ⟨lf,hlf⟩:∃ k,L2.fs.length=k:=⟨_,rfl⟩;rw [show lcV L2=.agg #[.slice L2.pb lb L2.cb,.slice L2.pf lf L2.cf] by unfold lcV;rw [hlb,hlf]];have h5:=HX6.out.only0 o5;have a0:=h5.cell (i:=0) rfl;have a1:=h5.cell (i:=1) rfl;have f0:=h5.free 0;have f1:=h5.free 1;obtain ⟨wz,hwz⟩:∃ wz,wz=(w5.setCell ⟨X,0,none⟩ (.slice L2.pb lb L2.cb)).setCell ⟨X,1,none⟩ (.slice L2.pf lf L2.cf):=⟨_,rfl⟩;have hrz:=h5.set2 (.slice L2.pb lb L2.cb) (.slice L2.pf lf L2.cf)
      have hst:=only_set2 w5 X (.slice L2.pb lb L2.cb) (.slice L2.pf lf L2.cf);rw [← hwz] at hrz hst;have hXx:X < wx.heap.size:=HX6.out.lt
      have HI2:Hid (∃ L:LCat,Row wz X 29 (lcCells L)∧CatOwn wz (X+1) L∧CatOk L.cat):=Lib.hid ⟨L2,by unfold lcCells;rw [hlb,hlf];exact hrz,(hown2.only hst (fun z hz hm=>by have:=(hown2.lo z hz).1;rw [List.mem_singleton.1 hm] at this;omega)).weaken (by omega),by
       have h9:=apply_ok smL smL_len HL.out.2.2.1 Hm2.out.1;rw [← happ] at h9
       exact h9⟩
      have HO2:Hid (Only [X] wd wz):=Lib.hid ((HOl.out.trans0 (HOx.out.trans0 o5)).trans hst (fun _ h _=>h));have Hwz:=Lib.hid hwz;clear hown2 happ o5 hlb hlf h5 hwz hrz hst hXx HL Hm2 HX6 HOx HOl;go_wp2_with fail;rw [← Hwz.out];refine ⟨⟨i+1,by go_num,by omega,HI2,HO2⟩,?_⟩
      simp [intOf];omega
     ·obtain rfl:i=mm:=(by omega);clear HFc;obtain ⟨L,hrow,hown,hok⟩:=HI.out;obtain ⟨nb,hnb⟩:∃ k,L.bs.length=k:=⟨_,rfl⟩;obtain ⟨nf,hnf⟩:∃ k,L.fs.length=k:=⟨_,rfl⟩;have hXc:wc.heap.size≤X:=(by rw [HX.out];exact Nat.le_refl _);have hOc:Only [] wc wr:=HOd.out.transN HOl.out (by simpa using hXc);have HOe:=Lib.hid (HOc.out.trans0 hOc);have h36:=Hr1.out.only0 (H1c.out.trans0 hOc);have hCX:Row wr X 29 [.slice L.pb nb L.cb,.slice L.pf nf L.cf]:=(by rw [← hnb,← hnf];exact hrow);have b2:=h36.cell (i:=4) rfl;have b3:=h36.cell (i:=5) rfl;have a0:=hCX.cell (i:=0) rfl
      have a1:=hCX.cell (i:=1) rfl;have hob:=catObject_any L m.x.bucket m.x.key wr hown.at hok;rw [show lcV L=.agg #[.slice L.pb nb L.cb,.slice L.pf nf L.cf] by unfold lcV;rw [hnb,hnf]] at hob;have Hob:=Lib.hid hob;clear HI hrow hob;go_wp2_with fail;refine Hob.out.mono ?_;rintro e w2 ⟨x,rfl,hxo,hxown,o2⟩;obtain ⟨kp,hkp⟩:∃ k,x.o.pcs.length=k:=⟨_,rfl⟩;rw [show loV x=.agg #[.string (str x.o.key),.int .i64 x.o.size,.string (str x.o.etag),.int .i64 x.o.time,.slice x.q kp x.c] by unfold loV;rw [hkp]];clear Hob hxo hxown hkp b2 b3 a0 a1
      go_upto_region 13 with (fail)
      obtain ⟨w3,hw3⟩:∃ w3,w3=w2.alloc (.cells #[.string (str x.o.key),.int .i64 x.o.size,.string (str x.o.etag),.int .i64 x.o.time,.slice x.q kp x.c] 48):=⟨_,rfl⟩;have o3:Only [] w2 w3:=(by rw [hw3];exact Only.alloc _ _);rw [← hw3];have H36:=Lib.hid (h36.only0 (o2.trans0 o3));have HC3:=Lib.hid (hCX.only0 (o2.trans0 o3));have HO3:=Lib.hid (o2.trans0 o3);have hap:=catApply_any L m w3 ((hown.only0 HO3.out).at) hok (Hok.out.1) ((Hm.out.only0 (HOe.out.trans0 HO3.out)));rw [show lcV L=.agg #[.slice L.pb nb L.cb,.slice L.pf nf L.cf] by unfold lcV;rw [hnb,hnf],show lmV m=.agg #[.int .i64 m.x.kind,.int .i64 m.x.id.node,.int .i64 m.x.id.boot,.int .i64 m.x.id.seq,.string (str m.x.bucket),.string (str m.x.key),.int .i64 m.x.upload.node,.int .i64 m.x.upload.boot,.int .i64 m.x.upload.seq,.int .i64 m.x.piece.blob.node,.int .i64 m.x.piece.blob.boot,.int .i64 m.x.piece.blob.seq,.int .i64 m.x.piece.size,.string (str m.x.piece.etag),.int .i64 m.x.part,.slice m.p np m.c,.int .i64 m.x.time,.int .i64 m.x.days] by unfold lmV;rw [Hnp.out]] at hap
      have HAp:=Lib.hid hap;have Hld3:=Lib.hid (H36.out.loadSA (P:=Tryz.prog) Tryz.underlying36 cmInfo);have a0:=HC3.out.cell (i:=0) rfl;have a1:=HC3.out.cell (i:=1) rfl;clear hw3 o2 o3 hap
      go_wp2_with (first | ((with_reducible show wpList _ _ _ _ _ _);refine wpl_load (ty:=36) (x:=.tmp 3) rfl rfl rfl Hld3.out ?_))
      refine HAp.out.mono ?_;rintro e w4 ⟨L4,oc4,rfl,hown4,happ4,o4⟩;obtain ⟨nb4,hnb4⟩:∃ k,L4.bs.length=k:=⟨_,rfl⟩;obtain ⟨nf4,hnf4⟩:∃ k,L4.fs.length=k:=⟨_,rfl⟩;rw [show lcV L4=.agg #[.slice L4.pb nb4 L4.cb,.slice L4.pf nf4 L4.cf] by unfold lcV;rw [hnb4,hnf4],show oucV oc4=.agg #[.int .i64 oc4.code,.string (str oc4.etag)] from rfl];have H4:=Lib.hid hown4;have Ha4:=Lib.hid happ4;have HO4:=Lib.hid o4;have Hn4:=Lib.hid (And.intro hnb4 hnf4);clear HAp Hld3 a0 a1 hown4 happ4 o4 hnb4 hnf4
      go_upto_region 14 with (fail)
      obtain ⟨w5,hw5⟩:∃ w5,w5=w4.alloc (.cells #[.slice L4.pb nb4 L4.cb,.slice L4.pf nf4 L4.cf] 29):=⟨_,rfl⟩;have o5:Only [] w4 w5:=(by rw [hw5];exact Only.alloc _ _);have s5:w5.heap.size=w4.heap.size+1:=(by rw [hw5];simp);have r5:Row w5 w4.heap.size 29 [.slice L4.pb nb4 L4.cb,.slice L4.pf nf4 L4.cf]:=(by rw [hw5];exact Row.newOf _ _ _ _ rfl);obtain ⟨w6,hw6⟩:∃ w6,w6=w5.alloc (.cells #[.int .i64 oc4.code,.string (str oc4.etag)] 38):=⟨_,rfl⟩;have o6:Only [] w5 w6:=(by rw [hw6];exact Only.alloc _ _);have r6:Row w6 (w4.heap.size+1) 38 [.int .i64 oc4.code,.string (str oc4.etag)]:=by rw [← s5,hw6];exact Row.newOf _ _ _ _ rfl
      rw [← hw5,← hw6];have HO46:=Lib.hid (o5.trans0 o6);have HR5:=Lib.hid (r5.only0 o6);have HR6:=Lib.hid r6
      have hap:=catApply_any L4 (delC m) w6 ((H4.out.only0 HO46.out).at) (by
       have h9:=apply_ok smL smL_len hok Hok.out.1;rw [← Ha4.out] at h9
       exact h9) (delC_ok Hok.out.1) (delC_at m w6)
      rw [show lcV L4=.agg #[.slice L4.pb nb4 L4.cb,.slice L4.pf nf4 L4.cf] by unfold lcV;rw [Hn4.out.1,Hn4.out.2],delC_v] at hap;have HAp:=Lib.hid hap;have h36:=H36.out.only0 (HO4.out.trans0 HO46.out);have b1:=h36.cell (i:=1) rfl;have b2:=h36.cell (i:=2) rfl;have b3:=h36.cell (i:=3) rfl;have b4:=h36.cell (i:=4) rfl;have b5:=h36.cell (i:=5) rfl;have a0:=HR5.out.cell (i:=0) rfl;have a1:=HR5.out.cell (i:=1) rfl;clear hw5 o5 s5 r5 hw6 o6 r6 hap h36;go_wp2_with fail;(with_reducible refine HAp.out.mono ?_);rintro e w7 ⟨L7,oc7,rfl,hown7,happ7,o7⟩;obtain ⟨nb7,hnb7⟩:∃ k,L7.bs.length=k:=⟨_,rfl⟩
      obtain ⟨nf7,hnf7⟩:∃ k,L7.fs.length=k:=⟨_,rfl⟩;rw [show lcV L7=.agg #[.slice L7.pb nb7 L7.cb,.slice L7.pf nf7 L7.cf] by unfold lcV;rw [hnb7,hnf7],show oucV oc7=.agg #[.int .i64 oc7.code,.string (str oc7.etag)] from rfl];clear HAp a0 a1 b1 b2 b3 b4 b5
      go_upto_region 15 with (fail)
      obtain ⟨w8,hw8⟩:∃ w8,w8=w7.alloc (.cells #[.slice L7.pb nb7 L7.cb,.slice L7.pf nf7 L7.cf] 29):=⟨_,rfl⟩;have o8:Only [] w7 w8:=(by rw [hw8];exact Only.alloc _ _);have s8:w8.heap.size=w7.heap.size+1:=(by rw [hw8];simp);have r8:Row w8 w7.heap.size 29 [.slice L7.pb nb7 L7.cb,.slice L7.pf nf7 L7.cf]:=(by rw [hw8];exact Row.newOf _ _ _ _ rfl);obtain ⟨w9,hw9⟩:∃ w9,w9=w8.alloc (.cells #[.int .i64 oc7.code,.string (str oc7.etag)] 38):=⟨_,rfl⟩;have o9:Only [] w8 w9:=(by rw [hw9];exact Only.alloc _ _);have r9:Row w9 (w7.heap.size+1) 38 [.int .i64 oc7.code,.string (str oc7.etag)]:=by rw [← s8,hw9];exact Row.newOf _ _ _ _ rfl
      rw [← hw8,← hw9];have o69:=o7.trans0 (o8.trans0 o9);have o49:=HO46.out.trans0 o69;have oR9:=HO3.out.trans0 (HO4.out.trans0 o49);have c0:=(HC3.out.only0 (HO4.out.trans0 o49)).cell (i:=0) rfl;have c1:=(HC3.out.only0 (HO4.out.trans0 o49)).cell (i:=1) rfl;have d0:=(HR5.out.only0 o69).cell (i:=0) rfl;have d1:=(HR5.out.only0 o69).cell (i:=1) rfl;have e0:=(r8.only0 o9).cell (i:=0) rfl;have e1:=(r8.only0 o9).cell (i:=1) rfl;have g0:=(HR6.out.only0 o69).cell (i:=0) rfl;have g1:=(HR6.out.only0 o69).cell (i:=1) rfl;have p0:=r9.cell (i:=0) rfl;have p1:=r9.cell (i:=1) rfl
      have m13:=(H36.out.only0 (HO4.out.trans0 o49)).cell (i:=13) rfl;have HA9:=Lib.hid (And.intro (hown.only0 oR9).at (And.intro (H4.out.only0 o49).at (hown7.only0 (o8.trans0 o9)).at));have HO9:=Lib.hid (HOe.out.trans0 oR9);have hap4:(apply smL L.cat m.x).2=oc4∧(apply smL L.cat m.x).1=L4.cat:=(by rw [← Ha4.out];exact ⟨rfl,rfl⟩);have hap7:(apply smL L4.cat (delC m).x).2=oc7∧(apply smL L4.cat (delC m).x).1=L7.cat:=(by rw [← happ7];exact ⟨rfl,rfl⟩);have hsm:=small_of hok;have HV:Hid (lcV L=.agg #[.slice L.pb nb L.cb,.slice L.pf nf L.cf]∧lcV L4=.agg #[.slice L4.pb nb4 L4.cb,.slice L4.pf nf4 L4.cf]∧lcV L7=.agg #[.slice L7.pb nb7 L7.cb,.slice L7.pf nf7 L7.cf]∧Small L):=Lib.hid ⟨by unfold lcV;rw [hnb,hnf],by unfold lcV;rw [Hn4.out.1,Hn4.out.2],by unfold lcV;rw [hnb7,hnf7],hsm⟩
      have Hq:Hid (oc4.code=1→oc7.code=1∧L7.cat=L.cat):=Lib.hid (fun h=>by
       have h9:=back_none smL (c:=L.cat) (x:=m.x) (y:=(delC m).x) Hok.out.2.2 rfl rfl (by rw [hap4.1];exact h);rw [hap4.2,hap7.1,hap7.2] at h9
       exact h9)
      have Hq2:Hid (findO L.cat m.x.bucket m.x.key=none→oc4.code=0→oc7.code=0∧oc4.etag=m.x.piece.etag∧L7.cat=L.cat∧L4.cat≠L.cat):=Lib.hid (fun h0 h=>by
       have h9:=back_put smL hok (x:=m.x) (y:=(delC m).x) Hok.out.2.2 rfl rfl rfl h0 (by rw [hap4.1];exact h);rw [hap4.2,hap4.1,hap7.1,hap7.2] at h9
       exact h9)
      clear hown hok hnb hnf hXc hOc h36 hCX HX HC3 H36 HO3 HO4 H4 Ha4 HO46 HR5 HR6 Hn4 hw8 hw9 o8 o9 s8 r8 r9 o7 o69 o49 oR9 hown7 happ7 hnb7 hnf7 hap4 hap7 hsm
      by_cases h1:oc4.code=1
      ·obtain ⟨h7,hcat⟩:=Hq.out h1;have hS:=sameCt_any L L7 w9 HA9.out.1 HA9.out.2.2 HV.out.2.2.2;rw [decide_eq_true hcat.symm,HV.out.1,HV.out.2.2.1] at hS;have HS:=Lib.hid hS;rw [h1] at g0;rw [h7] at p0;clear h1 h7 hcat hS Hq Hq2;go_wp2_with fail;refine HS.out.mono ?_;rintro e w10 ⟨rfl,o10⟩;have HO10:=Lib.hid (HO9.out.trans0 o10);clear HS o10;go_wp2_with fail
       go_ret
       exact ⟨rfl,HO10.out⟩
      ·have hb1:(oc4.code == (1:Int))=false:=beq_eq_false_iff_ne.2 h1;clear h1 Hq
       cases hf:(findO L.cat m.x.bucket m.x.key).isSome with
       | true =>
        clear hf Hq2;go_wp2_with fail
        go_ret
        exact ⟨rfl,HO9.out⟩
       | false =>
        have hnone:findO L.cat m.x.bucket m.x.key=none:=by
         cases hg:findO L.cat m.x.bucket m.x.key with
         | none=>rfl
         | some y=>rw [hg] at hf;cases hf
        clear hf
        by_cases h0:oc4.code=0
        ·obtain ⟨h7,het,hcat,hne⟩:=Hq2.out hnone h0;have hS:=sameCt_any L L7 w9 HA9.out.1 HA9.out.2.2 HV.out.2.2.2;rw [decide_eq_true hcat.symm,HV.out.1,HV.out.2.2.1] at hS;have HS:=Lib.hid hS
         have HS2:Hid (∀ w10,Only [] w9 w10→Calls Tryz.prog 18 #[.agg #[.slice L.pb nb L.cb,.slice L.pf nf L.cf],.agg #[.slice L4.pb nb4 L4.cb,.slice L4.pf nf4 L4.cf]] w10 fun e w'=>e=.returned (.bool false)∧Only [] w10 w'):=Lib.hid (fun w10 o10=>by
          have h9:=sameCt_any L L4 w10 (HA9.out.1.only0 o10) (HA9.out.2.1.only0 o10) HV.out.2.2.2;rw [decide_eq_false (fun e=>hne e.symm),HV.out.1,HV.out.2.1] at h9
          exact h9)
         rw [h0] at g0;rw [h7] at p0;rw [het] at g1;clear hb1 h0 h7 het hcat hne hS hnone Hq2 HV HA9;go_wp2_with fail;refine HS.out.mono ?_;rintro e w10 ⟨rfl,o10⟩;have hS2:=HS2.out w10 o10;have HS3:=Lib.hid hS2;have HO10:=Lib.hid (HO9.out.trans0 o10);replace c0:=o10.cell c0 (by simp);replace c1:=o10.cell c1 (by simp);replace d0:=o10.cell d0 (by simp);replace d1:=o10.cell d1 (by simp);clear HS HS2 hS2 o10 g0 g1 p0 p1 m13 e0 e1;go_wp2_with fail;refine HS3.out.mono ?_;rintro e w11 ⟨rfl,o11⟩;have HO11:=Lib.hid (HO10.out.trans0 o11);clear HS3 o11;go_wp2_with fail
         go_ret
         exact ⟨rfl,HO11.out⟩
        ·have hb0:(oc4.code != (0:Int))=true:=bne_iff_ne.2 h0;have hb1:(oc4.code == (0:Int))=false:=beq_eq_false_iff_ne.2 h0;clear h0 hnone Hq2;go_wp2_with fail
         go_ret
         exact ⟨rfl,HO9.out⟩
end
end Go.Proofs.YtfeglnpmpgipiaaGreatDoor
