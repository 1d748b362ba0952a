/- UplPk: Forms11W. -/
import Derived.Test.YtfeglnpmpgipiaaGreatDoorCatPk06
import Derived.Test.YtfeglnpmpgipiaaGreatDoorCatPk14
import Derived.Test.YtfeglnpmpgipiaaGreatDoorCatPk28
import Derived.Test.YtfeglnpmpgipiaaGreatDoorCatPk39
import Derived.Test.YtfeglnpmpgipiaaGreatDoorCatPk40
import Derived.Test.YtfeglnpmpgipiaaGreatDoorCatPk41
import Derived.Test.YtfeglnpmpgipiaaGreatDoorCatPk42
set_option linter.unusedVariables false
set_option maxRecDepth 100000
set_option linter.unusedSimpArgs false
namespace Go.Proofs.YtfeglnpmpgipiaaGreatDoor
section
open Go.RowKit
theorem Tryz.infoCm:(Tryz.prog.info? 36).map (fun i=>(i.zero,i.size,i.bytes))=some (some (.agg #[.int .i64 0,.int .i64 0,.int .i64 0,.int .i64 0,.string ⟨#[]⟩,.string ⟨#[]⟩,.int .i64 0,.int .i64 0,.int .i64 0,.int .i64 0,.int .i64 0,.int .i64 0,.int .i64 0,.string ⟨#[]⟩,.int .i64 0,.slice none 0 0,.int .i64 0,.int .i64 0]),18,184):=by kernel_rfl
theorem OutK.pushB {α:Type} {f:α→List Value} {e:TypeId} {K:Nat} {P:Program} {t:TypeId} {z:Value} {bytes:Nat} (ht:P.underlying t=some (.slice e)) (hi:(P.info? e).map (fun i=>(i.zero,i.size,i.bytes))=some (some z,K,bytes)) (hz:z.cells.size=K) (hK:0 < K)
  (hfl:∀ a,(f a).length=K) (hf1:∀ a,∀ u∈f a,u.oneCell'=true) {w0 w:World} {q:Option Addr} {m k:Nat} {ps:List α} (x:α) (h:OutK f e K w0 w q m k ps) (hb:(m+1) * bytes≤140737488355328) (h63:m+1≤140737488355328) :
  ∃ q' k' w2,Hid ((Builtin.append_ #[t,t] t #[.slice q m k,.slice (some ⟨w.heap.size,0,none⟩) 1 1]).run P (w.alloc (.cells (f x).toArray e))=.ok (.slice q' (m+1) k') w2)∧OutK f e K w0 w2 q' (m+1) k' (ps ++ [x])∧Only (Go.Proofs.YtfeglnpmpgipiaaGreatDoor.blk q) w w2:=by
 have oz:=Only.alloc w (.cells (f x).toArray e);have rz:=Row.new w e (f x);have h2:=h.only0 oz;obtain ⟨p',c',w2,hr2,o2,h3⟩:=appendK (P:=P) (t:=t) (ty:=t) (q:=some ⟨w.heap.size,0,none⟩) (m:=1) (c:=1) (news:=f x) (w.alloc (.cells (f x).toArray e)) ht hi hz hK h2.1 rz.rd0 (by rw [hfl,Nat.one_mul]) (by simp) (hf1 x) hb (by omega) h2.2.2.size;refine ⟨p',c',w2,Lib.hid hr2,⟨by rw [List.flatMap_append];simpa using o2,by rw [List.length_append,h.2.1];rfl,h2.2.2.transN h3 (fun t ht=>(h.blk _ ht).1)⟩,(oz.mono (by simp)).trans h3 (fun i hi _=>hi)⟩
structure FmOk (fs:List LCmd):Prop where
 ok:∀ m∈fs,CmdOk m.x∧m.x.parts.length≤16
set_option maxHeartbeats 16000000 in
theorem forms11_any (p:Option Addr) (n c:Nat) (ms:List LCmd) (w0:World) (hn:ms.length=n) (hnb:n * 184≤140737488355328) (hx:Rd w0 p (ms.flatMap lmCells)) (hms:CmsAt w0 ms) :
  Calls Tryz.prog 15 #[.slice p n c] w0 fun e w'=>∃ q m k fs,e=.returned (.tuple #[.slice q m k,.bool (decide (m≤600))])∧fs.length=m∧Rd w' q (fs.flatMap lmCells)∧(q=none→m=0)∧FmOk fs∧(∀ x∈fs,x∈ms)∧Only [] w0 w':=by
 obtain ⟨w2,hw2⟩:∃ w2,w2=w0.alloc (.cells #[] 36):=⟨_,rfl⟩;have HI0:Hid (OutK lmCells 36 18 w0 w2 (some ⟨w0.heap.size,0,none⟩) 0 0 []∧FmOk []∧∀ x∈([]:List LCmd),x∈ms):=Lib.hid ⟨OutK.start (Only.refl _ _) hw2,⟨fun m hm=>by cases hm⟩,fun x hx=>by cases hx⟩;have Hw:=Lib.hid hw2;have Hn:=Lib.hid hn;have Hx:=Lib.hid hx;have HM:=Lib.hid hms;clear hn hx hms hw2
 go_enter Tryz.func15,Tryz.ntmps15
 go_upto_region 2 with (fail)
 rw [← Hw.out];clear Hw;go_wp2_with fail
 go_loopw [4,10] (fun a b wl=>∃ (i m k:Nat) (q:Option Addr) (fs:List LCmd),a=.slice q m k∧b=.int .i64 (i:Int)∧i≤n∧m≤i∧Hid (OutK lmCells 36 18 w0 wl q m k fs∧FmOk fs∧∀ x∈fs,x∈ms)) (fun _ b _=>n - (intOf b).toNat)
 case atStart=>exact ⟨0,0,0,_,[],rfl,rfl,Nat.zero_le _,Nat.le_refl _,HI0⟩
 case round =>
  clear HI0;obtain ⟨i,nm,k,q,fs,rfl,rfl,hi,hmi,HI⟩:=hrel
  by_cases hlt:i < n
  ·obtain ⟨m,hm⟩:∃ m,ms[i]?=some m:=⟨_,List.getElem?_eq_getElem (by rw [Hn.out];exact hlt)⟩;have hmm:=List.mem_of_getElem? hm;have hOwr:Only [] w0 wr:=HI.out.1.2.2;have hrd:=Hx.out.only0 hOwr;have hne:ms.flatMap lmCells≠[]:=fun e'=>(by have:=flat_get lmCells 18 lmCells_len ms _ m 0 hm (by omega);rw [e'] at this;cases this);obtain ⟨bq,off,rfl,-⟩:=hrd.lt hne;have hld:=load_cm hrd hm;have Hld:=Lib.hid hld;have HmA:=Lib.hid ((HM.out.ca m hmm).only0 hOwr);have HmS:=Lib.hid (HM.out.sh m hmm);have Hmm:=Lib.hid hmm;obtain ⟨np,hnp⟩:∃ np,m.x.parts.length=np:=⟨_,rfl⟩
   have Hnp:=Lib.hid hnp;clear hne hrd hld hm hmm hOwr hnp;unfold lmV at Hld;rw [Hnp.out] at Hld
   go_upto_region 5 with (first | ((with_reducible show wpList _ _ _ _ _ _);refine wpl_load (ty:=36) (x:=.tmp 12) rfl rfl rfl Hld.out ?_))
   obtain ⟨wx,hwx⟩:∃ wx,wx=wr.alloc (.cells #[.int .i64 m.x.kind,.int .i64 m.x.id.node,.int .i64 m.x.id.boot,.int .i64 m.x.id.seq,.string (str m.x.bucket),.string (str m.x.key),.int .i64 m.x.upload.node,.int .i64 m.x.upload.boot,.int .i64 m.x.upload.seq,.int .i64 m.x.piece.blob.node,.int .i64 m.x.piece.blob.boot,.int .i64 m.x.piece.blob.seq,.int .i64 m.x.piece.size,.string (str m.x.piece.etag),.int .i64 m.x.part,.slice m.p np m.c,.int .i64 m.x.time,.int .i64 m.x.days] 36):=⟨_,rfl⟩;have ox:Only [] wr wx:=(by rw [hwx];exact Only.alloc _ _);have rx:Row wx wr.heap.size 36 [.int .i64 m.x.kind,.int .i64 m.x.id.node,.int .i64 m.x.id.boot,.int .i64 m.x.id.seq,.string (str m.x.bucket),.string (str m.x.key),.int .i64 m.x.upload.node,.int .i64 m.x.upload.boot,.int .i64 m.x.upload.seq,.int .i64 m.x.piece.blob.node,.int .i64 m.x.piece.blob.boot,.int .i64 m.x.piece.blob.seq,.int .i64 m.x.piece.size,.string (str m.x.piece.etag),.int .i64 m.x.part,.slice m.p np m.c,.int .i64 m.x.time,.int .i64 m.x.days]:=by rw [hwx];exact Row.newOf _ _ _ _ rfl
   rw [← hwx];obtain ⟨B,hB⟩:∃ B,wr.heap.size=B:=⟨_,rfl⟩;rw [hB] at rx ⊢;have hinf:=inForm10_any m wx (HmA.out.only0 ox) HmS.out;have h6:=rx.loadSA (P:=Tryz.prog) Tryz.underlying36 cmInfo;unfold lmV at hinf;rw [Hnp.out] at hinf;have H6:=Lib.hid h6;have HRx:=Lib.hid rx;have HOx:=Lib.hid ox;clear hwx h6 rx ox hB Hld
   go_wp2_with (first | ((with_reducible show wpList _ _ _ _ _ _);refine wpl_load (ty:=36) (x:=.tmp 6) rfl rfl rfl H6.out ?_))
   (with_reducible refine hinf.mono ?_);clear hinf H6;rintro e w3 ⟨v,rfl,hv,o3⟩;have HO3:=Lib.hid (HOx.out.trans0 o3);have HR3:=Lib.hid (HRx.out.only0 o3);have Hv:=Lib.hid hv;clear o3 hv HRx HOx
   cases v with
   | false =>
    have HI2:Hid (OutK lmCells 36 18 w0 w3 q nm k fs∧FmOk fs∧∀ x∈fs,x∈ms):=Lib.hid ⟨HI.out.1.only0 HO3.out,HI.out.2⟩;clear HI HR3 HO3 Hv;go_wp2_with fail;refine ⟨⟨i+1,nm,k,q,fs,rfl,by go_num,by omega,by omega,HI2⟩,?_⟩;show n - ((i:Int)+1).toNat < n - ((i:Int)).toNat;omega
   | true =>
    have h6:=HR3.out.loadSA (P:=Tryz.prog) Tryz.underlying36 cmInfo;have H6:=Lib.hid h6;obtain ⟨q',k',w5,Hap,hO,-⟩:=OutK.pushB (P:=Tryz.prog) (t:=22) Tryz.underlying22 Tryz.infoCm rfl (by omega) lmCells_len lmCells_one m (HI.out.1.only0 HO3.out) (by have:=Nat.mul_le_mul_right 184 (show nm+1≤n by omega);omega) (by omega);unfold lmCells at Hap;rw [Hnp.out] at Hap
    have HI2:Hid (OutK lmCells 36 18 w0 w5 q' (nm+1) k' (fs ++ [m])∧FmOk (fs ++ [m])∧∀ x∈fs ++ [m],x∈ms):=Lib.hid ⟨hO,⟨fun x hx=>by
     rcases List.mem_append.1 hx with h | h
     ·exact HI.out.2.1.ok x h
     ·rw [List.mem_singleton.1 h,Hnp.out];exact Hv.out rfl⟩,fun x hx=>by
     rcases List.mem_append.1 hx with h | h
     ·exact HI.out.2.2 x h
     ·rw [List.mem_singleton.1 h];exact Hmm.out⟩
    clear h6 hO HI HR3 HO3 Hv
    go_wp2_with (first | ((with_reducible show wpList _ _ _ _ _ _);refine wpl_load (ty:=36) (x:=.tmp 6) rfl rfl rfl H6.out ?_) | (at_builtin;refine wpl_append (s:=.tmp 16) (x:=.tmp 18) rfl rfl rfl rfl Hap.out ?_))
    refine ⟨⟨i+1,nm+1,k',q',fs ++ [m],rfl,by go_num,by omega,by omega,HI2⟩,?_⟩;show n - ((i:Int)+1).toNat < n - ((i:Int)).toNat;omega
  ·obtain rfl:i=n:=(by omega);have hq0:=HI.out.1.rd.2.1;have HE:Hid (fs.length=nm∧Rd wr q (fs.flatMap lmCells)∧(q=none→nm=0)∧FmOk fs∧(∀ x∈fs,x∈ms)∧Only [] w0 wr):=Lib.hid ⟨HI.out.1.2.1,HI.out.1.rd.1,fun h=>(hq0 h).1,HI.out.2.1,HI.out.2.2,HI.out.1.2.2⟩
   have hdec:decide ((nm:Int)≤600)=decide (nm≤600):=by
    by_cases h:nm≤600
    ·rw [decide_eq_true h,decide_eq_true (show (nm:Int)≤600 by omega)]
    ·rw [decide_eq_false h,decide_eq_false (show ¬ (nm:Int)≤600 by omega)]
   have Hdec:=Lib.hid hdec;clear HI hq0 hdec;go_wp2_with fail
   go_ret2
   exact ⟨q,nm,k,fs,by rw [← Hdec.out];rfl,HE.out⟩
end
end Go.Proofs.YtfeglnpmpgipiaaGreatDoor
