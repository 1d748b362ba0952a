/- GrwPk, part 43: Forms11W, LedCopW, LedIdxW, LedPutW, LedFoldW, Alive12W, LedOutW, LedCopyW, Forms12W. -/
import Derived.Test.YtfeglnpmpgipiaaGreatDoorGrwPk01
import Derived.Test.YtfeglnpmpgipiaaGreatDoorGrwPk03
import Derived.Test.YtfeglnpmpgipiaaGreatDoorGrwPk05
import Derived.Test.YtfeglnpmpgipiaaGreatDoorGrwPk06
import Derived.Test.YtfeglnpmpgipiaaGreatDoorGrwPk14
import Derived.Test.YtfeglnpmpgipiaaGreatDoorGrwPk15
import Derived.Test.YtfeglnpmpgipiaaGreatDoorGrwPk23
import Derived.Test.YtfeglnpmpgipiaaGreatDoorGrwPk35
import Derived.Test.YtfeglnpmpgipiaaGreatDoorGrwPk38
import Derived.Test.YtfeglnpmpgipiaaGreatDoorGrwPk40
import Derived.Test.YtfeglnpmpgipiaaGreatDoorGrwPk41
import Derived.Test.YtfeglnpmpgipiaaGreatDoorGrwPk42
import Derived.RangeFuncNested
import Derived.RangeFuncBound
import Derived.RangeFuncCalls
import Derived.RangeFuncLeaves
import Derived.TacticsInMore
import Derived.OwnWalkIn
import Derived.LoopNIn
import Derived.LoopIn
import Derived.Shelf.Abstract
set_option linter.unusedVariables false
set_option maxRecDepth 100000
set_option linter.unusedSimpArgs false
namespace Go.Proofs.YtfeglnpmpgipiaaGreatDoor
section
open Go.RowKit
theorem Tryz.infoCm:(Tryz.prog.info? 36).map (fun i=>(i.zero,i.size,i.bytes))=some (some (.agg #[.int .i64 0,.int .i64 0,.int .i64 0,.int .i64 0,.string ⟨#[]⟩,.string ⟨#[]⟩,.int .i64 0,.int .i64 0,.int .i64 0,.int .i64 0,.int .i64 0,.int .i64 0,.int .i64 0,.string ⟨#[]⟩,.int .i64 0,.slice none 0 0,.int .i64 0,.int .i64 0]),18,184):=by kernel_rfl
theorem vW.pushB {α:Type} {f:α→List Value} {e:TypeId} {K:Nat} {P:Program} {t:TypeId} {z:Value} {bytes:Nat} (ht:P.underlying t=some (.slice e)) (hi:(P.info? e).map (fun i=>(i.zero,i.size,i.bytes))=some (some z,K,bytes)) (hz:z.cells.size=K) (hK:0 < K)
  (hfl:∀ a,(f a).length=K) (hf1:∀ a,∀ u∈f a,u.oneCell'=true) {w0 w:World} {q:Option Addr} {m k:Nat} {ps:List α} (x:α) (h:vW f e K w0 w q m k ps) (hb:(m+1) * bytes≤140737488355328) (h63:m+1≤140737488355328) :
  ∃ q' k' w2,Hid ((Builtin.append_ #[t,t] t #[.slice q m k,.slice (some ⟨w.heap.size,0,none⟩) 1 1]).run P (w.alloc (.cells (f x).toArray e))=.ok (.slice q' (m+1) k') w2)∧vW f e K w0 w2 q' (m+1) k' (ps ++ [x])∧Only (Go.Proofs.YtfeglnpmpgipiaaGreatDoor.blk q) w w2:=by
 have oz:=Only.alloc w (.cells (f x).toArray e);have rz:=Row.new w e (f x);have h2:=h.zB oz;obtain ⟨p',c',w2,hr2,o2,h3⟩:=xN (P:=P) (t:=t) (ty:=t) (q:=some ⟨w.heap.size,0,none⟩) (m:=1) (c:=1) (news:=f x) (w.alloc (.cells (f x).toArray e)) ht hi hz hK h2.1 rz.rd0 (by rw [hfl,Nat.one_mul]) (by simp) (hf1 x) hb (by omega) h2.2.2.size;refine ⟨p',c',w2,Lib.hid hr2,⟨by rw [List.flatMap_append];simpa using o2,by rw [List.length_append,h.2.1];rfl,h2.2.2.zY h3 (fun t ht=>(h.blk _ ht).1)⟩,(oz.mono (by simp)).trans h3 (fun i hi _=>hi)⟩
structure zHF (fs:List zS):Prop where
 ok:∀ m∈fs,xJ m.x∧m.x.parts.length≤16
end
section
open Go.RowKit
set_option maxHeartbeats 8000000 in
theorem zEX (p:Option Addr) (xs:List Int) (n c:Nat) (w:World) (hn:xs.length=n) (hb:n≤1000000) (hx:zAA w p n c (jU xs)) :
  Calls Tryz.prog 126 #[.slice p n c] w fun e w'=>∃ p' c',e=.returned (.slice p' n c')∧zN w' w.heap.size 3 1 (.slice p' n c') n (jU xs)∧Only [] w w':=by
 obtain ⟨hx,hp,-⟩:=hx;have Hn:=Lib.hid hn;have heq:=Lib.run_eql_slice_nil (P:=Tryz.prog) w 34 3 p n c 0 0 Tryz.underlying34
 cases p with
 | none =>
  obtain ⟨rfl,rfl⟩:=hp rfl;have hxs:xs=[]:=List.eq_nil_of_length_eq_zero hn;clear hn hp
  go_enter Tryz.func126,Tryz.ntmps126
  go_wp2_with fail
  go_ret
  subst hxs;exact ⟨none,0,rfl,zN.nil _ _ _ _,Only.refl _ _⟩
 | some a =>
  have on:=Only.alloc w (.cells #[] 3);have ow:zN (w.alloc (.cells #[] 3)) w.heap.size 3 1 (.slice (some ⟨w.heap.size,0,none⟩) 0 0) 0 []:=zN.new (K:=1) (n:=0) [] (Nat.le_refl _) rfl (by omega);obtain ⟨p',c',w2,hr,o2,h2⟩:=xN (P:=Tryz.prog) (bytes:=8) (c:=c) (q:=some a) (m:=n) (news:=jU xs) (t:=34) (ty:=34) _ Tryz.underlying34 Tryz.infoI64c rfl (by omega) ow (hx.zB on) (by unfold jU;rw [List.length_map,hn,Nat.mul_one]) (by simp) (fun u hu=>by unfold jU at hu;obtain ⟨y,_,rfl⟩:=List.mem_map.1 hu;rfl) (by omega) (by omega) on.size
  rw [Nat.zero_add] at hr o2;have Hr:=Lib.hid hr;clear hn hp hr
  go_enter Tryz.func126,Tryz.ntmps126
  go_wp2_with (first | (at_builtin;refine qP (s:=.tmp 5) (x:=.tmp 6) rfl rfl rfl rfl Hr.out ?_))
  go_ret
  exact ⟨p',c',rfl,o2,on.zY h2 (by simp [blk])|>.drop (by simp)⟩
def xV (w:World) (B:Nat) (m:zS):Prop:=zN w B 3 1 (.slice m.p m.x.parts.length m.c) m.x.parts.length (jU m.x.parts)
theorem xV.at {w:World} {B:Nat} {m:zS} (h:xV w B m):jS w m:=zAA.own h
theorem xV.zB {w w':World} {B:Nat} {m:zS} (h:xV w B m) (ho:Only [] w w'):xV w' B m:=zN.zB h ho
theorem xV.zCZ {S:List Nat} {w w':World} {B:Nat} {m:zS} (h:xV w B m) (ho:Only S w w') (hS:∀ z∈S,Ty w z 36):xV w' B m :=
 zN.jL h ho (fun z hz hm=>absurd ((zN.ty h z hz).uniq (hS z hm)) (by decide))
theorem xV.weaken {w:World} {B B':Nat} {m:zS} (h:xV w B m) (hb:B'≤B):xV w B' m:=zN.weaken h hb
set_option maxHeartbeats 16000000 in
theorem zAe (p:Option Addr) (n c:Nat) (ms:List zS) (w0:World) (hn:ms.length=n) (hnb:n * 184≤140737488355328) (hx:Rd w0 p (ms.flatMap zK)) (hms:∀ m∈ms,jS w0 m∧m.x.parts.length≤1000000) :
  Calls Tryz.prog 87 #[.slice p n c] w0 fun e w'=>∃ q k ms2,e=.returned (.slice q n k)∧ms2.map zS.x=ms.map zS.x∧vW zK 36 18 w0 w' q n k ms2∧∀ m∈ms2,xV w' w0.heap.size m:=by
 have HI0:Hid (vW zK 36 18 w0 w0 none 0 0 []∧([]:List zS).map zS.x=(ms.take 0).map zS.x∧∀ m∈([]:List zS),xV w0 w0.heap.size m):=Lib.hid ⟨vW.zJS (Only.refl _ _),rfl,fun m hm=>by cases hm⟩;have Hn:=Lib.hid hn;have Hx:=Lib.hid hx;have HM:=Lib.hid hms;clear hn hx hms
 go_enter Tryz.func87,Tryz.ntmps87
 go_wp2_with fail
 go_loopw [3,8] (fun s a wl=>∃ (i k:Nat) (q:Option Addr) (fs:List zS),s=.slice q i k∧a=.int .i64 (i:Int)∧i≤n∧Hid (vW zK 36 18 w0 wl q i k fs∧fs.map zS.x=(ms.take i).map zS.x∧∀ m∈fs,xV wl w0.heap.size m)) (fun _ a _=>n - (intOf a).toNat)
 case atStart=>exact ⟨0,0,none,[],rfl,rfl,Nat.zero_le _,HI0⟩
 case round =>
  clear HI0;obtain ⟨i,k,q,fs,rfl,rfl,hi,HI⟩:=hrel;have HO:Hid (Only [] w0 wr):=Lib.hid HI.out.1.2.2
  by_cases hlt:i < n
  ·obtain ⟨m,hm⟩:∃ m,ms[i]?=some m:=⟨_,List.getElem?_eq_getElem (by rw [Hn.out];exact hlt)⟩;have hrd:=Hx.out.zB HO.out;have hne:ms.flatMap zK≠[]:=fun e'=>(by have:=flat_get zK 18 jB ms _ m 0 hm (by omega);rw [e'] at this;cases this);obtain ⟨bq,off,rfl,-⟩:=hrd.lt hne;have hld:=yL hrd hm;obtain ⟨np,hnp⟩:∃ k,m.x.parts.length=k:=⟨_,rfl⟩;have hlm:lmV m=.agg #[.int .i64 m.x.kind,.int .i64 m.x.id.node,.int .i64 m.x.id.boot,.int .i64 m.x.id.seq,.string (str m.x.bucket),.string (str m.x.key),.int .i64 m.x.upload.node,.int .i64 m.x.upload.boot,.int .i64 m.x.upload.seq,.int .i64 m.x.piece.blob.node,.int .i64 m.x.piece.blob.boot,.int .i64 m.x.piece.blob.seq,.int .i64 m.x.piece.size,.string (str m.x.piece.etag),.int .i64 m.x.part,.slice m.p np m.c,.int .i64 m.x.time,.int .i64 m.x.days]:=by unfold lmV;rw [hnp]
   unfold lmV at hld;rw [hnp] at hld;have Hld:=Lib.hid hld;clear hrd hne hld;have hmm:=List.mem_of_getElem? hm;have Hm:=Lib.hid (show jS wr m∧m.x.parts.length=np∧np≤1000000∧ms[i]?=some m from ⟨((HM.out m hmm).1).zB HO.out,hnp,by rw [← hnp];exact (HM.out m hmm).2,hm⟩);clear hmm hm hnp hlm
   go_upto_region 5 with (first | ((with_reducible show wpList _ _ _ _ _ _);refine jG (ty:=36) (x:=.tmp 10) rfl rfl rfl Hld.out ?_))
   obtain ⟨wx,hwx⟩:∃ wx,wx=wr.alloc (.cells #[.int .i64 m.x.kind,.int .i64 m.x.id.node,.int .i64 m.x.id.boot,.int .i64 m.x.id.seq,.string (str m.x.bucket),.string (str m.x.key),.int .i64 m.x.upload.node,.int .i64 m.x.upload.boot,.int .i64 m.x.upload.seq,.int .i64 m.x.piece.blob.node,.int .i64 m.x.piece.blob.boot,.int .i64 m.x.piece.blob.seq,.int .i64 m.x.piece.size,.string (str m.x.piece.etag),.int .i64 m.x.part,.slice m.p np m.c,.int .i64 m.x.time,.int .i64 m.x.days] 36):=⟨_,rfl⟩;have ox:Only [] wr wx:=(by rw [hwx];exact Only.alloc _ _);have rx:Row wx wr.heap.size 36 [.int .i64 m.x.kind,.int .i64 m.x.id.node,.int .i64 m.x.id.boot,.int .i64 m.x.id.seq,.string (str m.x.bucket),.string (str m.x.key),.int .i64 m.x.upload.node,.int .i64 m.x.upload.boot,.int .i64 m.x.upload.seq,.int .i64 m.x.piece.blob.node,.int .i64 m.x.piece.blob.boot,.int .i64 m.x.piece.blob.seq,.int .i64 m.x.piece.size,.string (str m.x.piece.etag),.int .i64 m.x.part,.slice m.p np m.c,.int .i64 m.x.time,.int .i64 m.x.days]:=by rw [hwx];exact Row.zV _ _ _ _ rfl
   rw [← hwx];obtain ⟨B,hB⟩:∃ B,wr.heap.size=B:=⟨_,rfl⟩;rw [hB] at rx ⊢;have c15:=rx.cell (i:=15) rfl;have hcl:=zEX m.p m.x.parts np m.c wx Hm.out.2.1 Hm.out.2.2.1 (by have h9:=Hm.out.1.zB ox;unfold jS at h9;rw [Hm.out.2.1] at h9;exact h9);have Hcl:=Lib.hid hcl;have HRx:=Lib.hid rx;have HB:=Lib.hid (show wr.heap.size=B∧B < wx.heap.size from ⟨hB,rx.lt⟩);have HOx:=Lib.hid ox;clear hwx ox rx hB hcl Hld;go_wp2_with fail;refine Hcl.out.mono ?_;clear Hcl c15;rintro e w3 ⟨p',c',rfl,hown,o3⟩;have r3:=HRx.out.zB o3;have c15:=r3.cell (i:=15) rfl
   have f15:=r3.free 15;obtain ⟨w4,hw4⟩:∃ w4,w4=w3.setCell ⟨B,15,none⟩ (.slice p' np c'):=⟨_,rfl⟩;have r4:Row w4 B 36 [.int .i64 m.x.kind,.int .i64 m.x.id.node,.int .i64 m.x.id.boot,.int .i64 m.x.id.seq,.string (str m.x.bucket),.string (str m.x.key),.int .i64 m.x.upload.node,.int .i64 m.x.upload.boot,.int .i64 m.x.upload.seq,.int .i64 m.x.piece.blob.node,.int .i64 m.x.piece.blob.boot,.int .i64 m.x.piece.blob.seq,.int .i64 m.x.piece.size,.string (str m.x.piece.etag),.int .i64 m.x.part,.slice p' np c',.int .i64 m.x.time,.int .i64 m.x.days]:=by rw [hw4];exact r3.setCell 15 _
   have o4:Only [B] w3 w4:=(by rw [hw4];exact Only.setCell _ ⟨B,15,none⟩ _);have hB:=HB.out;have owr4:Only [] wr w4:=(HOx.out.zC o3).zY o4 (fun z hz=>by rw [List.mem_singleton.1 hz,hB.1];exact Nat.le_refl _)
   have hE:xV w4 w0.heap.size ⟨m.x,p',c'⟩:=by
    unfold xV;dsimp only;rw [Hm.out.2.1];exact (hown.jL o4 (fun z hz hm=>by have:=(ownIn hown z hz).1;rw [List.mem_singleton.1 hm] at this;omega)).weaken (Nat.le_trans HO.out.size HOx.out.size)
   have hold:∀ x∈fs,xV w4 w0.heap.size x:=fun x hx=>(HI.out.2.2 x hx).zB owr4;have hout:=HI.out.1.zB owr4;have H6:=Lib.hid (r4.yM (P:=Tryz.prog) Tryz.underlying36 vK);have Hw4:=Lib.hid hw4;obtain ⟨q',k',w5,Hap,hO,hO5⟩:=vW.pushB (P:=Tryz.prog) (t:=22) Tryz.underlying22 Tryz.infoCm rfl (by omega) jB vR ⟨m.x,p',c'⟩ hout (by have:=Nat.mul_le_mul_right 184 (show i+1≤n by omega);omega) (by omega);unfold zK at Hap;dsimp only at Hap;rw [Hm.out.2.1] at Hap;have hty:∀ z∈blk q,Ty w4 z 36:=zN.ty hout.1
   have HI2:Hid (vW zK 36 18 w0 w5 q' (i+1) k' (fs ++ [(⟨m.x,p',c'⟩:zS)])∧(fs ++ [(⟨m.x,p',c'⟩:zS)]).map zS.x=(ms.take (i+1)).map zS.x∧∀ x∈fs ++ [(⟨m.x,p',c'⟩:zS)],xV w5 w0.heap.size x):=Lib.hid ⟨hO,by rw [List.map_append,HI.out.2.1,List.take_add_one,Hm.out.2.2.2,List.map_append];rfl,fun x hx=>by
    rcases List.mem_append.1 hx with h | h
    ·exact (hold x h).zCZ hO5 hty
    ·rw [List.mem_singleton.1 h];exact hE.zCZ hO5 hty⟩
   clear hown o3 r3 hw4 r4 o4 hB owr4 hE hold hout hO hO5 hty HI HRx
   go_upto_region 6 with (fail)
   rw [← Hw4.out];clear Hw4 c15 f15
   go_wp2_with (first | ((with_reducible show wpList _ _ _ _ _ _);refine jG (ty:=36) (x:=.tmp 5) rfl rfl rfl H6.out ?_) | (at_builtin;refine qP (s:=.tmp 16) (x:=.tmp 18) rfl rfl rfl rfl Hap.out ?_))
   refine ⟨⟨i+1,k',q',fs ++ [(⟨m.x,p',c'⟩:zS)],rfl,by go_num,by omega,HI2⟩,?_⟩;show n - ((i:Int)+1).toNat < n - ((i:Int)).toNat;omega
  ·obtain rfl:i=n:=(by omega);have HE:Hid (fs.map zS.x=ms.map zS.x):=Lib.hid (by rw [HI.out.2.1,List.take_of_length_le (by rw [Hn.out];exact Nat.le_refl _)]);go_wp2_with fail
   go_ret
   exact ⟨q,k,fs,rfl,HE.out,HI.out.1,HI.out.2.2⟩
end
section
open Go.RowKit
theorem zHx (ms:List zS) (d:Cid):xL (ms.map zS.x) d=ms.findIdx (fun m=>decide (m.x.id=d)):=by unfold xL;rw [List.findIdx_map];rfl
set_option maxHeartbeats 8000000 in
theorem zHp (m:zS) (d:Cid) (g:Nat) (w0:World) (hg:Row w0 g 31 (zI d)) :
  Calls Tryz.prog 114 #[lmV m,.pointer (some ⟨g,0,none⟩)] w0 fun e w'=>e=.returned (.bool (decide (m.x.id=d)))∧Only [] w0 w':=by
 obtain ⟨np,hnp⟩:∃ k,m.x.parts.length=k:=⟨_,rfl⟩;obtain ⟨w1,hw1⟩:∃ w1,w1=w0.alloc (.cells #[.int .i64 m.x.kind,.int .i64 m.x.id.node,.int .i64 m.x.id.boot,.int .i64 m.x.id.seq,.string (str m.x.bucket),.string (str m.x.key),.int .i64 m.x.upload.node,.int .i64 m.x.upload.boot,.int .i64 m.x.upload.seq,.int .i64 m.x.piece.blob.node,.int .i64 m.x.piece.blob.boot,.int .i64 m.x.piece.blob.seq,.int .i64 m.x.piece.size,.string (str m.x.piece.etag),.int .i64 m.x.part,.slice m.p np m.c,.int .i64 m.x.time,.int .i64 m.x.days] 36):=⟨_,rfl⟩;have o1:Only [] w0 w1:=by rw [hw1];exact Only.alloc _ _
 have r1:Row w1 w0.heap.size 36 [.int .i64 m.x.kind,.int .i64 m.x.id.node,.int .i64 m.x.id.boot,.int .i64 m.x.id.seq,.string (str m.x.bucket),.string (str m.x.key),.int .i64 m.x.upload.node,.int .i64 m.x.upload.boot,.int .i64 m.x.upload.seq,.int .i64 m.x.piece.blob.node,.int .i64 m.x.piece.blob.boot,.int .i64 m.x.piece.blob.seq,.int .i64 m.x.piece.size,.string (str m.x.piece.etag),.int .i64 m.x.part,.slice m.p np m.c,.int .i64 m.x.time,.int .i64 m.x.days]:=(by rw [hw1];exact Row.zV _ _ _ _ rfl);have hg1:=hg.zB o1;unfold zI at hg1;have c0:=hg1.cell (i:=0) rfl
 have c1:=hg1.cell (i:=1) rfl;have c2:=hg1.cell (i:=2) rfl;have b1:=r1.cell (i:=1) rfl;have b2:=r1.cell (i:=2) rfl;have b3:=r1.cell (i:=3) rfl;have Hw:=Lib.hid hw1;have HO:=Lib.hid o1;rw [show lmV m=.agg #[.int .i64 m.x.kind,.int .i64 m.x.id.node,.int .i64 m.x.id.boot,.int .i64 m.x.id.seq,.string (str m.x.bucket),.string (str m.x.key),.int .i64 m.x.upload.node,.int .i64 m.x.upload.boot,.int .i64 m.x.upload.seq,.int .i64 m.x.piece.blob.node,.int .i64 m.x.piece.blob.boot,.int .i64 m.x.piece.blob.seq,.int .i64 m.x.piece.size,.string (str m.x.piece.etag),.int .i64 m.x.part,.slice m.p np m.c,.int .i64 m.x.time,.int .i64 m.x.days] by unfold lmV;rw [hnp]]
 have hq:=fun w=>yS 9998 m.x.id d w;unfold idV at hq;clear hw1 o1 r1 hg hg1 hnp
 go_enter Tryz.func114,Tryz.ntmps114
 go_upto_region 1 with (fail)
 rw [← Hw.out];clear Hw;go_wp2_with fail
 go_ret
 exact ⟨rfl,HO.out⟩
set_option maxHeartbeats 8000000 in
theorem zGl (p:Option Addr) (n c:Nat) (ms:List zS) (d:Cid) (g:Nat) (w0:World) (hn:ms.length=n) (hnb:n≤9223372036854775807) (hx:Rd w0 p (ms.flatMap zK)) (hg:Row w0 g 31 (zI d)) :
  Calls Tryz.prog 113 #[.slice p n c,.func (.func 114) #[] #[.pointer (some ⟨g,0,none⟩)]] w0 fun e' w'=>e'=.returned (.int .i64 (if xL (ms.map zS.x) d < n then ((xL (ms.map zS.x) d:Nat):Int) else -1))∧Only [] w0 w':=by
 rw [zHx];generalize hV:(if ms.findIdx (fun m=>decide (m.x.id=d)) < n then ((ms.findIdx (fun m=>decide (m.x.id=d)):Nat):Int) else -1)=V;have HV:=Lib.hid hV;have Hn:=Lib.hid hn;have Hx:=Lib.hid hx;have Hg:=Lib.hid hg;clear hV hn hx hg
 go_enter Tryz.func113,Tryz.ntmps113
 go_wp2_with fail
 go_loopw [8] (fun a wl=>∃ i:Nat,a=.int .i64 (i:Int)∧i≤n∧Hid (∀ x∈ms.take i,decide (x.x.id=d)=false)∧Hid (Only [] w0 wl)) (fun a _=>n - (intOf a).toNat)
 case atStart=>exact ⟨0,rfl,Nat.zero_le _,Lib.hid (fun x hx=>by simp at hx),Lib.hid (Only.refl _ _)⟩
 case round =>
  obtain ⟨i,rfl,hi,HI,HO⟩:=hrel
  by_cases hlt:i < n
  ·obtain ⟨m,hm⟩:∃ m,ms[i]?=some m:=⟨_,List.getElem?_eq_getElem (by rw [Hn.out];exact hlt)⟩;have hrd:=Hx.out.zB HO.out;have hne:ms.flatMap zK≠[]:=fun e'=>(by have:=flat_get zK 18 jB ms _ m 0 hm (by omega);rw [e'] at this;cases this);obtain ⟨bq,off,rfl,-⟩:=hrd.lt hne;have hld:=yL hrd hm;obtain ⟨np,hnp⟩:∃ k,m.x.parts.length=k:=⟨_,rfl⟩;have hlm:lmV m=.agg #[.int .i64 m.x.kind,.int .i64 m.x.id.node,.int .i64 m.x.id.boot,.int .i64 m.x.id.seq,.string (str m.x.bucket),.string (str m.x.key),.int .i64 m.x.upload.node,.int .i64 m.x.upload.boot,.int .i64 m.x.upload.seq,.int .i64 m.x.piece.blob.node,.int .i64 m.x.piece.blob.boot,.int .i64 m.x.piece.blob.seq,.int .i64 m.x.piece.size,.string (str m.x.piece.etag),.int .i64 m.x.part,.slice m.p np m.c,.int .i64 m.x.time,.int .i64 m.x.days]:=by unfold lmV;rw [hnp]
   unfold lmV at hld;rw [hnp] at hld;have Hld:=Lib.hid hld;clear hrd hne hld;have hby:=zHp m d g wr (Hg.out.zB HO.out);rw [hlm] at hby;have Hxx:=Lib.hid hm;obtain ⟨dd,hd⟩:∃ v,decide (m.x.id=d)=v:=⟨_,rfl⟩;rw [hd] at hby;have Hby:=Lib.hid hby;have Hdd:=Lib.hid hd;clear hd hm hlm hnp hby
   go_wp2_with (first | ((with_reducible show wpList _ _ _ _ _ _);refine jG (ty:=36) (x:=.tmp 14) rfl rfl rfl Hld.out ?_))
   refine Hby.out.mono ?_;clear Hby Hld;rintro e w' ⟨rfl,o'⟩;have HO2:=Lib.hid (HO.out.zC o');clear o'
   cases dd with
   | true =>
    have HVi:Hid (V=(i:Int)):=Lib.hid (by rw [← HV.out,zCz HI.out Hxx.out Hdd.out,if_pos hlt]);go_wp2_with fail
    go_ret
    exact ⟨by rw [HVi.out];rfl,HO2.out⟩
   | false =>
    have HI2:Hid (∀ x∈ms.take (i+1),decide (x.x.id=d)=false):=Lib.hid (fun y hy=>by
     rw [List.take_add_one,Hxx.out] at hy
     rcases List.mem_append.1 hy with h | h
     ·exact HI.out y h
     ·simp at h;rw [h];exact Hdd.out)
    go_wp2_with fail;refine ⟨⟨i+1,by go_num,by omega,HI2,HO2⟩,?_⟩
    simp [intOf];omega
  ·obtain rfl:i=n:=(by omega);have HVi:Hid (V = -1):=Lib.hid (by rw [← HV.out,zCV (dl:=fun m:zS=>decide (m.x.id=d)) (fun x hx=>HI.out x (by rw [List.take_of_length_le (by rw [Hn.out];exact Nat.le_refl _)];exact hx)),Hn.out,if_neg (by omega)]);go_wp2_with fail
   go_ret
   exact ⟨by rw [HVi.out];rfl,HO.out⟩
set_option maxHeartbeats 8000000 in
theorem zAo (p:Option Addr) (n c:Nat) (ms:List zS) (d:Cid) (w0:World) (hn:ms.length=n) (hnb:n≤9223372036854775807) (hx:Rd w0 p (ms.flatMap zK)) :
  Calls Tryz.prog 73 #[.slice p n c,idV d] w0 fun e' w'=>e'=.returned (.int .i64 (if xL (ms.map zS.x) d < n then ((xL (ms.map zS.x) d:Nat):Int) else -1))∧Only [] w0 w':=by
 obtain ⟨w1,hw1⟩:∃ w1,w1=w0.alloc (.cells #[.int .i64 d.node,.int .i64 d.boot,.int .i64 d.seq] 31):=⟨_,rfl⟩;have o1:Only [] w0 w1:=(by rw [hw1];exact Only.alloc _ _);have r1:Row w1 w0.heap.size 31 [.int .i64 d.node,.int .i64 d.boot,.int .i64 d.seq]:=(by rw [hw1];exact Row.zV _ _ _ _ rfl);have hby:=zGl p n c ms d w0.heap.size w1 hn hnb (hx.zB o1) r1;generalize (if xL (ms.map zS.x) d < n then ((xL (ms.map zS.x) d:Nat):Int) else -1)=V at hby ⊢;have Hby:=Lib.hid hby;have Hw:=Lib.hid hw1;have HO:=Lib.hid o1;unfold idV;clear hn hx hby hw1 o1 r1
 go_enter Tryz.func73,Tryz.ntmps73
 go_upto_region 1 with (fail)
 rw [← Hw.out];clear Hw;go_wp2_with fail;refine Hby.out.mono ?_;rintro e w' ⟨rfl,o'⟩;have HO2:=Lib.hid (HO.out.zC o');clear o' Hby;go_wp2_with fail
 go_ret
 exact ⟨rfl,HO2.out⟩
end
section
open Go.RowKit
def zHh (vs:List Value):Value→World→Prop:=fun v w=>∃ g,v=.slice (some ⟨g,0,none⟩) 1 1∧Row w g 36 vs
theorem zHh.stable {vs:List Value}:Stable (Only []) (zHh vs):=fun v a c ⟨g,h1,h2⟩ ho=>⟨g,h1,h2.zB ho⟩
def SlC (B n:Nat) (L:List Cmd):Value→World→Prop:=fun v w=>∃ (q:Option Addr) (k:Nat) (ms2:List zS),v=.slice q n k∧ms2.length=n∧ms2.map zS.x=L∧zN w B 36 18 (.slice q n k) n (ms2.flatMap zK)∧∀ m∈ms2,xV w B m
theorem SlC.stable {B n:Nat} {L:List Cmd}:Stable (Only []) (SlC B n L):=fun v a c ⟨q,k,ms,h1,h2,h3,h4,h5⟩ ho=>⟨q,k,ms,h1,h2,h3,h4.zB ho,fun m hm=>(h5 m hm).zB ho⟩
theorem SlC.run {w:World} {B n r:Nat} {L K:List Cmd} {v u:Value} (h:SlC B n L v w) (k:SlC B r K u w) (hB:B≤w.heap.size) (hb:n+r≤100000) :
  ∃ v' w',(Builtin.append_ #[22,22] 22 #[v,u]).run Tryz.prog w=.ok v' w'∧SlC B (n+r) (L ++ K) v' w'∧Below B w w':=by
 obtain ⟨p,c,ms,rfl,hl,hL,o,hm⟩:=h;obtain ⟨q,d,ns,rfl,hl2,hL2,o2,hm2⟩:=k;have h1:∀ u∈ns.flatMap zK,u.oneCell'=true:=fun u hu=>vD zK vR hu;obtain ⟨p',c',w2,hr2,o3,h2⟩:=xN (P:=Tryz.prog) (t:=22) (ty:=22) (bytes:=184) w Tryz.underlying22 Tryz.infoCm rfl (by omega) o o2.view.2.2.1 (by rw [qR zK 18 jB,hl2]) o2.view.2.2.2.1 h1 (by omega) (by omega) hB;have hty:∀ z∈blk p,Ty w z 36:=zN.ty o
 exact ⟨_,w2,hr2,⟨p',c',ms ++ ns,rfl,by rw [List.length_append,hl,hl2],by rw [List.map_append,hL,hL2],by rw [List.flatMap_append];exact o3,fun m h9=>by
  rcases List.mem_append.1 h9 with h | h
  ·exact (hm m h).zCZ h2 hty
  ·exact (hm2 m h).zCZ h2 hty⟩,h2.zCh hB (fun x hx=>(o.view.2.2.2.2.2.2 x hx).1)⟩
set_option maxHeartbeats 16000000 in
theorem zAw (p:Option Addr) (n c:Nat) (ms:List zS) (m:zS) (w0:World) (hn:ms.length=n) (hn4:n < 4096) (hx:Rd w0 p (ms.flatMap zK)) (hms:∀ m∈ms,jS w0 m∧m.x.parts.length≤1000000) (hm:jS w0 m∧m.x.parts.length≤1000000) :
  Calls Tryz.prog 44 #[.slice p n c,lmV m] w0 fun e w'=>∃ v N,e=.returned (.tuple #[v,.int .i64 ((vZ (ms.map zS.x) m.x).2:Nat),.nilIface])∧SlC w0.heap.size N (vZ (ms.map zS.x) m.x).1 v w'∧Only [] w0 w':=by
 obtain ⟨np,hnp⟩:∃ k,m.x.parts.length=k:=⟨_,rfl⟩;obtain ⟨w1,hw1⟩:∃ w1,w1=w0.alloc (.cells #[.int .i64 m.x.kind,.int .i64 m.x.id.node,.int .i64 m.x.id.boot,.int .i64 m.x.id.seq,.string (str m.x.bucket),.string (str m.x.key),.int .i64 m.x.upload.node,.int .i64 m.x.upload.boot,.int .i64 m.x.upload.seq,.int .i64 m.x.piece.blob.node,.int .i64 m.x.piece.blob.boot,.int .i64 m.x.piece.blob.seq,.int .i64 m.x.piece.size,.string (str m.x.piece.etag),.int .i64 m.x.part,.slice m.p np m.c,.int .i64 m.x.time,.int .i64 m.x.days] 36):=⟨_,rfl⟩;have o1:Only [] w0 w1:=by rw [hw1];exact Only.alloc _ _
 have r1:Row w1 w0.heap.size 36 [.int .i64 m.x.kind,.int .i64 m.x.id.node,.int .i64 m.x.id.boot,.int .i64 m.x.id.seq,.string (str m.x.bucket),.string (str m.x.key),.int .i64 m.x.upload.node,.int .i64 m.x.upload.boot,.int .i64 m.x.upload.seq,.int .i64 m.x.piece.blob.node,.int .i64 m.x.piece.blob.boot,.int .i64 m.x.piece.blob.seq,.int .i64 m.x.piece.size,.string (str m.x.piece.etag),.int .i64 m.x.part,.slice m.p np m.c,.int .i64 m.x.time,.int .i64 m.x.days]:=(by rw [hw1];exact Row.zV _ _ _ _ rfl);have hix:=zAo p n c ms m.x.id w1 hn (by omega) (hx.zB o1);unfold idV at hix
 have Hix:=Lib.hid hix;have Hn:=Lib.hid hn;have Hx:=Lib.hid hx;have HM:=Lib.hid hms;have Hm:=Lib.hid hm;have Hnp:=Lib.hid hnp;have Hw:=Lib.hid hw1;have HO:=Lib.hid o1;have HR:=Lib.hid r1;have b1:=r1.cell (i:=1) rfl;have b2:=r1.cell (i:=2) rfl;have b3:=r1.cell (i:=3) rfl;have hl0:(ms.map zS.x).length=n:=(by rw [List.length_map,hn]);obtain ⟨ix,hixv⟩:∃ v,xL (ms.map zS.x) m.x.id=v:=⟨_,rfl⟩;rw [show lmV m=.agg #[.int .i64 m.x.kind,.int .i64 m.x.id.node,.int .i64 m.x.id.boot,.int .i64 m.x.id.seq,.string (str m.x.bucket),.string (str m.x.key),.int .i64 m.x.upload.node,.int .i64 m.x.upload.boot,.int .i64 m.x.upload.seq,.int .i64 m.x.piece.blob.node,.int .i64 m.x.piece.blob.boot,.int .i64 m.x.piece.blob.seq,.int .i64 m.x.piece.size,.string (str m.x.piece.etag),.int .i64 m.x.part,.slice m.p np m.c,.int .i64 m.x.time,.int .i64 m.x.days] by unfold lmV;rw [hnp]]
 have HP:=Lib.hid (And.intro hl0 hixv);clear hn hx hms hm hnp hw1 o1 r1 hix hl0 hixv
 go_enter Tryz.func44,Tryz.ntmps44
 go_upto_region 1 with (fail)
 rw [← Hw.out];clear Hw;go_wp2_with fail;refine Hix.out.mono ?_;rintro e w2 ⟨rfl,o2⟩;rw [HP.out.2];have HO2:=Lib.hid (HO.out.zC o2);have HR2:=Lib.hid (HR.out.zB o2);clear Hix b1 b2 b3 HR o2
 by_cases hlt:ix < n
 ·rw [if_pos hlt];have hcp:=zAe p n c ms w2 Hn.out (by omega) (Hx.out.zB HO2.out) (fun m hm=>⟨(HM.out m hm).1.zB HO2.out,(HM.out m hm).2⟩);have Hcp:=Lib.hid hcp;have hge:¬ ((ix:Int) < 0):=(by omega);clear hcp;go_wp2_with fail;refine Hcp.out.mono ?_;rintro e w3 ⟨q,k,ms2,rfl,hmap,hout,hown⟩
  have HE:Hid (SlC w0.heap.size n (vZ (ms.map zS.x) m.x).1 (.slice q n k) w3∧(vZ (ms.map zS.x) m.x).2=ix+1∧Only [] w0 w3):=Lib.hid (by
   unfold vZ;rw [HP.out.1,HP.out.2,if_pos hlt]
   exact ⟨⟨q,k,ms2,rfl,hout.2.1,hmap,hout.1.weaken HO2.out.size,fun m hm=>(hown m hm).weaken HO2.out.size⟩,rfl,HO2.out.zC hout.2.2⟩)
  clear Hcp hmap hout hown;go_wp2_with fail
  go_ret3
  exact ⟨_,n,by rw [HE.out.2.1];rfl,HE.out.1,HE.out.2.2⟩
 ·rw [if_neg hlt];have hlen:¬ ((4096:Int)≤(n:Int)):=by omega
  have hcp:∀ w,Only [] w2 w→Calls Tryz.prog 87 #[.slice p n c] w fun e w'=>∃ v,e=.returned v∧SlC w.heap.size n (ms.map zS.x) v w'∧Only [] w w':=fun w hw=>by
   refine (zAe p n c ms w Hn.out (by omega) (Hx.out.zB (HO2.out.zC hw)) (fun m hm=>⟨(HM.out m hm).1.zB (HO2.out.zC hw),(HM.out m hm).2⟩)).mono ?_;rintro e w' ⟨q,k,ms2,rfl,hmap,hout,hown⟩;exact ⟨_,rfl,⟨q,k,ms2,rfl,hout.2.1,hmap,hout.1,hown⟩,hout.2.2⟩
  have hcp1:∀ w g,Only [] w2 w→Row w g 36 (zK m)→Calls Tryz.prog 87 #[.slice (some ⟨g,0,none⟩) 1 1] w fun e w'=>∃ v,e=.returned v∧SlC w.heap.size 1 [m.x] v w'∧Only [] w w':=fun w g hw hg=>by
   refine (zAe (some ⟨g,0,none⟩) 1 1 [m] w rfl (by omega) (by simpa using hg.rd0) (fun x hx=>by rw [List.mem_singleton.1 hx];exact ⟨Hm.out.1.zB (HO2.out.zC hw),Hm.out.2⟩)).mono ?_;rintro e w' ⟨q,k,ms2,rfl,hmap,hout,hown⟩;exact ⟨_,rfl,⟨q,k,ms2,rfl,hout.2.1,hmap,hout.1,hown⟩,hout.2.2⟩
  have Hcp:=Lib.hid hcp;have Hcp1:=Lib.hid hcp1;have HLD:Hid (∀ w,Only [] w2 w→(Instr.loadAt 36 (.pointer (some ⟨w0.heap.size,0,none⟩))).run Tryz.prog w=.ok (.agg #[.int .i64 m.x.kind,.int .i64 m.x.id.node,.int .i64 m.x.id.boot,.int .i64 m.x.id.seq,.string (str m.x.bucket),.string (str m.x.key),.int .i64 m.x.upload.node,.int .i64 m.x.upload.boot,.int .i64 m.x.upload.seq,.int .i64 m.x.piece.blob.node,.int .i64 m.x.piece.blob.boot,.int .i64 m.x.piece.blob.seq,.int .i64 m.x.piece.size,.string (str m.x.piece.etag),.int .i64 m.x.part,.slice m.p np m.c,.int .i64 m.x.time,.int .i64 m.x.days]) w):=Lib.hid (fun w hw=>(HR2.out.zB hw).yM (P:=Tryz.prog) Tryz.underlying36 vK)
  have HCE:Hid ([.int .i64 m.x.kind,.int .i64 m.x.id.node,.int .i64 m.x.id.boot,.int .i64 m.x.id.seq,.string (str m.x.bucket),.string (str m.x.key),.int .i64 m.x.upload.node,.int .i64 m.x.upload.boot,.int .i64 m.x.upload.seq,.int .i64 m.x.piece.blob.node,.int .i64 m.x.piece.blob.boot,.int .i64 m.x.piece.blob.seq,.int .i64 m.x.piece.size,.string (str m.x.piece.etag),.int .i64 m.x.part,.slice m.p np m.c,.int .i64 m.x.time,.int .i64 m.x.days]=zK m):=Lib.hid (by unfold zK;rw [Hnp.out]);clear hcp hcp1
  go_upto_region 6 with (fail)
  have hRr:∀ x,Below w2.heap.size x x:=fun x=>Below.refl _ _;have hRt:∀ x b e,Below w2.heap.size x b→Below w2.heap.size b e→Below w2.heap.size x e:=fun x b e h h2=>h.trans h2;have hRd:Below w2.heap.size w2 w2.drew:=(Only.drew _).below
  have hRs:∀ j w,zZ [(5,Below w2.heap.size)] j w w:=zZ.refl (by
   intro x hx w;obtain rfl:=List.mem_singleton.1 hx
   exact Below.refl _ _)
  refine zDi (Below w2.heap.size) (zZ [(5,Below w2.heap.size)]) [[(0,none)],[(23,some 0)],[(3,none)],[(25,some 0)],[(26,some 0)],[(24,some 3),(27,some 0)],[(28,some 0)]] [(8,0)] [none,none,none,none,none,none,none,none,some 8,none,none,none,none,none,none,none,none,none,none,none,none,none,none,some 23,some 24,some 25,some 26,some 27,some 28,none,none,none] (by kernel_rfl) rfl (by kernel_rfl) hRr hRt hRs hRd (by kernel_rfl) ?_;apply zIP
  ·rintro a w hR ⟨(e0:_=_),-⟩;refine zA rfl fun K hK=>?_;go_simp;exact hK _ _ rfl ⟨hRr _,hRs _ _⟩
  refine ⟨SlC w2.heap.size n (ms.map zS.x),zL SlC.stable (by intro x hx hk;obtain rfl:=List.mem_singleton.1 hx;exact Bool.noConfusion (hk.symm.trans (by kernel_rfl:_=true))),fun a w hR hf=>?_,?_⟩
  ·obtain ⟨e23,-⟩:=hf;replace e23:a.tmps.getD 23 undef=_:=e23;refine zA rfl fun K hK=>?_;go_simp;(with_reducible refine (Hcp.out w (Only.yX hR)).mono ?_);rintro e w' ⟨v,rfl,⟨q,k,ms2,h1,h2,h3,h4,h5⟩,ho⟩;exact hK _ _ ⟨q,k,ms2,h1,h2,h3,h4.weaken hR.size,fun m hm=>(h5 m hm).weaken hR.size⟩ ⟨ho.below.mono hR.size,ho⟩
  apply zIP
  ·rintro a w hR ⟨(e3:_=_),-⟩;refine zA rfl fun K hK=>?_;exact zBN (x:=.tmp 3) rfl e3 (HLD.out w (Only.yX hR)) (hK _ _ rfl ⟨hRr _,hRs _ _⟩)
  refine ⟨zHh [.int .i64 m.x.kind,.int .i64 m.x.id.node,.int .i64 m.x.id.boot,.int .i64 m.x.id.seq,.string (str m.x.bucket),.string (str m.x.key),.int .i64 m.x.upload.node,.int .i64 m.x.upload.boot,.int .i64 m.x.upload.seq,.int .i64 m.x.piece.blob.node,.int .i64 m.x.piece.blob.boot,.int .i64 m.x.piece.blob.seq,.int .i64 m.x.piece.size,.string (str m.x.piece.etag),.int .i64 m.x.part,.slice m.p np m.c,.int .i64 m.x.time,.int .i64 m.x.days],zL zHh.stable (by intro x hx hk;obtain rfl:=List.mem_singleton.1 hx;exact Bool.noConfusion (hk.symm.trans (by kernel_rfl:_=true))),fun a w hR hf=>?_,?_⟩
  ·obtain ⟨e25,-⟩:=hf;replace e25:a.tmps.getD 25 undef=_:=e25;refine zA rfl fun K hK=>?_;have e25':=e25;rw [Array.getD_eq_getD_getElem?] at e25';go_simp;exact hK _ _ ⟨w.heap.size,rfl,Row.zV _ _ _ _ (by rfl)⟩ ⟨(Only.alloc w _).below.mono hR.size,Only.alloc w _⟩
  refine ⟨SlC w2.heap.size 1 [m.x],zL SlC.stable (by intro x hx hk;obtain rfl:=List.mem_singleton.1 hx;exact Bool.noConfusion (hk.symm.trans (by kernel_rfl:_=true))),fun a w hR hf=>?_,?_⟩
  ·obtain ⟨e26,-⟩:=hf;replace e26:zHh [.int .i64 m.x.kind,.int .i64 m.x.id.node,.int .i64 m.x.id.boot,.int .i64 m.x.id.seq,.string (str m.x.bucket),.string (str m.x.key),.int .i64 m.x.upload.node,.int .i64 m.x.upload.boot,.int .i64 m.x.upload.seq,.int .i64 m.x.piece.blob.node,.int .i64 m.x.piece.blob.boot,.int .i64 m.x.piece.blob.seq,.int .i64 m.x.piece.size,.string (str m.x.piece.etag),.int .i64 m.x.part,.slice m.p np m.c,.int .i64 m.x.time,.int .i64 m.x.days] (a.tmps.getD 26 undef) w:=e26;refine zA rfl fun K hK=>?_;obtain ⟨g,e26,hg⟩:=e26;rw [HCE.out] at hg
   go_simp;(with_reducible refine (Hcp1.out w g (Only.yX hR) hg).mono ?_);rintro e w' ⟨v,rfl,⟨q,k,ms2,h1,h2,h3,h4,h5⟩,ho⟩;exact hK _ _ ⟨q,k,ms2,h1,h2,h3,h4.weaken hR.size,fun m hm=>(h5 m hm).weaken hR.size⟩ ⟨ho.below.mono hR.size,ho⟩
  refine ⟨SlC w2.heap.size (n+1) (ms.map zS.x ++ [m.x]),zL SlC.stable (by intro x hx hk;obtain rfl:=List.mem_singleton.1 hx;exact Bool.noConfusion (hk.symm.trans (by kernel_rfl:_=true))),fun a w hR hf=>?_,?_⟩
  ·obtain ⟨e24,e27,-⟩:=hf;replace e24:SlC w2.heap.size n (ms.map zS.x) (a.tmps.getD 24 undef) w:=e24;replace e27:SlC w2.heap.size 1 [m.x] (a.tmps.getD 27 undef) w:=e27;refine zA rfl fun K hK=>?_;obtain ⟨v',w',hra,hS,hB⟩:=SlC.run e24 e27 hR.size (by omega);refine vF (s:=.tmp 24) (x:=.tmp 27) rfl rfl rfl hra ?_;exact hK _ _ hS ⟨hB,hB⟩
  refine ⟨SlC w2.heap.size (n+1) (ms.map zS.x ++ [m.x]),zL SlC.stable (by intro x hx hk;obtain rfl:=List.mem_singleton.1 hx;exact Bool.noConfusion (hk.symm.trans (by kernel_rfl:_=true))),fun a w hR hf=>?_,?_⟩
  ·obtain ⟨e28,-⟩:=hf;replace e28:SlC w2.heap.size (n+1) (ms.map zS.x ++ [m.x]) (a.tmps.getD 28 undef) w:=e28;refine zA rfl fun K hK=>?_;generalize hv28:a.tmps.getD 28 undef=v28 at e28;go_simp;exact hK _ _ e28 ⟨hRr _,hRs _ _⟩
  intro f6 w6 hR6 hf;dsimp only [qE];obtain ⟨e8,-⟩:=hf;replace e8:SlC w2.heap.size (n+1) (ms.map zS.x ++ [m.x]) (f6 8) w6:=e8;obtain ⟨q,k,ms2,e8,hl8,hL8,ho8,hm8⟩:=e8;have oE:Only [] w0 w6:=HO2.out.zC (Only.yX hR6)
  have HE:Hid (SlC w0.heap.size (n+1) (vZ (ms.map zS.x) m.x).1 (.slice q (n+1) k) w6∧(vZ (ms.map zS.x) m.x).2=n+1∧Only [] w0 w6):=Lib.hid (by
   unfold vZ;rw [HP.out.1,HP.out.2,if_neg hlt]
   exact ⟨⟨q,k,ms2,rfl,hl8,hL8,ho8.weaken HO2.out.size,fun m hm=>(hm8 m hm).weaken HO2.out.size⟩,rfl,oE⟩)
  rw [e8];clear oE hl8 hL8 ho8 hm8 hR6 hRr hRt hRd hRs e8;go_wp2_with fail
  go_ret3
  exact ⟨_,n+1,by rw [HE.out.2.1];rfl,HE.out.1,HE.out.2.2⟩
end
section
open Go.RowKit
set_option maxHeartbeats 16000000 in
theorem zFc (p:Option Addr) (n c:Nat) (ms:List zS) (w0:World) (hn:ms.length=n) (hnb:n≤9223372036854775807) (hx:Rd w0 p (ms.flatMap zK)) (hms:∀ m∈ms,jS w0 m) (hok:zGS ms) :
  Calls Tryz.prog 31 #[.slice p n c] w0 fun e w'=>∃ L,e=.returned (lcV L)∧qA w' w0.heap.size L∧xS L.cat∧L.cat=yQ (ms.map zS.x)∧Only [] w0 w':=by
 obtain ⟨w1,hw1⟩:∃ w1,w1=w0.alloc (.cells #[.slice none 0 0,.slice none 0 0] 29):=⟨_,rfl⟩;have o1:Only [] w0 w1:=(by rw [hw1];exact Only.alloc _ _);have s1:w1.heap.size=w0.heap.size+1:=(by rw [hw1];simp);have r1:Row w1 w0.heap.size 29 [.slice none 0 0,.slice none 0 0]:=(by rw [hw1];exact Row.zV _ _ _ _ rfl);obtain ⟨w2,hw2⟩:∃ w2,w2=w1.alloc (.cells #[.slice none 0 0,.slice none 0 0] 29):=⟨_,rfl⟩;have o2:Only [] w1 w2:=(by rw [hw2];exact Only.alloc _ _);have s2:w2.heap.size=w0.heap.size+1+1:=(by rw [hw2];simp [s1]);have r2:Row w2 (w0.heap.size+1) 29 [.slice none 0 0,.slice none 0 0]:=by rw [← s1,hw2];exact Row.zV _ _ _ _ rfl
 have HR1:=Lib.hid (r1.zB o2);have HO:=Lib.hid (o1.zC o2);have HS2:=Lib.hid s2;obtain ⟨X,hX⟩:∃ X,w0.heap.size=X:=⟨_,rfl⟩;have HI0:Hid (∃ L:qK,Row w2 (X+1) 29 (xA L)∧qA w2 (X+2) L∧xS L.cat∧L.cat=yQ ((ms.take 0).map zS.x)):=Lib.hid ⟨⟨[],none,0,[],none,0⟩,by rw [← hX];exact r2,⟨zN.nil _ _ _ _,zN.nil _ _ _ _,(fun b h=>by cases h),by simp [qK.fp,blk]⟩,zIg,rfl⟩;rw [hw1] at hw2;have Hw:=Lib.hid hw2;have Hn:=Lib.hid hn;have Hx:=Lib.hid hx;have HM:=Lib.hid hms;have Hok:=Lib.hid hok;have HX:=Lib.hid hX
 clear hn hx hms hok r1 r2 o1 o2 s1 s2 hw1 hw2
 go_enter Tryz.func31,Tryz.ntmps31
 go_wp2_with fail;rw [← Hw.out];rw [hX] at HR1 HS2;clear Hw hX
 go_loopw [8] (fun a wl=>∃ i:Nat,a=.int .i64 (i:Int)∧i≤n∧Hid (∃ L:qK,Row wl (X+1) 29 (xA L)∧qA wl (X+2) L∧xS L.cat∧L.cat=yQ ((ms.take i).map zS.x))∧Hid (Only [X+1] w2 wl)) (fun a _=>n - (intOf a).toNat)
 case atStart=>exact ⟨0,rfl,Nat.zero_le _,HI0,Lib.hid (Only.refl _ _)⟩
 case round =>
  clear HI0;obtain ⟨i,rfl,hi,HI,HOl⟩:=hrel;have hOwr:Only [] w0 wr:=HO.out.zY HOl.out (by simp;rw [HX.out];omega)
  by_cases hlt:i < n
  ·obtain ⟨m,hm⟩:∃ m,ms[i]?=some m:=⟨_,List.getElem?_eq_getElem (by rw [Hn.out];exact hlt)⟩;have hmm:=List.mem_of_getElem? hm;have hrd:=Hx.out.zB hOwr;have hne:ms.flatMap zK≠[]:=fun e'=>(by have:=flat_get zK 18 jB ms _ m 0 hm (by omega);rw [e'] at this;cases this);obtain ⟨bq,off,rfl,-⟩:=hrd.lt hne;have hld:=yL hrd hm;obtain ⟨np2,hnp2⟩:∃ k,m.x.parts.length=k:=⟨_,rfl⟩;have Hld:=Lib.hid hld;have Hm:=Lib.hid (show xJ m.x∧jS wr m∧m.x.parts.length=np2 from ⟨Hok.out m hmm,(HM.out m hmm).zB hOwr,hnp2⟩);have Hmi:Hid ((ms.map zS.x)[i]?=some m.x):=Lib.hid (by rw [List.getElem?_map,hm];rfl)
   obtain ⟨L,hrow,hown,hok,hcat⟩:=HI.out;obtain ⟨nb,hnb⟩:∃ k,L.bs.length=k:=⟨_,rfl⟩;obtain ⟨nf,hnf⟩:∃ k,L.fs.length=k:=⟨_,rfl⟩;have HL:=Lib.hid (show Row wr (X+1) 29 [.slice L.pb nb L.cb,.slice L.pf nf L.cf]∧qA wr (X+2) L∧xS L.cat∧L.bs.length=nb∧L.fs.length=nf∧L.cat=yQ ((ms.map zS.x).take i) from ⟨by rw [← hnb,← hnf];exact hrow,hown,hok,hnb,hnf,by rw [hcat,List.map_take]⟩);clear hm hmm hOwr hrd hne hld hnp2 hrow hown hok hcat hnb hnf HI;unfold lmV at Hld;rw [Hm.out.2.2] at Hld
   go_upto_region 5 with (first | ((with_reducible show wpList _ _ _ _ _ _);refine jG (ty:=36) (x:=.tmp 10) rfl rfl rfl Hld.out ?_))
   obtain ⟨wx,hwx⟩:∃ wx,wx=wr.alloc (.cells #[.int .i64 m.x.kind,.int .i64 m.x.id.node,.int .i64 m.x.id.boot,.int .i64 m.x.id.seq,.string (str m.x.bucket),.string (str m.x.key),.int .i64 m.x.upload.node,.int .i64 m.x.upload.boot,.int .i64 m.x.upload.seq,.int .i64 m.x.piece.blob.node,.int .i64 m.x.piece.blob.boot,.int .i64 m.x.piece.blob.seq,.int .i64 m.x.piece.size,.string (str m.x.piece.etag),.int .i64 m.x.part,.slice m.p np2 m.c,.int .i64 m.x.time,.int .i64 m.x.days] 36):=⟨_,rfl⟩;have ox:Only [] wr wx:=(by rw [hwx];exact Only.alloc _ _);have rx:Row wx wr.heap.size 36 [.int .i64 m.x.kind,.int .i64 m.x.id.node,.int .i64 m.x.id.boot,.int .i64 m.x.id.seq,.string (str m.x.bucket),.string (str m.x.key),.int .i64 m.x.upload.node,.int .i64 m.x.upload.boot,.int .i64 m.x.upload.seq,.int .i64 m.x.piece.blob.node,.int .i64 m.x.piece.blob.boot,.int .i64 m.x.piece.blob.seq,.int .i64 m.x.piece.size,.string (str m.x.piece.etag),.int .i64 m.x.part,.slice m.p np2 m.c,.int .i64 m.x.time,.int .i64 m.x.days]:=by rw [hwx];exact Row.zV _ _ _ _ rfl
   rw [← hwx];have H6:=Lib.hid (rx.yM (P:=Tryz.prog) Tryz.underlying36 vK);have hap:=zBs L m wx ((HL.out.2.1.zB ox).at) HL.out.2.2.1 Hm.out.1 (Hm.out.2.1.zB ox);rw [show lcV L=.agg #[.slice L.pb nb L.cb,.slice L.pf nf L.cf] by unfold lcV;rw [HL.out.2.2.2.1,HL.out.2.2.2.2.1],show lmV m=.agg #[.int .i64 m.x.kind,.int .i64 m.x.id.node,.int .i64 m.x.id.boot,.int .i64 m.x.id.seq,.string (str m.x.bucket),.string (str m.x.key),.int .i64 m.x.upload.node,.int .i64 m.x.upload.boot,.int .i64 m.x.upload.seq,.int .i64 m.x.piece.blob.node,.int .i64 m.x.piece.blob.boot,.int .i64 m.x.piece.blob.seq,.int .i64 m.x.piece.size,.string (str m.x.piece.etag),.int .i64 m.x.part,.slice m.p np2 m.c,.int .i64 m.x.time,.int .i64 m.x.days] by unfold lmV;rw [Hm.out.2.2]] at hap
   have HAp:=Lib.hid hap;have HOx:=Lib.hid ox;have hX6:=HL.out.1.zB ox;have c0:=hX6.cell (i:=0) rfl;have c1:=hX6.cell (i:=1) rfl;have HX6:=Lib.hid hX6;have HXs:=Lib.hid (show X+2≤wx.heap.size by have:=hX6.lt;omega);obtain ⟨Bx,hBx⟩:∃ B,wr.heap.size=B:=⟨_,rfl⟩;rw [hBx] at H6 ⊢;clear hwx ox rx hap hX6 hBx Hld
   go_wp2_with (first | ((with_reducible show wpList _ _ _ _ _ _);refine jG (ty:=36) (x:=.tmp 5) rfl rfl rfl H6.out ?_))
   refine HAp.out.mono ?_;rintro e w5 ⟨L2,oc2,rfl,hown2,happ,o5⟩;clear HAp c0 c1 H6;obtain ⟨lb,hlb⟩:∃ k,L2.bs.length=k:=⟨_,rfl⟩;obtain ⟨lf,hlf⟩:∃ k,L2.fs.length=k:=⟨_,rfl⟩;rw [show lcV L2=.agg #[.slice L2.pb lb L2.cb,.slice L2.pf lf L2.cf] by unfold lcV;rw [hlb,hlf]];have h5:=HX6.out.zB o5;have a0:=h5.cell (i:=0) rfl;have a1:=h5.cell (i:=1) rfl;have f0:=h5.free 0;have f1:=h5.free 1;obtain ⟨wz,hwz⟩:∃ wz,wz=(w5.setCell ⟨X+1,0,none⟩ (.slice L2.pb lb L2.cb)).setCell ⟨X+1,1,none⟩ (.slice L2.pf lf L2.cf):=⟨_,rfl⟩;have hrz:=h5.set2 (.slice L2.pb lb L2.cb) (.slice L2.pf lf L2.cf)
   have hst:=qB w5 (X+1) (.slice L2.pb lb L2.cb) (.slice L2.pf lf L2.cf);rw [← hwz] at hrz hst
   have hok2:xS L2.cat:=by
    have h9:=zIN smL zIe HL.out.2.2.1 Hm.out.1;rw [← happ] at h9;exact h9
   have hXs:=HXs.out
   have HI2:Hid (∃ L:qK,Row wz (X+1) 29 (xA L)∧qA wz (X+2) L∧xS L.cat∧L.cat=yQ ((ms.take (i+1)).map zS.x)):=Lib.hid ⟨L2,by unfold xA;rw [hlb,hlf];exact hrz,(hown2.only hst (fun z hz hm=>by have:=(hown2.lo z hz).1;rw [List.mem_singleton.1 hm] at this;omega)).weaken hXs,hok2,by
    rw [List.map_take,zFi Hmi.out,← HL.out.2.2.2.2.2,← happ]⟩
   have HO2:Hid (Only [X+1] w2 wz):=Lib.hid ((HOl.out.zC (HOx.out.zC o5)).trans hst (fun _ h _=>h));have Hwz:=Lib.hid hwz;clear hown2 happ o5 hlb hlf h5 hwz hrz hst hok2 hXs HXs HL Hm HX6 HOx HOl;go_wp2_with fail;rw [← Hwz.out];refine ⟨⟨i+1,by go_num,by omega,HI2,HO2⟩,?_⟩
   simp [intOf];omega
  ·obtain rfl:i=n:=(by omega);obtain ⟨L,hrow,hown,hok,hcat⟩:=HI.out;have c0:=hrow.cell (i:=0) rfl;have c1:=hrow.cell (i:=1) rfl;have r1:=HR1.out.only HOl.out (by simp);have d0:=r1.cell (i:=0) rfl;have d1:=r1.cell (i:=1) rfl;have f0:=r1.free 0;have f1:=r1.free 1;have hst:Row ((wr.setCell ⟨X,0,none⟩ (.slice L.pb L.bs.length L.cb)).setCell ⟨X,1,none⟩ (.slice L.pf L.fs.length L.cf)) X 29 (xA L):=r1.set2 _ _;have hso:=qB wr X (.slice L.pb L.bs.length L.cb) (.slice L.pf L.fs.length L.cf);have Hst:=Lib.hid hst;have HF:Hid (qA ((wr.setCell ⟨X,0,none⟩ (.slice L.pb L.bs.length L.cb)).setCell ⟨X,1,none⟩ (.slice L.pf L.fs.length L.cf)) w0.heap.size L∧xS L.cat∧L.cat=yQ (ms.map zS.x)∧Only [] w0 ((wr.setCell ⟨X,0,none⟩ (.slice L.pb L.bs.length L.cb)).setCell ⟨X,1,none⟩ (.slice L.pf L.fs.length L.cf))):=Lib.hid ⟨(hown.only hso (fun z hz hm=>by have:=(hown.lo z hz).1;rw [List.mem_singleton.1 hm] at this;omega)).weaken (by rw [HX.out];omega),hok,by rw [hcat,List.take_of_length_le (by rw [Hn.out];exact Nat.le_refl _)],hOwr.zY hso (by simp;rw [HX.out];exact Nat.le_refl _)⟩
   clear HI hrow hown hok hcat r1 hst hso hOwr;go_wp2_with fail;exact bodyPost_ret (qO rfl _ _ _ rfl Hst.out Tryz.underlying29 vL) rfl ⟨L,rfl,HF.out⟩
end
section
open Go.RowKit
def mkB:Cmd:=⟨1,⟨0,0,1⟩,bsA,[],id0,pc0,0,[],0,0⟩
theorem zJO:xJ mkB:=⟨by decide,by decide,by decide,by decide,by decide,by decide,fun h=>absurd h (by decide),fun h=>absurd h (by decide),fun h=>absurd h (by decide),fun h=>absurd h (by decide),by decide,by decide,by decide,by decide⟩
set_option maxHeartbeats 16000000 in
theorem zEx (w0:World):Calls Tryz.prog 28 #[] w0 fun e w'=>e=.returned (.bool true)∧Only [] w0 w':=by
 obtain ⟨w1,hw1⟩:∃ w1,w1=w0.alloc (.cells #[.int .i64 1,.int .i64 0,.int .i64 0,.int .i64 1,.string ⟨#[97,97,97]⟩,.string ⟨#[]⟩,.int .i64 0,.int .i64 0,.int .i64 0,.int .i64 0,.int .i64 0,.int .i64 0,.int .i64 0,.string ⟨#[]⟩,.int .i64 0,.slice none 0 0,.int .i64 0,.int .i64 0] 36):=⟨_,rfl⟩;have o1:Only [] w0 w1:=(by rw [hw1];exact Only.alloc _ _);have s1:w1.heap.size=w0.heap.size+1:=(by rw [hw1];simp);have r1:Row w1 w0.heap.size 36 [.int .i64 1,.int .i64 0,.int .i64 0,.int .i64 1,.string ⟨#[97,97,97]⟩,.string ⟨#[]⟩,.int .i64 0,.int .i64 0,.int .i64 0,.int .i64 0,.int .i64 0,.int .i64 0,.int .i64 0,.string ⟨#[]⟩,.int .i64 0,.slice none 0 0,.int .i64 0,.int .i64 0]:=by rw [hw1];exact Row.zV _ _ _ _ rfl
 have Hw:=Lib.hid hw1;have HO:=Lib.hid o1;have HR:=Lib.hid r1;have H6:=Lib.hid (r1.yM (P:=Tryz.prog) Tryz.underlying36 vK);have h1:=zAw none 0 0 [] ⟨mkB,none,0⟩ w1 rfl (by omega) (.nil _ _) (fun m hm=>by cases hm) ⟨.nil _,by decide⟩;rw [show lmV ⟨mkB,none,0⟩=.agg #[.int .i64 1,.int .i64 0,.int .i64 0,.int .i64 1,.string ⟨#[97,97,97]⟩,.string ⟨#[]⟩,.int .i64 0,.int .i64 0,.int .i64 0,.int .i64 0,.int .i64 0,.int .i64 0,.int .i64 0,.string ⟨#[]⟩,.int .i64 0,.slice none 0 0,.int .i64 0,.int .i64 0] from rfl] at h1;have H1:=Lib.hid h1
 clear hw1 o1 s1 r1 h1
 go_enter Tryz.func28,Tryz.ntmps28
 go_upto_region 2 with (fail)
 rw [← Hw.out];clear Hw
 go_wp2_with (first | ((with_reducible show wpList _ _ _ _ _ _);refine jG (ty:=36) (x:=.tmp 1) rfl rfl rfl H6.out ?_))
 refine H1.out.mono ?_;rintro e w2 ⟨v,N,rfl,hS,o2⟩;obtain ⟨q,k,ms2,rfl,hl,hmap,hown,hcm⟩:=hS;have hmap2:ms2.map zS.x=[mkB]:=hmap;have hl1:ms2.length=1:=(by have h9:=congrArg List.length hmap2;simpa using h9);obtain rfl:N=1:=(by omega);rw [show ((vZ (([]:List zS).map zS.x) mkB).2:Nat)=1 from rfl]
 have hin:∀ m∈ms2,m.x=mkB:=fun m hm=>by
  have h9:m.x∈ms2.map zS.x:=List.mem_map_of_mem hm;rw [hmap2] at h9;exact List.mem_singleton.1 h9
 have HO2:=Lib.hid (HO.out.zC o2);have HR2:=Lib.hid (HR.out.zB o2);have H7:=Lib.hid (HR2.out.yM (P:=Tryz.prog) Tryz.underlying36 vK);have h2:=zAw q 1 k ms2 ⟨mkB,none,0⟩ w2 hl1 (by omega) hown.view.2.2.1 (fun m hm=>⟨(hcm m hm).at,by rw [hin m hm];decide⟩) ⟨.nil _,by decide⟩;rw [hmap2,show (vZ [mkB] (⟨mkB,none,0⟩:zS).x)=([mkB],1) from rfl,show lmV ⟨mkB,none,0⟩=.agg #[.int .i64 1,.int .i64 0,.int .i64 0,.int .i64 1,.string ⟨#[97,97,97]⟩,.string ⟨#[]⟩,.int .i64 0,.int .i64 0,.int .i64 0,.int .i64 0,.int .i64 0,.int .i64 0,.int .i64 0,.string ⟨#[]⟩,.int .i64 0,.slice none 0 0,.int .i64 0,.int .i64 0] from rfl] at h2
 have H2:=Lib.hid h2;have HL:=Lib.hid (show ms2.length=1∧ms2.map zS.x=[mkB]∧Rd w2 q (ms2.flatMap zK)∧(∀ m∈ms2,jS w2 m∧xJ m.x) from ⟨hl1,hmap2,hown.view.2.2.1,fun m hm=>⟨(hcm m hm).at,by rw [hin m hm];exact zJO⟩⟩);clear H1 H6 o2 hl hmap hmap2 hl1 hown hcm hin h2 HO HR
 go_upto_region 3 with (fail)
 go_wp2_with (first | ((with_reducible show wpList _ _ _ _ _ _);refine jG (ty:=36) (x:=.tmp 1) rfl rfl rfl H7.out ?_))
 refine H2.out.mono ?_;rintro e w3 ⟨v,N,rfl,hS,o3⟩;obtain ⟨q3,k3,ms3,rfl,hl3,hmap3,hown3,hcm3⟩:=hS;obtain rfl:N=1:=(by have h9:=congrArg List.length hmap3;rw [List.length_map] at h9;simp at h9;omega);have h4:=zFc q 1 k ms2 w3 HL.out.1 (by omega) (HL.out.2.2.1.zB o3) (fun m hm=>(HL.out.2.2.2 m hm).1.zB o3) (fun m hm=>(HL.out.2.2.2 m hm).2);rw [HL.out.2.1] at h4;have H4:=Lib.hid h4;have HO3:=Lib.hid (HO2.out.zC o3);clear H2 H7 o3 hl3 hmap3 hown3 hcm3 h4 HL HO2 HR2;go_wp2_with fail;refine H4.out.mono ?_;rintro e w4 ⟨L,rfl,hown,hok,hcat,o4⟩
 have hlb:L.bs.length=1:=by
  have h9:=congrArg (fun c:Cat=>c.qJ.length) hcat;have h8:(yQ [mkB]).qJ.length=1:=(by decide);simp only [h8] at h9;have h7:(L.bs.map LBk.b).length=1:=h9
  rwa [List.length_map] at h7
 rw [show lcV L=.agg #[.slice L.pb 1 L.cb,.slice L.pf L.fs.length L.cf] by unfold lcV;rw [hlb]];have HO4:=Lib.hid (HO3.out.zC o4);have hfd:∀ w:World,(Instr.field 29 (.agg #[.slice L.pb 1 L.cb,.slice L.pf L.fs.length L.cf]) 0).run Tryz.prog w=.ok (.slice L.pb 1 L.cb) w:=fun _=>(by kernel_rfl);clear H4 o4 hown hok hcat hlb;go_wp2_with fail
 go_ret
 exact ⟨rfl,HO4.out⟩
end
section
open Go.RowKit
theorem zEv {w:World} {p:Option Addr} {ms:List zS} (h:Rd w p (ms.flatMap zK)) (k:Nat):Rd w p ((ms.take k).flatMap zK):=by
 rcases h with h | ⟨b,off,e,h⟩
 ·refine .inl ?_
  have h9:ms=[]:=by
   cases ms with
   | nil=>rfl
   | cons m l=>simp [zK] at h
  rw [h9];simp
 ·refine .inr ⟨b,off,e,fun j u hu=>h j u ?_⟩;have h9:ms.flatMap zK=(ms.take k).flatMap zK ++ (ms.drop k).flatMap zK:=(by rw [← List.flatMap_append,List.take_append_drop]);rw [h9,List.getElem?_append_left (List.getElem?_eq_some_iff.1 hu).1];exact hu
set_option maxHeartbeats 8000000 in
theorem zCs (p:Option Addr) (n c:Nat) (ms:List zS) (d:Cid) (w0:World) (hn:ms.length=n) (hnb:n≤4611686018427387904) (hx:Rd w0 p (ms.flatMap zK)) (hid:xL (ms.map zS.x) d < n) :
  Calls Tryz.prog 45 #[.slice p n c,idV d] w0 fun e w'=>e=.returned (.tuple #[.int .i64 ((xL (ms.map zS.x) d+1:Nat):Int),.nilIface])∧Only [] w0 w':=by
 obtain ⟨w1,hw1⟩:∃ w1,w1=w0.alloc (.cells #[.int .i64 d.node,.int .i64 d.boot,.int .i64 d.seq] 31):=⟨_,rfl⟩;have o1:Only [] w0 w1:=(by rw [hw1];exact Only.alloc _ _);have r1:Row w1 w0.heap.size 31 [.int .i64 d.node,.int .i64 d.boot,.int .i64 d.seq]:=(by rw [hw1];exact Row.zV _ _ _ _ rfl);have hix:=zAo p n c ms d w1 hn (by omega) (hx.zB o1);rw [if_pos hid] at hix;unfold idV at hix;generalize xL (ms.map zS.x) d=ix at hix hid ⊢;have Hix:=Lib.hid hix;have c0:=r1.cell (i:=0) rfl;have c1:=r1.cell (i:=1) rfl;have c2:=r1.cell (i:=2) rfl
 have HO:=Lib.hid o1;have Hw:=Lib.hid hw1;have hge:¬ ((ix:Int) < 0):=(by omega);unfold idV;clear hn hx hix hw1 o1 r1
 go_enter Tryz.func45,Tryz.ntmps45
 go_upto_region 1 with (fail)
 rw [← Hw.out];clear Hw;go_wp2_with fail;refine Hix.out.mono ?_;rintro e w2 ⟨rfl,o2⟩;have HO2:=Lib.hid (HO.out.zC o2);clear Hix c0 c1 c2 o2;go_wp2_with fail
 go_ret2
 exact ⟨rfl,HO2.out⟩
def FoS (B:Nat) (C:Cat):Value→World→Prop:=fun v w=>∃ L,v=lcV L∧L.cat=C∧xS L.cat∧qA w B L
theorem FoS.stable {B:Nat} {C:Cat}:Stable (Only []) (FoS B C):=fun v a c ⟨L,h1,h2,h3,h4⟩ ho=>⟨L,h1,h2,h3,h4.zB ho⟩
set_option maxHeartbeats 16000000 in
theorem zCB (p:Option Addr) (n c:Nat) (ms:List zS) (d:Cid) (w0:World) (hn:ms.length=n) (hnc:n≤c) (hc:c≤9223372036854775807) (hx:Rd w0 p (ms.flatMap zK)) (hms:∀ m∈ms,jS w0 m) (hok:zGS ms) (hid:xL (ms.map zS.x) d < n) :
  Calls Tryz.prog 33 #[.slice p n c,idV d] w0 fun e w'=>e=.returned (.tuple #[xM (zDN ((ms.map zS.x).take (xL (ms.map zS.x) d+1))).2,.nilIface])∧Only [] w0 w':=by
 obtain ⟨w1,hw1⟩:∃ w1,w1=w0.alloc (.cells #[.int .i64 d.node,.int .i64 d.boot,.int .i64 d.seq] 31):=⟨_,rfl⟩;have o1:Only [] w0 w1:=(by rw [hw1];exact Only.alloc _ _);have s1:w1.heap.size=w0.heap.size+1:=(by rw [hw1];simp);have r1:Row w1 w0.heap.size 31 [.int .i64 d.node,.int .i64 d.boot,.int .i64 d.seq]:=(by rw [hw1];exact Row.zV _ _ _ _ rfl);obtain ⟨w2,hw2⟩:∃ w2,w2=w1.alloc (.cells #[.int .i64 0,.string ⟨#[]⟩] 38):=⟨_,rfl⟩;have o2:Only [] w1 w2:=(by rw [hw2];exact Only.alloc _ _);have s2:w2.heap.size=w0.heap.size+1+1:=by rw [hw2];simp [s1]
 have r2:Row w2 (w0.heap.size+1) 38 [.int .i64 0,.string ⟨#[]⟩]:=(by rw [← s1,hw2];exact Row.zV _ _ _ _ rfl);replace r1:=r1.zB o2;have oA:=o1.zC o2;rw [hw1] at hw2;have hix:=zAo p n c ms d w2 hn (by omega) (hx.zB oA);rw [if_pos hid] at hix;unfold idV at hix;have Hix:=Lib.hid hix;have c0:=r1.cell (i:=0) rfl;have c1:=r1.cell (i:=1) rfl;have c2:=r1.cell (i:=2) rfl;have Hn:=Lib.hid hn;have Hx:=Lib.hid hx;have HR1:=Lib.hid r1;have HR2:=Lib.hid r2;have HO:=Lib.hid oA;have HS2:=Lib.hid s2;have Hw:=Lib.hid hw2;unfold idV
 generalize xL (ms.map zS.x) d=i at Hix hid hix ⊢;obtain ⟨RR,hRR⟩:∃ R,zDN ((ms.map zS.x).take (i+1))=R:=⟨_,rfl⟩;rw [hRR];have HRR:=Lib.hid hRR;clear hRR;have HM:=Lib.hid hms;have Hok:=Lib.hid hok;have hii:(i:Int) < (n:Int):=(by omega);have hge:¬ ((i:Int) < 0):=(by omega);have hic:i≤c:=(by omega);clear hn hx hix hw1 hw2 o1 o2 oA r1 r2 s1 s2 hms hok
 go_enter Tryz.func33,Tryz.ntmps33
 go_upto_region 1 with (fail)
 rw [← Hw.out];clear Hw;go_wp2_with fail;refine Hix.out.mono ?_;rintro e w3 ⟨rfl,o3⟩;have HO3:=Lib.hid (HO.out.zC o3);have HR3:=Lib.hid (HR2.out.zB o3);clear Hix c0 c1 c2 o3;obtain ⟨m,hm⟩:∃ m,ms[i]?=some m:=⟨_,List.getElem?_eq_getElem (by rw [Hn.out];omega)⟩;have hmm:=List.mem_of_getElem? hm;have hrd:=Hx.out.zB HO3.out;have hne:ms.flatMap zK≠[]:=fun e'=>(by have:=flat_get zK 18 jB ms _ m 0 hm (by omega);rw [e'] at this;cases this);obtain ⟨bq,off,rfl,-⟩:=hrd.lt hne;have HLD:Hid (∀ w,Only [] w3 w→(Instr.loadAt 36 (.pointer (some ⟨bq,off+i * 18,none⟩))).run Tryz.prog w=.ok (lmV m) w):=Lib.hid (fun w hw=>yL (hrd.zB hw) hm)
 have hstep:apply smL (yQ ((ms.map zS.x).take i)) m.x=RR:=by
  rw [← HRR.out,zEF (l:=ms.map zS.x) (i:=i) (x:=m.x) (by rw [List.getElem?_map,hm];rfl)]
 have Hfo:Hid (∀ w,Only [] w3 w→Calls Tryz.prog 31 #[.slice (some ⟨bq,off,none⟩) i c] w fun e w'=>∃ v,e=.returned v∧FoS w.heap.size (yQ ((ms.map zS.x).take i)) v w'∧Only [] w w'):=Lib.hid (fun w hw=>by
  have h9:=zFc (some ⟨bq,off,none⟩) i c (ms.take i) w (by rw [List.length_take,Hn.out];omega) (by omega) ((zEv Hx.out i).zB (HO3.out.zC hw)) (fun m hm=>(HM.out m (List.mem_of_mem_take hm)).zB (HO3.out.zC hw)) (fun m hm=>Hok.out m (List.mem_of_mem_take hm));rw [List.map_take] at h9;refine h9.mono ?_;rintro e w' ⟨L,rfl,h1,h2,h3,h4⟩
  exact ⟨_,rfl,⟨L,rfl,h3,h2,h1⟩,h4⟩)
 have Hap:Hid (∀ w L,Only [] w3 w→L.cat=yQ ((ms.map zS.x).take i)→xS L.cat→qA w w3.heap.size L→Calls Tryz.prog 16 #[lcV L,lmV m] w fun e w'=>∃ L' oc,e=.returned (.tuple #[lcV L',xM oc])∧(L'.cat,oc)=RR∧qA w' w.heap.size L'∧Only [] w w'):=Lib.hid (fun w L hw h1 h2 h3=>by
  refine (zBs L m w h3.at h2 (Hok.out m hmm) ((HM.out m hmm).zB (HO3.out.zC hw))).mono ?_;rintro e w' ⟨L',oc,rfl,k1,k2,k3⟩
  exact ⟨L',oc,rfl,by rw [k2,h1,hstep],k1,k3⟩)
 clear hm hmm hrd hne hstep
 go_upto_region 4 with (fail)
 have hRr:∀ x,Below w3.heap.size x x:=fun x=>Below.refl _ _;have hRt:∀ x b e,Below w3.heap.size x b→Below w3.heap.size b e→Below w3.heap.size x e:=fun x b e h h2=>h.trans h2;have hRd:Below w3.heap.size w3 w3.drew:=(Only.drew _).below
 have hRs:∀ j w,zZ [(14,TO w3.heap.size 29),(15,TO w3.heap.size 38)] j w w:=zZ.refl (by
  intro x hx w;simp only [List.mem_cons,List.not_mem_nil,or_false] at hx
  rcases hx with rfl | rfl
  ·exact TO.refl _ _ _
  ·exact TO.refl _ _ _)
 refine zDX (Below w3.heap.size) (zZ [(14,TO w3.heap.size 29),(15,TO w3.heap.size 38)]) [[(0,none)],[(6,none)],[(17,some 1),(18,some 0)],[(19,some 0)],[(0,none)],[(6,none)],[(21,some 1),(22,some 0)],[(23,some 0)],[(20,some 4),(24,some 0)],[(25,some 0)],[(16,some 0)],[(16,some 1)],[],[],[(7,some 1),(26,some 3)],[(8,some 1),(27,some 3)]] [] [(8,0)] [none,none,none,none,none,none,none,some 7,some 8,none,none,none,none,none,none,none,some 16,some 17,some 18,some 19,some 20,some 21,some 22,some 23,some 24,some 25,some 26,some 27,none] (by kernel_rfl) rfl (by kernel_rfl) hRr hRt hRs hRd (by kernel_rfl) ?_
 apply zBd rfl
 ·rintro a w hR ⟨(e0:_=_),-⟩;refine zA rfl fun K hK=>?_;go_simp;exact hK _ _ rfl ⟨hRr _,hRs _ _⟩
 apply zBd rfl
 ·rintro a w hR ⟨(e6:_=_),-⟩;refine zA rfl fun K hK=>?_;go_simp;exact hK _ _ rfl ⟨hRr _,hRs _ _⟩
 apply zBd rfl
 ·rintro a w hR ⟨(e17:_=_),(e18:_=_),-⟩;refine zA rfl fun K hK=>?_;go_simp;exact hK _ _ rfl ⟨hRr _,hRs _ _⟩
 refine zBK (FoS w3.heap.size (yQ ((ms.map zS.x).take i))) (zL FoS.stable (by intro x hx hk;simp only [List.mem_cons,List.not_mem_nil,or_false] at hx;rcases hx with rfl | rfl <;> first | exact Bool.noConfusion (hk.symm.trans (by kernel_rfl:_=true)))) rfl (fun a w hR hf=>?_) ?_
 ·obtain ⟨e19,-⟩:=hf;replace e19:a.tmps.getD 19 undef=_:=e19;refine zA rfl fun K hK=>?_;go_simp;(with_reducible refine (Hfo.out w (Only.yX hR)).mono ?_);rintro e w' ⟨v,rfl,⟨L,h1,h2,h3,h4⟩,ho⟩;exact hK _ _ ⟨L,h1,h2,h3,h4.weaken hR.size⟩ ⟨ho.below.mono hR.size,ho⟩
 apply zBd rfl
 ·rintro a w hR ⟨(e0:_=_),-⟩;refine zA rfl fun K hK=>?_;go_simp;exact hK _ _ rfl ⟨hRr _,hRs _ _⟩
 apply zBd rfl
 ·rintro a w hR ⟨(e6:_=_),-⟩;refine zA rfl fun K hK=>?_;go_simp;exact hK _ _ rfl ⟨hRr _,hRs _ _⟩
 apply zBd rfl
 ·rintro a w hR ⟨(e21:_=_),(e22:_=_),-⟩;refine zA rfl fun K hK=>?_;go_simp;exact hK _ _ rfl ⟨hRr _,hRs _ _⟩
 apply zBd rfl
 ·rintro a w hR ⟨(e23:_=_),-⟩;refine zA rfl fun K hK=>?_;exact zBN (x:=.tmp 23) rfl e23 (HLD.out w (Only.yX hR)) (hK _ _ rfl ⟨hRr _,hRs _ _⟩)
 refine zBK (ApS w3.heap.size RR) (zL ApS.stable (by intro x hx hk;simp only [List.mem_cons,List.not_mem_nil,or_false] at hx;rcases hx with rfl | rfl <;> first | (refine (show Stable (TO w3.heap.size 29) (ApS w3.heap.size RR) from ApS.to (.inl rfl));done) | (refine (show Stable (TO w3.heap.size 38) (ApS w3.heap.size RR) from ApS.to (.inr rfl));done) | exact Bool.noConfusion (hk.symm.trans (by kernel_rfl:_=true)))) rfl (fun a w hR hf=>?_) ?_
 ·obtain ⟨e20,e24,-⟩:=hf;replace e20:FoS w3.heap.size (yQ ((ms.map zS.x).take i)) (a.tmps.getD 20 undef) w:=e20;replace e24:a.tmps.getD 24 undef=_:=e24;refine zA rfl fun K hK=>?_;obtain ⟨L,e20,hcat,hok,hown⟩:=e20;go_simp;(with_reducible refine (Hap.out w L (Only.yX hR) hcat hok hown).mono ?_);rintro e w' ⟨L',oc,rfl,hres,hown,ho⟩;exact hK _ _ ⟨L',oc,rfl,hres,hown.weaken hR.size⟩ ⟨ho.below.mono hR.size,ho⟩
 refine zBK (ApS w3.heap.size RR) (zL ApS.stable (by intro x hx hk;simp only [List.mem_cons,List.not_mem_nil,or_false] at hx;rcases hx with rfl | rfl <;> first | (refine (show Stable (TO w3.heap.size 29) (ApS w3.heap.size RR) from ApS.to (.inl rfl));done) | (refine (show Stable (TO w3.heap.size 38) (ApS w3.heap.size RR) from ApS.to (.inr rfl));done) | exact Bool.noConfusion (hk.symm.trans (by kernel_rfl:_=true)))) rfl (fun a w hR hf=>?_) ?_
 ·obtain ⟨e25,-⟩:=hf;replace e25:ApS w3.heap.size RR (a.tmps.getD 25 undef) w:=e25;refine zA rfl fun K hK=>?_;generalize hv25:a.tmps.getD 25 undef=v25 at e25;go_simp;exact hK _ _ e25 ⟨hRr _,hRs _ _⟩
 refine zBK (CtS w3.heap.size RR) (zL CtS.stable (by intro x hx hk;simp only [List.mem_cons,List.not_mem_nil,or_false] at hx;rcases hx with rfl | rfl <;> first | (refine (show Stable (TO w3.heap.size 38) (CtS w3.heap.size RR) from CtS.to (.inr rfl));done) | exact Bool.noConfusion (hk.symm.trans (by kernel_rfl:_=true)))) rfl (fun a w hR hf=>?_) ?_
 ·obtain ⟨e16,-⟩:=hf;replace e16:ApS w3.heap.size RR (a.tmps.getD 16 undef) w:=e16;refine zA rfl fun K hK=>?_;obtain ⟨L',oc,e16,hres,hown⟩:=e16;go_simp;exact hK _ _ ⟨L',rfl,congrArg Prod.fst hres,hown⟩ ⟨hRr _,hRs _ _⟩
 refine zBK (OuS RR) (zL OuS.any (by intro x hx hk;simp only [List.mem_cons,List.not_mem_nil,or_false] at hx;rcases hx with rfl | rfl <;> first | (refine (show Stable (TO w3.heap.size 29) (OuS RR) from OuS.any);done) | (refine (show Stable (TO w3.heap.size 38) (OuS RR) from OuS.any);done) | exact Bool.noConfusion (hk.symm.trans (by kernel_rfl:_=true)))) rfl (fun a w hR hf=>?_) ?_
 ·obtain ⟨e16,-⟩:=hf;replace e16:ApS w3.heap.size RR (a.tmps.getD 16 undef) w:=e16;refine zA rfl fun K hK=>?_;obtain ⟨L',oc,e16,hres,hown⟩:=e16;go_simp;exact hK _ _ (congrArg (fun x:Cat × yA=>xM x.2) hres) ⟨hRr _,hRs _ _⟩
 refine zBK (zAp w3.heap.size 29 [.slice none 0 0,.slice none 0 0]) (zL zAp.stable (by intro x hx hk;simp only [List.mem_cons,List.not_mem_nil,or_false] at hx;rcases hx with rfl | rfl <;> first | (refine (show Stable (TO w3.heap.size 38) (zAp w3.heap.size 29 [.slice none 0 0,.slice none 0 0]) from zAp.to (by decide));done) | exact Bool.noConfusion (hk.symm.trans (by kernel_rfl:_=true)))) rfl (fun a w hR hf=>?_) ?_
 ·refine zA rfl fun K hK=>?_;go_simp;exact hK _ _ ⟨w.heap.size,rfl,hR.size,Row.zV _ _ _ _ (by rfl)⟩ ⟨(Only.alloc w _).below.mono hR.size,Only.alloc w _⟩
 refine zBK (zAp w3.heap.size 38 [.int .i64 0,.string ⟨#[]⟩]) (zL zAp.stable (by intro x hx hk;simp only [List.mem_cons,List.not_mem_nil,or_false] at hx;rcases hx with rfl | rfl <;> first | (refine (show Stable (TO w3.heap.size 29) (zAp w3.heap.size 38 [.int .i64 0,.string ⟨#[]⟩]) from zAp.to (by decide));done) | exact Bool.noConfusion (hk.symm.trans (by kernel_rfl:_=true)))) rfl (fun a w hR hf=>?_) ?_
 ·refine zA rfl fun K hK=>?_;go_simp;exact hK _ _ ⟨w.heap.size,rfl,hR.size,Row.zV _ _ _ _ (by rfl)⟩ ⟨(Only.alloc w _).below.mono hR.size,Only.alloc w _⟩
 refine zEB (t:=7) (zEm w3.heap.size RR) (zL zEm.stable (by intro x hx hk;simp only [List.mem_cons,List.not_mem_nil,or_false] at hx;rcases hx with rfl | rfl <;> first | (refine (show Stable (TO w3.heap.size 38) (zEm w3.heap.size RR) from zEm.to);done) | exact Bool.noConfusion (hk.symm.trans (by kernel_rfl:_=true)))) rfl (fun a w hR hf=>?_) ?_
 ·obtain ⟨e7,e26,-⟩:=hf;replace e7:zAp w3.heap.size 29 [.slice none 0 0,.slice none 0 0] (a.tmps.getD 7 undef) w:=e7;replace e26:CtS w3.heap.size RR (a.tmps.getD 26 undef) w:=e26;refine zA rfl fun K hK=>?_;obtain ⟨g,e7,hg,r⟩:=e7;obtain ⟨L',e26,hcat,hown⟩:=e26;have hst:=r.storeAt (P:=Tryz.prog) (us:=xA L') vL rfl (zCS L');have hos:=Only.setRow w g (xA L').toArray;have hTo:TO w3.heap.size 29 w (w.setRow g (xA L').toArray):=⟨[g],hos,fun z hz=>by rw [List.mem_singleton.1 hz];exact ⟨hg,Ty.row r⟩⟩;exact zBv (x:=.tmp 7) (y:=.tmp 26) rfl e7 e26 hst (show K a _ from hK (a.tmps.getD 7 undef) _ ⟨rfl,g,L',e7,hg,r.setRow _,hcat,hown.to (.inl rfl) hTo⟩ ⟨hos.zCh hR.size (by intro x hx;obtain rfl:=List.mem_singleton.1 hx;exact hg),hTo⟩)
 refine zEB (t:=8) (zAp w3.heap.size 38 (jJ (RR).2)) (zL zAp.stable (by intro x hx hk;simp only [List.mem_cons,List.not_mem_nil,or_false] at hx;rcases hx with rfl | rfl <;> first | (refine (show Stable (TO w3.heap.size 29) (zAp w3.heap.size 38 (jJ (RR).2)) from zAp.to (by decide));done) | exact Bool.noConfusion (hk.symm.trans (by kernel_rfl:_=true)))) rfl (fun a w hR hf=>?_) ?_
 ·obtain ⟨e8,e27,-⟩:=hf;replace e8:zAp w3.heap.size 38 [.int .i64 0,.string ⟨#[]⟩] (a.tmps.getD 8 undef) w:=e8;replace e27:OuS RR (a.tmps.getD 27 undef) w:=e27;refine zA rfl fun K hK=>?_;obtain ⟨g,e8,hg,r⟩:=e8;have hst:=r.storeAt (P:=Tryz.prog) (us:=jJ (RR).2) jH rfl (by intro u hu;simp only [jJ,List.mem_cons,List.not_mem_nil,or_false] at hu;rcases hu with rfl | rfl <;> rfl);have hos:=Only.setRow w g (jJ (RR).2).toArray;have hTo:TO w3.heap.size 38 w (w.setRow g (jJ (RR).2).toArray):=⟨[g],hos,fun z hz=>by rw [List.mem_singleton.1 hz];exact ⟨hg,Ty.row r⟩⟩
  exact zBv (x:=.tmp 8) (y:=.tmp 27) rfl e8 e27 hst (show K a _ from hK (a.tmps.getD 8 undef) _ ⟨rfl,g,e8,hg,r.setRow _⟩ ⟨hos.zCh hR.size (by intro x hx;obtain rfl:=List.mem_singleton.1 hx;exact hg),hTo⟩)
 intro f4 w4 hR4 hf hl4;dsimp only [qE];obtain ⟨l8,-⟩:=hl4;replace l8:zAp w3.heap.size 38 (jJ (RR).2) (f4 8) w4:=l8;obtain ⟨O,e8,hO,hrowO⟩:=l8;rw [e8];have o34:Only [] w3 w4:=Only.yX hR4;have hrowO':Row w4 O 38 [.int .i64 RR.2.code,.string (str RR.2.etag)]:=hrowO;have g0:=hrowO'.cell (i:=0) rfl;have g1:=hrowO'.cell (i:=1) rfl;have r4:=HR3.out.zB o34;have d0:=r4.cell (i:=0) rfl;have d1:=r4.cell (i:=1) rfl;have f0:=r4.free 0;have f1:=r4.free 1;have hst:=r4.set2 (.int .i64 RR.2.code) (.string (str RR.2.etag));have hso:=qB w4 (w0.heap.size+1) (.int .i64 RR.2.code) (.string (str RR.2.etag))
 have Hst:=Lib.hid hst;have HF:=Lib.hid ((HO3.out.zC o34).zY hso (by simp));clear hrowO hrowO' o34 r4 hst hso hR4 hRr hRt hRd hRs e8 Hfo Hap HLD;go_wp2_with fail;exact bodyPost_ret (zGJ rfl _ _ _ rfl Hst.out Tryz.underlying38 jH) rfl ⟨rfl,HF.out⟩
end
section
open Go.RowKit
set_option maxHeartbeats 16000000 in
theorem zEp (p:Option Addr) (n c:Nat) (ms:List zS) (w0:World) (hn:ms.length=n) (hnb:n * 184≤140737488355328) (hx:Rd w0 p (ms.flatMap zK)) (hms:∀ m∈ms,jS w0 m∧m.x.parts.length≤1000000) :
  Calls Tryz.prog 43 #[.slice p n c] w0 fun e w'=>∃ q k ms2,e=.returned (.slice q n k)∧ms2.map zS.x=ms.map zS.x∧vW zK 36 18 w0 w' q n k ms2∧∀ m∈ms2,xV w' w0.heap.size m:=by
 obtain ⟨wy,hwy⟩:∃ wy,wy=w0.alloc (.cells #[] 36):=⟨_,rfl⟩;have HI0:Hid (vW zK 36 18 w0 wy (some ⟨w0.heap.size,0,none⟩) 0 0 []∧([]:List zS).map zS.x=(ms.take 0).map zS.x∧∀ m∈([]:List zS),xV wy w0.heap.size m):=Lib.hid ⟨vW.start (Only.refl _ _) hwy,rfl,fun m hm=>by cases hm⟩;have Hn:=Lib.hid hn;have Hx:=Lib.hid hx;have HM:=Lib.hid hms;have Hwy:=Lib.hid hwy;clear hn hx hms hwy
 go_enter Tryz.func43,Tryz.ntmps43
 go_wp2_with fail;rw [← Hwy.out];clear Hwy
 go_loopw [3,9] (fun s a wl=>∃ (i k:Nat) (q:Option Addr) (fs:List zS),s=.slice q i k∧a=.int .i64 (i:Int)∧i≤n∧Hid (vW zK 36 18 w0 wl q i k fs∧fs.map zS.x=(ms.take i).map zS.x∧∀ m∈fs,xV wl w0.heap.size m)) (fun _ a _=>n - (intOf a).toNat)
 case atStart=>exact ⟨0,0,_,[],rfl,rfl,Nat.zero_le _,HI0⟩
 case round =>
  clear HI0;obtain ⟨i,k,q,fs,rfl,rfl,hi,HI⟩:=hrel;have HO:Hid (Only [] w0 wr):=Lib.hid HI.out.1.2.2
  by_cases hlt:i < n
  ·obtain ⟨m,hm⟩:∃ m,ms[i]?=some m:=⟨_,List.getElem?_eq_getElem (by rw [Hn.out];exact hlt)⟩;have hrd:=Hx.out.zB HO.out;have hne:ms.flatMap zK≠[]:=fun e'=>(by have:=flat_get zK 18 jB ms _ m 0 hm (by omega);rw [e'] at this;cases this);obtain ⟨bq,off,rfl,-⟩:=hrd.lt hne;have hld:=yL hrd hm;obtain ⟨np,hnp⟩:∃ k,m.x.parts.length=k:=⟨_,rfl⟩;have hlm:lmV m=.agg #[.int .i64 m.x.kind,.int .i64 m.x.id.node,.int .i64 m.x.id.boot,.int .i64 m.x.id.seq,.string (str m.x.bucket),.string (str m.x.key),.int .i64 m.x.upload.node,.int .i64 m.x.upload.boot,.int .i64 m.x.upload.seq,.int .i64 m.x.piece.blob.node,.int .i64 m.x.piece.blob.boot,.int .i64 m.x.piece.blob.seq,.int .i64 m.x.piece.size,.string (str m.x.piece.etag),.int .i64 m.x.part,.slice m.p np m.c,.int .i64 m.x.time,.int .i64 m.x.days]:=by unfold lmV;rw [hnp]
   unfold lmV at hld;rw [hnp] at hld;have Hld:=Lib.hid hld;clear hrd hne hld;have hmm:=List.mem_of_getElem? hm;have Hm:=Lib.hid (show jS wr m∧m.x.parts.length=np∧np≤1000000∧ms[i]?=some m from ⟨((HM.out m hmm).1).zB HO.out,hnp,by rw [← hnp];exact (HM.out m hmm).2,hm⟩);clear hmm hm hnp hlm
   go_upto_region 5 with (first | ((with_reducible show wpList _ _ _ _ _ _);refine jG (ty:=36) (x:=.tmp 11) rfl rfl rfl Hld.out ?_))
   obtain ⟨wx,hwx⟩:∃ wx,wx=wr.alloc (.cells #[.int .i64 m.x.kind,.int .i64 m.x.id.node,.int .i64 m.x.id.boot,.int .i64 m.x.id.seq,.string (str m.x.bucket),.string (str m.x.key),.int .i64 m.x.upload.node,.int .i64 m.x.upload.boot,.int .i64 m.x.upload.seq,.int .i64 m.x.piece.blob.node,.int .i64 m.x.piece.blob.boot,.int .i64 m.x.piece.blob.seq,.int .i64 m.x.piece.size,.string (str m.x.piece.etag),.int .i64 m.x.part,.slice m.p np m.c,.int .i64 m.x.time,.int .i64 m.x.days] 36):=⟨_,rfl⟩;have ox:Only [] wr wx:=(by rw [hwx];exact Only.alloc _ _);have rx:Row wx wr.heap.size 36 [.int .i64 m.x.kind,.int .i64 m.x.id.node,.int .i64 m.x.id.boot,.int .i64 m.x.id.seq,.string (str m.x.bucket),.string (str m.x.key),.int .i64 m.x.upload.node,.int .i64 m.x.upload.boot,.int .i64 m.x.upload.seq,.int .i64 m.x.piece.blob.node,.int .i64 m.x.piece.blob.boot,.int .i64 m.x.piece.blob.seq,.int .i64 m.x.piece.size,.string (str m.x.piece.etag),.int .i64 m.x.part,.slice m.p np m.c,.int .i64 m.x.time,.int .i64 m.x.days]:=by rw [hwx];exact Row.zV _ _ _ _ rfl
   rw [← hwx];obtain ⟨B,hB⟩:∃ B,wr.heap.size=B:=⟨_,rfl⟩;rw [hB] at rx ⊢;have on:=Only.alloc wx (.cells #[] 3);have rx1:=rx.zB on;have c15:=rx1.cell (i:=15) rfl;have hat:zAA wx m.p np m.c (jU m.x.parts):=(by have h9:=Hm.out.1.zB ox;unfold jS at h9;rw [Hm.out.2.1] at h9;exact h9);obtain ⟨p',c',w3,hr,hown,h2⟩:=xN (P:=Tryz.prog) (bytes:=8) (c:=m.c) (q:=m.p) (m:=np) (news:=jU m.x.parts) (t:=34) (ty:=34) (wx.alloc (.cells #[] 3)) Tryz.underlying34 Tryz.infoI64c rfl (by omega) (zN.new (w:=wx) (K:=1) (n:=0) [] (Nat.le_refl _) rfl (by omega)) (hat.1.zB on) (by unfold jU;rw [List.length_map,Hm.out.2.1,Nat.mul_one]) hat.2.1 (fun u hu=>by unfold jU at hu;obtain ⟨y,_,rfl⟩:=List.mem_map.1 hu;rfl) (by have:=Hm.out.2.2.1;omega) (by have:=Hm.out.2.2.1;omega) on.size
   rw [Nat.zero_add] at hr hown;have o3:Only [] wx w3:=on.zY h2 (by simp [blk])|>.drop (by simp);have Hr:=Lib.hid hr;have r3:=rx.zB o3;have HRx:=Lib.hid rx;have HB:=Lib.hid (show wr.heap.size=B∧B < wx.heap.size from ⟨hB,rx.lt⟩);have HOx:=Lib.hid ox;have f15:=r3.free 15;have d15:=r3.cell (i:=15) rfl;obtain ⟨w4,hw4⟩:∃ w4,w4=w3.setCell ⟨B,15,none⟩ (.slice p' np c'):=⟨_,rfl⟩;have r4:Row w4 B 36 [.int .i64 m.x.kind,.int .i64 m.x.id.node,.int .i64 m.x.id.boot,.int .i64 m.x.id.seq,.string (str m.x.bucket),.string (str m.x.key),.int .i64 m.x.upload.node,.int .i64 m.x.upload.boot,.int .i64 m.x.upload.seq,.int .i64 m.x.piece.blob.node,.int .i64 m.x.piece.blob.boot,.int .i64 m.x.piece.blob.seq,.int .i64 m.x.piece.size,.string (str m.x.piece.etag),.int .i64 m.x.part,.slice p' np c',.int .i64 m.x.time,.int .i64 m.x.days]:=by rw [hw4];exact r3.setCell 15 _
   have o4:Only [B] w3 w4:=(by rw [hw4];exact Only.setCell _ ⟨B,15,none⟩ _);have hB:=HB.out;have owr4:Only [] wr w4:=(HOx.out.zC o3).zY o4 (fun z hz=>by rw [List.mem_singleton.1 hz,hB.1];exact Nat.le_refl _)
   have hE:xV w4 w0.heap.size ⟨m.x,p',c'⟩:=by
    unfold xV;dsimp only;rw [Hm.out.2.1];exact (zN.jL hown o4 (fun z hz hm=>by have:=(ownIn hown z hz).1;rw [List.mem_singleton.1 hm] at this;omega)).weaken (Nat.le_trans HO.out.size HOx.out.size)
   have hold:∀ x∈fs,xV w4 w0.heap.size x:=fun x hx=>(HI.out.2.2 x hx).zB owr4;have hout:=HI.out.1.zB owr4;have H6:=Lib.hid (r4.yM (P:=Tryz.prog) Tryz.underlying36 vK);have Hw4:=Lib.hid hw4;obtain ⟨q',k',w5,Hap,hO,hO5⟩:=vW.pushB (P:=Tryz.prog) (t:=22) Tryz.underlying22 Tryz.infoCm rfl (by omega) jB vR ⟨m.x,p',c'⟩ hout (by have:=Nat.mul_le_mul_right 184 (show i+1≤n by omega);omega) (by omega);unfold zK at Hap;dsimp only at Hap;rw [Hm.out.2.1] at Hap;have hty:∀ z∈blk q,Ty w4 z 36:=zN.ty hout.1
   have HI2:Hid (vW zK 36 18 w0 w5 q' (i+1) k' (fs ++ [(⟨m.x,p',c'⟩:zS)])∧(fs ++ [(⟨m.x,p',c'⟩:zS)]).map zS.x=(ms.take (i+1)).map zS.x∧∀ x∈fs ++ [(⟨m.x,p',c'⟩:zS)],xV w5 w0.heap.size x):=Lib.hid ⟨hO,by rw [List.map_append,HI.out.2.1,List.take_add_one,Hm.out.2.2.2,List.map_append];rfl,fun x hx=>by
    rcases List.mem_append.1 hx with h | h
    ·exact (hold x h).zCZ hO5 hty
    ·rw [List.mem_singleton.1 h];exact hE.zCZ hO5 hty⟩
   clear hown o3 r3 hw4 r4 o4 hB owr4 hE hold hout hO hO5 hty HI HRx on rx rx1 hat hr h2 hwx ox
   go_upto_region 6 with (first | (at_builtin;refine qP (s:=.tmp 13) (x:=.tmp 15) rfl rfl rfl rfl Hr.out ?_))
   rw [← Hw4.out];clear Hw4 c15 f15 d15 Hr Hld
   go_wp2_with (first | ((with_reducible show wpList _ _ _ _ _ _);refine jG (ty:=36) (x:=.tmp 5) rfl rfl rfl H6.out ?_) | (at_builtin;refine qP (s:=.tmp 18) (x:=.tmp 20) rfl rfl rfl rfl Hap.out ?_))
   refine ⟨⟨i+1,k',q',fs ++ [(⟨m.x,p',c'⟩:zS)],rfl,by go_num,by omega,HI2⟩,?_⟩;show n - ((i:Int)+1).toNat < n - ((i:Int)).toNat;omega
  ·obtain rfl:i=n:=(by omega);have HE:Hid (fs.map zS.x=ms.map zS.x):=Lib.hid (by rw [HI.out.2.1,List.take_of_length_le (by rw [Hn.out];exact Nat.le_refl _)]);go_wp2_with fail
   go_ret
   exact ⟨q,k,fs,rfl,HE.out,HI.out.1,HI.out.2.2⟩
end
section
open Go.RowKit
set_option maxHeartbeats 16000000 in
theorem zFM (p:Option Addr) (n c:Nat) (ms:List zS) (w0:World) (hn:ms.length=n) (hnb:n * 184≤140737488355328) (hx:Rd w0 p (ms.flatMap zK)) (hms:zGe w0 ms) :
  Calls Tryz.prog 29 #[.slice p n c] w0 fun e w'=>∃ q m k fs,e=.returned (.tuple #[.slice q m k,.bool (decide (m≤400))])∧fs.length=m∧Rd w' q (fs.flatMap zK)∧(q=none→m=0∧k=0)∧m≤k∧k≤9223372036854775807∧zHF fs∧(∀ x∈fs,x∈ms)∧Only [] w0 w':=by
 obtain ⟨w2,hw2⟩:∃ w2,w2=w0.alloc (.cells #[] 36):=⟨_,rfl⟩;have HI0:Hid (vW zK 36 18 w0 w2 (some ⟨w0.heap.size,0,none⟩) 0 0 []∧zHF []∧∀ x∈([]:List zS),x∈ms):=Lib.hid ⟨vW.start (Only.refl _ _) hw2,⟨fun m hm=>by cases hm⟩,fun x hx=>by cases hx⟩;have Hw:=Lib.hid hw2;have Hn:=Lib.hid hn;have Hx:=Lib.hid hx;have HM:=Lib.hid hms;clear hn hx hms hw2
 go_enter Tryz.func29,Tryz.ntmps29
 go_upto_region 2 with (fail)
 rw [← Hw.out];clear Hw;go_wp2_with fail
 go_loopw [4,10] (fun a b wl=>∃ (i m k:Nat) (q:Option Addr) (fs:List zS),a=.slice q m k∧b=.int .i64 (i:Int)∧i≤n∧m≤i∧Hid (vW zK 36 18 w0 wl q m k fs∧zHF fs∧∀ x∈fs,x∈ms)) (fun _ b _=>n - (intOf b).toNat)
 case atStart=>exact ⟨0,0,0,_,[],rfl,rfl,Nat.zero_le _,Nat.le_refl _,HI0⟩
 case round =>
  clear HI0;obtain ⟨i,nm,k,q,fs,rfl,rfl,hi,hmi,HI⟩:=hrel
  by_cases hlt:i < n
  ·obtain ⟨m,hm⟩:∃ m,ms[i]?=some m:=⟨_,List.getElem?_eq_getElem (by rw [Hn.out];exact hlt)⟩;have hmm:=List.mem_of_getElem? hm;have hOwr:Only [] w0 wr:=HI.out.1.2.2;have hrd:=Hx.out.zB hOwr;have hne:ms.flatMap zK≠[]:=fun e'=>(by have:=flat_get zK 18 jB ms _ m 0 hm (by omega);rw [e'] at this;cases this);obtain ⟨bq,off,rfl,-⟩:=hrd.lt hne;have hld:=yL hrd hm;have Hld:=Lib.hid hld;have HmA:=Lib.hid ((HM.out.ca m hmm).zB hOwr);have HmS:=Lib.hid (HM.out.sh m hmm);have Hmm:=Lib.hid hmm;obtain ⟨np,hnp⟩:∃ np,m.x.parts.length=np:=⟨_,rfl⟩
   have Hnp:=Lib.hid hnp;clear hne hrd hld hm hmm hOwr hnp;unfold lmV at Hld;rw [Hnp.out] at Hld
   go_upto_region 5 with (first | ((with_reducible show wpList _ _ _ _ _ _);refine jG (ty:=36) (x:=.tmp 12) rfl rfl rfl Hld.out ?_))
   obtain ⟨wx,hwx⟩:∃ wx,wx=wr.alloc (.cells #[.int .i64 m.x.kind,.int .i64 m.x.id.node,.int .i64 m.x.id.boot,.int .i64 m.x.id.seq,.string (str m.x.bucket),.string (str m.x.key),.int .i64 m.x.upload.node,.int .i64 m.x.upload.boot,.int .i64 m.x.upload.seq,.int .i64 m.x.piece.blob.node,.int .i64 m.x.piece.blob.boot,.int .i64 m.x.piece.blob.seq,.int .i64 m.x.piece.size,.string (str m.x.piece.etag),.int .i64 m.x.part,.slice m.p np m.c,.int .i64 m.x.time,.int .i64 m.x.days] 36):=⟨_,rfl⟩;have ox:Only [] wr wx:=(by rw [hwx];exact Only.alloc _ _);have rx:Row wx wr.heap.size 36 [.int .i64 m.x.kind,.int .i64 m.x.id.node,.int .i64 m.x.id.boot,.int .i64 m.x.id.seq,.string (str m.x.bucket),.string (str m.x.key),.int .i64 m.x.upload.node,.int .i64 m.x.upload.boot,.int .i64 m.x.upload.seq,.int .i64 m.x.piece.blob.node,.int .i64 m.x.piece.blob.boot,.int .i64 m.x.piece.blob.seq,.int .i64 m.x.piece.size,.string (str m.x.piece.etag),.int .i64 m.x.part,.slice m.p np m.c,.int .i64 m.x.time,.int .i64 m.x.days]:=by rw [hwx];exact Row.zV _ _ _ _ rfl
   rw [← hwx];obtain ⟨B,hB⟩:∃ B,wr.heap.size=B:=⟨_,rfl⟩;rw [hB] at rx ⊢;have hinf:=zEc m wx (HmA.out.zB ox) HmS.out;have h6:=rx.yM (P:=Tryz.prog) Tryz.underlying36 vK;unfold lmV at hinf;rw [Hnp.out] at hinf;have H6:=Lib.hid h6;have HRx:=Lib.hid rx;have HOx:=Lib.hid ox;clear hwx h6 rx ox hB Hld
   go_wp2_with (first | ((with_reducible show wpList _ _ _ _ _ _);refine jG (ty:=36) (x:=.tmp 6) rfl rfl rfl H6.out ?_))
   (with_reducible refine hinf.mono ?_);clear hinf H6;rintro e w3 ⟨v,rfl,hv,o3⟩;have HO3:=Lib.hid (HOx.out.zC o3);have HR3:=Lib.hid (HRx.out.zB o3);have Hv:=Lib.hid hv;clear o3 hv HRx HOx
   cases v with
   | false =>
    have HI2:Hid (vW zK 36 18 w0 w3 q nm k fs∧zHF fs∧∀ x∈fs,x∈ms):=Lib.hid ⟨HI.out.1.zB HO3.out,HI.out.2⟩;clear HI HR3 HO3 Hv;go_wp2_with fail;refine ⟨⟨i+1,nm,k,q,fs,rfl,by go_num,by omega,by omega,HI2⟩,?_⟩;show n - ((i:Int)+1).toNat < n - ((i:Int)).toNat;omega
   | true =>
    have h6:=HR3.out.yM (P:=Tryz.prog) Tryz.underlying36 vK;have H6:=Lib.hid h6;obtain ⟨q',k',w5,Hap,hO,-⟩:=vW.pushB (P:=Tryz.prog) (t:=22) Tryz.underlying22 Tryz.infoCm rfl (by omega) jB vR m (HI.out.1.zB HO3.out) (by have:=Nat.mul_le_mul_right 184 (show nm+1≤n by omega);omega) (by omega);unfold zK at Hap;rw [Hnp.out] at Hap
    have HI2:Hid (vW zK 36 18 w0 w5 q' (nm+1) k' (fs ++ [m])∧zHF (fs ++ [m])∧∀ x∈fs ++ [m],x∈ms):=Lib.hid ⟨hO,⟨fun x hx=>by
     rcases List.mem_append.1 hx with h | h
     ·exact HI.out.2.1.ok x h
     ·rw [List.mem_singleton.1 h,Hnp.out];exact Hv.out rfl⟩,fun x hx=>by
     rcases List.mem_append.1 hx with h | h
     ·exact HI.out.2.2 x h
     ·rw [List.mem_singleton.1 h];exact Hmm.out⟩
    clear h6 hO HI HR3 HO3 Hv
    go_wp2_with (first | ((with_reducible show wpList _ _ _ _ _ _);refine jG (ty:=36) (x:=.tmp 6) rfl rfl rfl H6.out ?_) | (at_builtin;refine qP (s:=.tmp 16) (x:=.tmp 18) rfl rfl rfl rfl Hap.out ?_))
    refine ⟨⟨i+1,nm+1,k',q',fs ++ [m],rfl,by go_num,by omega,by omega,HI2⟩,?_⟩;show n - ((i:Int)+1).toNat < n - ((i:Int)).toNat;omega
  ·obtain rfl:i=n:=(by omega);have hq0:=HI.out.1.rd.2.1;have HE:Hid (fs.length=nm∧Rd wr q (fs.flatMap zK)∧(q=none→nm=0∧k=0)∧nm≤k∧k≤9223372036854775807∧zHF fs∧(∀ x∈fs,x∈ms)∧Only [] w0 wr):=Lib.hid ⟨HI.out.1.2.1,HI.out.1.rd.1,hq0,HI.out.1.rd.2.2,HI.out.1.1.view.2.2.2.2.2.1,HI.out.2.1,HI.out.2.2,HI.out.1.2.2⟩
   have hdec:decide ((nm:Int)≤400)=decide (nm≤400):=by
    by_cases h:nm≤400
    ·rw [decide_eq_true h,decide_eq_true (show (nm:Int)≤400 by omega)]
    ·rw [decide_eq_false h,decide_eq_false (show ¬ (nm:Int)≤400 by omega)]
   have Hdec:=Lib.hid hdec;clear HI hq0 hdec;go_wp2_with fail
   go_ret2
   exact ⟨q,nm,k,fs,by rw [← Hdec.out];rfl,HE.out⟩
end
end Go.Proofs.YtfeglnpmpgipiaaGreatDoor
