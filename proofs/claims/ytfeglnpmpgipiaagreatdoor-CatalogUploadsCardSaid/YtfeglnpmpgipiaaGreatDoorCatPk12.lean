/- CatPk, part 12: CopyBkW, CmdMem, PiecesW, FindPtW, SameObW, SameUpW. -/
import Derived.Test.YtfeglnpmpgipiaaGreatDoorCatPk01
import Derived.Test.YtfeglnpmpgipiaaGreatDoorCatPk06
import Derived.Test.YtfeglnpmpgipiaaGreatDoorCatPk07
import Derived.Test.YtfeglnpmpgipiaaGreatDoorCatPk08
import Derived.Test.YtfeglnpmpgipiaaGreatDoorCatPk09
import Derived.Test.YtfeglnpmpgipiaaGreatDoorCatPk11
import Derived.RangeFuncNested
import Derived.RangeFuncBound
import Derived.RangeFuncCalls
import Derived.RangeFuncLeaves
import Derived.TacticsInMore
import Derived.OwnWalkIn
import Derived.LoopNIn
import Derived.LoopIn
import Derived.Shelf.Abstract
set_option linter.unusedVariables false
set_option maxRecDepth 100000
set_option linter.unusedSimpArgs false
namespace Go.Proofs.YtfeglnpmpgipiaaGreatDoor
section
open Go.RowKit
def PO (x:LObj) (lo:Nat):LObj→World→Prop:=fun y w=>y.o=x.o∧ObOwn w lo y
theorem PO.st {x:LObj} {lo:Nat}:∀ y a b (S:List Nat),PO x lo y a→Only S a b→(∀ s∈S,s < lo)→PO x lo y b:=fun y a b S h ho hS =>
 ⟨h.1,OwnK.onlyB h.2 ho (fun z hz hm=>by have:=(ownIn h.2 z hz).1;have:=hS z hm;omega)⟩
theorem PO.weaken {x y:LObj} {lo lo':Nat} {w:World} (h:PO x lo' y w) (hl:lo≤lo'):PO x lo y w:=⟨h.1,OwnK.weaken h.2 hl⟩
theorem PO.lt {x y:LObj} {lo:Nat} {w:World} (h:PO x lo y w):∀ z∈blk y.q,z < w.heap.size:=fun z hz=>(ownIn h.2 z hz).2
def PU (x:LUpl) (lo:Nat):LUpl→World→Prop:=fun y w=>y.u=x.u∧UpOwn w lo y
theorem PU.st {x:LUpl} {lo:Nat}:∀ y a b (S:List Nat),PU x lo y a→Only S a b→(∀ s∈S,s < lo)→PU x lo y b:=fun y a b S h ho hS =>
 ⟨h.1,OwnK.onlyB h.2 ho (fun z hz hm=>by have:=(ownIn h.2 z hz).1;have:=hS z hm;omega)⟩
theorem PU.weaken {x y:LUpl} {lo lo':Nat} {w:World} (h:PU x lo' y w) (hl:lo≤lo'):PU x lo y w:=⟨h.1,OwnK.weaken h.2 hl⟩
theorem PU.lt {x y:LUpl} {lo:Nat} {w:World} (h:PU x lo y w):∀ z∈blk y.q,z < w.heap.size:=fun z hz=>(ownIn h.2 z hz).2
def PB (x:LBk) (lo:Nat):LBk→World→Prop:=fun y w=>y.b=x.b∧BkOwn w lo y
theorem PB.st {x:LBk} {lo:Nat}:∀ y a b (S:List Nat),PB x lo y a→Only S a b→(∀ s∈S,s < lo)→PB x lo y b:=fun y a b S h ho hS =>
 ⟨h.1,h.2.only ho (fun z hz hm=>by have:=(h.2.lo z hz).1;have:=hS z hm;omega)⟩
theorem PB.weaken {x y:LBk} {lo lo':Nat} {w:World} (h:PB x lo' y w) (hl:lo≤lo'):PB x lo y w:=⟨h.1,h.2.weaken hl⟩
theorem PB.lt {x y:LBk} {lo:Nat} {w:World} (h:PB x lo y w):∀ z∈y.fp,z < w.heap.size:=fun z hz=>(h.2.lo z hz).2
theorem nd_push {p p' pu:Option Addr} {L q:List Nat} {lo:Nat} (h:(blk p ++ (blk pu ++ L)).Nodup) (hold:∀ z∈blk p ++ (blk pu ++ L),z < lo) (hp':∀ z∈blk p',z∈blk p∨(lo≤z∧z ∉ q)) (hq:∀ z∈q,lo≤z) (hqn:q.Nodup):(blk p' ++ (blk pu ++ (L ++ q))).Nodup:=by
 obtain ⟨h1,h2,h3⟩:=List.nodup_append.1 h;obtain ⟨h4,h5,h6⟩:=List.nodup_append.1 h2;refine List.nodup_append.2 ⟨blk_nodup _,List.nodup_append.2 ⟨h4,List.nodup_append.2 ⟨h5,hqn,fun a ha b hb e=>?_⟩,fun a ha b hb e=>?_⟩,fun a ha b hb e=>?_⟩
 ·subst e;have:=hold a (by simp [ha]);have:=hq a hb;omega
 ·subst e
  rcases List.mem_append.1 hb with hb | hb
  ·exact h6 a ha a hb rfl
  ·have:=hold a (by simp [ha]);have:=hq a hb;omega
 ·subst e
  rcases hp' a ha with h | ⟨h7,h8⟩
  ·rcases List.mem_append.1 hb with hb | hb
   ·exact h3 a h a (by simp [hb]) rfl
   ·rcases List.mem_append.1 hb with hb | hb
    ·exact h3 a h a (by simp [hb]) rfl
    ·have:=hold a (by simp [h]);have:=hq a hb;omega
  ·rcases List.mem_append.1 hb with hb | hb
   ·have:=hold a (by simp [hb]);omega
   ·rcases List.mem_append.1 hb with hb | hb
    ·have:=hold a (by simp [hb]);omega
    ·exact h8 hb
theorem nd_push2 {p pu pu':Option Addr} {L q:List Nat} {lo:Nat} (h:(blk p ++ (blk pu ++ L)).Nodup) (hold:∀ z∈blk p ++ (blk pu ++ L),z < lo) (hp':∀ z∈blk pu',z∈blk pu∨(lo≤z∧z ∉ q)) (hq:∀ z∈q,lo≤z) (hqn:q.Nodup):(blk p ++ (blk pu' ++ (L ++ q))).Nodup:=by
 have hsw:∀ {a b:List Nat} {M:List Nat},(a ++ (b ++ M)).Nodup→(b ++ (a ++ M)).Nodup:=fun {a b M} h=>by
  rw [← List.append_assoc] at h ⊢;exact (List.Perm.append_right M List.perm_append_comm).nodup_iff.1 h
 exact hsw (nd_push (hsw h) (fun z hz=>hold z (by simp only [List.mem_append] at hz ⊢;rcases hz with h | h | h <;> simp [h])) hp' hq hqn)
structure CbI (w0:World) (c:LBk) (w:World):Prop where
 rx:Row w w0.heap.size 60 (lbCells c)
 rr:Row w (w0.heap.size+1) 60 [.string (str []),.int .i64 0,.int .i64 0,.slice none 0 0,.slice none 0 0]
 own:BkOwn w (w0.heap.size+1+1) c
 only:Only [] w0 w
theorem CbI.step {w0 w w':World} {c:LBk} (h:CbI w0 c w) (ho:Only [] w w'):CbI w0 c w':=⟨h.rx.only0 ho,h.rr.only0 ho,h.own.only0 ho,h.only.trans0 ho⟩
theorem CbI.pushO {w0 wt w':World} {c:LBk} (h:CbI w0 c wt) (hz:c.us=[]) {y:LObj} {p:Option Addr} {k:Nat} (hR:Only (w0.heap.size :: blk c.po) wt w') (hy:ObOwn w' wt.heap.size y) (hown:OwnK w' (w0.heap.size+1+1) 48 5 (.slice p (c.os.length+1) k) (c.os.length+1) ((c.os ++ [y]).flatMap loCells)) (hb:∀ z∈blk p,z∈blk c.po∨(wt.heap.size≤z∧z ∉ blk y.q))
  (hr:Row w' w0.heap.size 60 [.string (str c.name),.int .i64 c.time,.int .i64 c.days,.slice p (c.os.length+1) k,.slice c.pu c.us.length c.cu]):CbI w0 { c with os:=c.os ++ [y],po:=p,co:=k } w':=by
 have hlen:(c.os ++ [y]).length=c.os.length+1:=(by simp);have hlo:=h.own.lo
 have hfp:∀ z,z∈c.fp→z ∉ blk c.po→z ∉ w0.heap.size :: blk c.po:=fun z hz h1 hm=>by
  rcases List.mem_cons.1 hm with rfl | hm
  ·have:=(hlo _ hz).1;omega
  ·exact h1 hm
 have hnd:=h.own.nd;unfold LBk.fp at hnd hfp;obtain ⟨n1,n2,n3⟩:=List.nodup_append.1 hnd;refine ⟨by unfold lbCells;rw [hlen];exact hr,h.rr.only hR (fun hm=>?_),⟨by rw [hlen];exact hown,h.own.su.onlyB hR (fun z hz=>hfp z (by simp [hz]) (fun hm=>n3 z hm z (by simp [hz]) rfl)),fun x hx=>?_,fun x hx=>(by rw [hz] at hx;cases hx),?_⟩,h.only.transN hR (fun t ht=>?_)⟩
 ·rcases List.mem_cons.1 hm with e | hm
  ·omega
  ·have:=(ownIn h.own.so _ hm).1;omega
 ·rcases List.mem_append.1 hx with hx | hx
  ·exact OwnK.onlyB (h.own.ob x hx) hR (fun z hz=>hfp z (by simp only [List.mem_append,List.mem_flatMap];exact .inr (.inr (.inl ⟨x,hx,hz⟩))) (fun hm=>n3 z hm z (by simp only [List.mem_append,List.mem_flatMap];exact .inr (.inl ⟨x,hx,hz⟩)) rfl))
  ·rw [List.mem_singleton.1 hx];have:=h.only.size;have h2:=h.rr.lt;exact OwnK.weaken hy (by omega)
 ·unfold LBk.fp;have hu:c.us.flatMap (fun x=>blk x.q)=[]:=(by rw [hz];rfl);rw [hu,List.append_nil] at hnd;show (blk p ++ (blk c.pu ++ ((c.os ++ [y]).flatMap (fun x=>blk x.q) ++ c.us.flatMap (fun x=>blk x.q)))).Nodup;rw [hu,List.append_nil,List.flatMap_append];have:=nd_push (lo:=wt.heap.size) (q:=blk y.q) hnd (fun z hz=>(hlo z (by unfold LBk.fp;rw [hu,List.append_nil];exact hz)).2) hb (fun z hz=>(ownIn hy z hz).1) (blk_nodup _)
  simpa using this
 ·rcases List.mem_cons.1 ht with rfl | ht
  ·omega
  ·have:=(ownIn h.own.so _ ht).1;omega
theorem CbI.pushU {w0 wt w':World} {c:LBk} (h:CbI w0 c wt) {y:LUpl} {p:Option Addr} {k:Nat} (hR:Only (w0.heap.size :: blk c.pu) wt w') (hy:UpOwn w' wt.heap.size y) (hown:OwnK w' (w0.heap.size+1+1) 54 5 (.slice p (c.us.length+1) k) (c.us.length+1) ((c.us ++ [y]).flatMap luCells)) (hb:∀ z∈blk p,z∈blk c.pu∨(wt.heap.size≤z∧z ∉ blk y.q))
  (hr:Row w' w0.heap.size 60 [.string (str c.name),.int .i64 c.time,.int .i64 c.days,.slice c.po c.os.length c.co,.slice p (c.us.length+1) k]):CbI w0 { c with us:=c.us ++ [y],pu:=p,cu:=k } w':=by
 have hlen:(c.us ++ [y]).length=c.us.length+1:=(by simp);have hlo:=h.own.lo
 have hfp:∀ z,z∈c.fp→z ∉ blk c.pu→z ∉ w0.heap.size :: blk c.pu:=fun z hz h1 hm=>by
  rcases List.mem_cons.1 hm with rfl | hm
  ·have:=(hlo _ hz).1;omega
  ·exact h1 hm
 have hnd:=h.own.nd;unfold LBk.fp at hnd hfp;obtain ⟨n1,n2,n3⟩:=List.nodup_append.1 hnd;obtain ⟨n4,n5,n6⟩:=List.nodup_append.1 n2;refine ⟨by unfold lbCells;rw [hlen];exact hr,h.rr.only hR (fun hm=>?_),⟨h.own.so.onlyB hR (fun z hz=>hfp z (by simp [hz]) (fun hm=>n3 z hz z (by simp [hm]) rfl)),by rw [hlen];exact hown,fun x hx=>?_,fun x hx=>?_,?_⟩,h.only.transN hR (fun t ht=>?_)⟩
 ·rcases List.mem_cons.1 hm with e | hm
  ·omega
  ·have:=(ownIn h.own.su _ hm).1;omega
 ·exact OwnK.onlyB (h.own.ob x hx) hR (fun z hz=>hfp z (by simp only [List.mem_append,List.mem_flatMap];exact .inr (.inr (.inl ⟨x,hx,hz⟩))) (fun hm=>n6 z hm z (by simp only [List.mem_append,List.mem_flatMap];exact .inl ⟨x,hx,hz⟩) rfl))
 ·rcases List.mem_append.1 hx with hx | hx
  ·exact OwnK.onlyB (h.own.up x hx) hR (fun z hz=>hfp z (by simp only [List.mem_append,List.mem_flatMap];exact .inr (.inr (.inr ⟨x,hx,hz⟩))) (fun hm=>n6 z hm z (by simp only [List.mem_append,List.mem_flatMap];exact .inr ⟨x,hx,hz⟩) rfl))
  ·rw [List.mem_singleton.1 hx];have:=h.only.size;have h2:=h.rr.lt;exact OwnK.weaken hy (by omega)
 ·unfold LBk.fp;show (blk c.po ++ (blk p ++ (c.os.flatMap (fun x=>blk x.q) ++ (c.us ++ [y]).flatMap (fun x=>blk x.q)))).Nodup;rw [List.flatMap_append,← List.append_assoc (c.os.flatMap _)];have:=nd_push2 (lo:=wt.heap.size) (q:=blk y.q) hnd (fun z hz=>(hlo z (by unfold LBk.fp;exact hz)).2) hb (fun z hz=>(ownIn hy z hz).1) (blk_nodup _)
  simpa using this
 ·rcases List.mem_cons.1 ht with rfl | ht
  ·omega
  ·have:=(ownIn h.own.su _ ht).1;omega
theorem lbInfo:(Tryz.prog.info? 60).map (·.size)=some 5:=by kernel_rfl
set_option maxHeartbeats 16000000 in
theorem copyBucket_any (b:LBk) (w0:World) (hA:BkAt w0 b) (h1:b.os.length≤100000) (h2:b.us.length≤100000) (h3:∀ x∈b.os,x.o.pcs.length≤100000) (h4:∀ x∈b.us,x.u.parts.length≤100000) :
  Calls Tryz.prog 72 #[lbV b] w0 fun e w'=>∃ c:LBk,e=.returned (lbV c)∧c.b=b.b∧BkOwn w' w0.heap.size c∧Only [] w0 w':=by
 obtain ⟨n,hn⟩:∃ n,b.os.length=n:=⟨_,rfl⟩;obtain ⟨nu,hnu⟩:∃ nu,b.us.length=nu:=⟨_,rfl⟩;obtain ⟨w1,hw1⟩:∃ w1,w1=w0.alloc (.cells #[.string (str b.name),.int .i64 b.time,.int .i64 b.days,.slice b.po n b.co,.slice b.pu nu b.cu] 60):=⟨_,rfl⟩;obtain ⟨w2,hw2⟩:∃ w2,w2=w1.alloc (.cells #[.string ⟨#[]⟩,.int .i64 0,.int .i64 0,.slice none 0 0,.slice none 0 0] 60):=⟨_,rfl⟩;have o1:Only [] w0 w1:=(by rw [hw1];exact Only.alloc _ _);have o2:Only [] w1 w2:=(by rw [hw2];exact Only.alloc _ _);have s1:w1.heap.size=w0.heap.size+1:=by rw [hw1];simp
 have s2:w2.heap.size=w0.heap.size+1+1:=(by rw [hw2];simp [s1]);have r1:Row w2 w0.heap.size 60 [.string (str b.name),.int .i64 b.time,.int .i64 b.days,.slice b.po n b.co,.slice b.pu nu b.cu]:=(show Row w1 w0.heap.size 60 [.string (str b.name),.int .i64 b.time,.int .i64 b.days,.slice b.po n b.co,.slice b.pu nu b.cu] by rw [hw1];exact Row.newOf _ _ _ _ rfl).only0 o2;have r2:Row w2 (w0.heap.size+1) 60 [.string (str []),.int .i64 0,.int .i64 0,.slice none 0 0,.slice none 0 0]:=(by rw [← s1,hw2];exact Row.newOf _ _ _ _ rfl);have c3:=r1.cell (i:=3) rfl;have c4:=r1.cell (i:=4) rfl
 have HA:=Lib.hid hA;have HO:=Lib.hid (o1.trans0 o2);have HR1:=Lib.hid r1;have HR2:=Lib.hid r2;have Hw1:=Lib.hid hw1;have Hw2:=Lib.hid hw2;have Hs2:=Lib.hid s2;have Hn:=Lib.hid hn;have Hnu:=Lib.hid hnu;have H3:=Lib.hid h3;have H4:=Lib.hid h4;have hn5:n≤100000:=(by omega);have hu5:nu≤100000:=(by omega);unfold lbV;rw [hn,hnu];clear o1 o2 s1 s2 r1 r2 hw1 hw2 hA hn hnu h1 h2 h3 h4
 go_enter Tryz.func72,Tryz.ntmps72
 go_upto_region 1 with (fail)
 rw [← Hw1.out,← Hw2.out];clear Hw1 Hw2
 go_quiet (fail)
 obtain ⟨wq,hwq⟩:∃ wq,wq=w2.drewN nq:=⟨_,rfl⟩;have oq:Only [] w2 wq:=(by rw [hwq];exact Only.drewN _ _);have rq:=HR1.out.only0 oq;have f3:=rq.free 3;have f4:=rq.free 4;have q3:=rq.cell (i:=3) rfl;have q4:=rq.cell (i:=4) rfl;obtain ⟨w3,hw3⟩:∃ w3,w3=(wq.setCell ⟨w0.heap.size,3,none⟩ (.slice none 0 0)).setCell ⟨w0.heap.size,4,none⟩ (.slice none 0 0):=⟨_,rfl⟩;have r3:Row w3 w0.heap.size 60 [.string (str b.name),.int .i64 b.time,.int .i64 b.days,.slice none 0 0,.slice none 0 0]:=(by rw [hw3];exact (rq.setCell 3 _).setCell 4 _);have o3:Only [w0.heap.size] wq w3:=by rw [hw3];exact (Only.setCell wq ⟨_,3,none⟩ _).trans (Only.setCell _ ⟨_,4,none⟩ _) (fun i hi _=>hi)
 have hwz:(wq.setCell ⟨w0.heap.size,3,none⟩ (.slice none 0 0)).cell? ⟨w0.heap.size,4,none⟩=some (.slice b.pu nu b.cu):=(rq.setCell 3 _).cell (i:=4) rfl;have hwf:(wq.setCell ⟨w0.heap.size,3,none⟩ (.slice none 0 0)).frozen? ⟨w0.heap.size,4,none⟩=false:=(rq.setCell 3 _).free 4;have hI0:CbI w0 ⟨b.name,b.time,b.days,[],none,0,[],none,0⟩ w3:=⟨r3,(HR2.out.only0 oq).only o3 (by simp),⟨OwnK.nil _ _ _ _,OwnK.nil _ _ _ _,by simp,by simp,by simp [LBk.fp,blk]⟩,(HO.out.trans0 oq).transN o3 (by simp)⟩;have HI0:=Lib.hid hI0;have Hw3:=Lib.hid hw3;rw [← hwq];clear hwq oq rq r3 o3 hI0 hw3 c3 c4
 go_upto_region 3 with (fail)
 rw [← Hw3.out];clear Hw3 f3 f4 q3 q4 hwz hwf;go_wp2_with fail
 go_loopw [17] (fun s17 wr=>∃ i:Nat,s17=.int .i64 (i:Int)∧i≤n∧Hid (∃ c:LBk,CbI w0 c wr∧c.name=b.name∧c.time=b.time∧c.days=b.days∧c.os.map LObj.o=(b.os.take i).map LObj.o∧c.us=[]∧c.pu=none∧c.cu=0)) (fun s17 _=>n - (intOf s17).toNat)
 case atStart=>exact ⟨0,rfl,Nat.zero_le _,Lib.hid ⟨_,HI0.out,rfl,rfl,rfl,rfl,rfl,rfl,rfl⟩⟩
 case round =>
  clear HI0;obtain ⟨i,rfl,hi,HC⟩:=hrel
  by_cases hlt:i < n
  ·obtain ⟨c,hI,e1,e2,e3,e4,e5,e6,e7⟩:=HC.out;obtain ⟨x,hxx⟩:∃ x,b.os[i]?=some x:=⟨_,List.getElem?_eq_getElem (by rw [Hn.out];exact hlt)⟩;have hrd:=HA.out.so.1.only0 hI.only;have hne:b.os.flatMap loCells≠[]:=fun e'=>(by have:=flat_get loCells 5 loCells_len b.os i x 0 hxx (by omega);rw [e'] at this;cases this);obtain ⟨bo,off,hpo,-⟩:=hrd.lt hne;rw [hpo] at hrd;have x0:=rd_elem loCells_len hrd hxx (r:=0) rfl;have x1:=rd_elem loCells_len hrd hxx (r:=1) rfl;have x2:=rd_elem loCells_len hrd hxx (r:=2) rfl;have x3:=rd_elem loCells_len hrd hxx (r:=3) rfl
   have x4:=rd_elem loCells_len hrd hxx (r:=4) rfl;rw [Addr.add_lit,← Nat.add_assoc] at x0 x1 x2 x3 x4;rw [Nat.add_zero] at x0;obtain ⟨wt,hwt⟩:∃ wt,wt=wr.alloc (.cells #[.string (str x.o.key),.int .i64 x.o.size,.string (str x.o.etag),.int .i64 x.o.time,.slice x.q x.o.pcs.length x.c] 48):=⟨_,rfl⟩;have ot:Only [] wr wt:=(by rw [hwt];exact Only.alloc _ _);have rt:Row wt wr.heap.size 48 (loCells x):=(by rw [hwt];exact Row.newOf _ _ _ _ rfl);have HI:=Lib.hid (hI.step ot);have Z0:=Lib.hid (rt.cell (i:=0) rfl);have Z1:=Lib.hid (rt.cell (i:=1) rfl);have Z2:=Lib.hid (rt.cell (i:=2) rfl)
   have Z3:=Lib.hid (rt.cell (i:=3) rfl);have Z4:=Lib.hid (rt.cell (i:=4) rfl);have Hxm:=Lib.hid (List.mem_of_getElem? hxx);have Htk:Hid ((b.os.take (i+1)).map LObj.o=(b.os.take i).map LObj.o ++ [x.o]):=Lib.hid (by rw [List.take_add_one,hxx,List.map_append];rfl);have HE:Hid (c.name=b.name∧c.time=b.time∧c.days=b.days∧c.os.map LObj.o=(b.os.take i).map LObj.o∧c.us=[]∧c.pu=none∧c.cu=0):=Lib.hid ⟨e1,e2,e3,e4,e5,e6,e7⟩
   have hnZ:wr.heap.size ∉ w0.heap.size :: blk c.po:=fun hm=>by
    rcases List.mem_cons.1 hm with e | hm
    ·have:=hI.rx.lt;omega
    ·have:=(ownIn hI.own.so _ hm).2;omega
   have Hwt:=Lib.hid hwt;clear hI hrd hne hxx ot rt hwt HC e1 e2 e3 e4 e5 e6 e7
   go_upto_region 6 with (fail)
   rw [← Hwt.out];clear Hwt x0 x1 x2 x3 x4;obtain ⟨B,hBe⟩:∃ B,B=w0.heap.size+1+1:=⟨_,rfl⟩;obtain ⟨lo,hlo⟩:∃ lo,lo=wt.heap.size:=⟨_,rfl⟩;have HX:Hid (Row wt w0.heap.size 60 (lbCells c)):=Lib.hid HI.out.rx;have Hown:Hid (OwnK wt B 48 5 (.slice c.po c.os.length c.co) c.os.length (c.os.flatMap loCells)):=Lib.hid (by rw [hBe];exact HI.out.own.so)
   have Hnb:Hid (c.os.length≤100000):=Lib.hid (by
    have h:=congrArg List.length HE.out.2.2.2.1;rw [List.length_map,List.length_map,List.length_take] at h
    omega)
   have HB:Hid (B≤wt.heap.size):=Lib.hid (by rw [hBe];have:=HI.out.rr.lt;omega);have hlt5:∀ s∈blk c.po,s < lo:=fun s hs=>(by rw [hlo];exact (ownIn Hown.out s hs).2);have hlt7:∀ s∈[w0.heap.size],s < lo:=fun s hs=>(by rw [List.mem_singleton.1 hs,hlo];exact HX.out.lt);have hXp:w0.heap.size ∉ blk c.po:=fun hm=>by have:=(ownIn Hown.out _ hm).1;rw [hBe] at this;omega
   have HC:Hid (∀ w,Only (w0.heap.size :: blk c.po) wt w→Calls Tryz.prog 68 #[loV x] w fun e w'=>∃ y,e=.returned (loV y)∧PO x w.heap.size y w'∧Only [] w w'):=Lib.hid (fun w ho=>by
    have h0:Only [] w0 w:=HI.out.only.transN ho (fun t ht=>by
     rcases List.mem_cons.1 ht with rfl | ht
     ·exact Nat.le_refl _
     ·have:=(ownIn Hown.out _ ht).1;rw [hBe] at this;omega)
    refine (copyObject_any x w ((HA.out.ob x Hxm.out).only0 h0) (by have:=H3.out x Hxm.out;omega)).mono ?_;rintro e w' ⟨q',c',rfl,h5,h6⟩
    exact ⟨⟨x.o,q',c'⟩,rfl,⟨rfl,h5⟩,h6⟩)
   have Hlo:=Lib.hid hlo;have hRr:∀ a,Only (w0.heap.size :: blk c.po) a a:=fun a=>Only.refl _ _;have hRt:∀ a b e,Only (w0.heap.size :: blk c.po) a b→Only (w0.heap.size :: blk c.po) b e→Only (w0.heap.size :: blk c.po) a e:=fun a b e h h2=>h.trans h2 (fun i hi _=>hi);have hRd:Only (w0.heap.size :: blk c.po) wt wt.drew:=(Only.drew _).mono (by simp);have hC0:∀ i∈[5,7],(fun (i:Nat) (a:World)=>(i=5→Only [] wt a)∧(i=7→Row a w0.heap.size 60 (lbCells c))) i wt.drew:=fun _ _=>⟨fun _=>Only.drew _,fun _=>HX.out.only0 (Only.drew _)⟩;refine wp_region_rg4 (Only (w0.heap.size :: blk c.po)) (Dirt [(5,blk c.po),(7,[w0.heap.size])]) (fun (i:Nat) (a:World)=>(i=5→Only [] wt a)∧(i=7→Row a w0.heap.size 60 (lbCells c))) [5,7] [[(1,none)],[(21,some 0)],[(6,none)],[(23,some 0)],[(24,some 0)],[(22,some 3),(25,some 0)],[(1,none)],[(27,some 0),(26,some 1)]] [] [none,none,none,none,none,none,none,none,none,none,none,none,none,none,none,none,none,none,none,none,none,some 21,some 22,some 23,some 24,some 25,some 26,some 27,none,none,none,none,none,none,none,none,none,none,none,none,none,none,none,none] (by kernel_rfl) rfl (by kernel_rfl) hRr hRt (fun _ _=>Only.refl _ _) hRd hC0 (by kernel_rfl) (by kernel_rfl) ?_
   apply rgd_ev
   ·rintro a w hR hC ⟨(e1:_=_),-⟩;refine rg_plain rfl fun K hK=>?_;go_simp;exact hK _ _ rfl ⟨hRr _,Only.refl _ _,fun _ _ _ _ h=>h⟩
   apply rgd_ev
   ·rintro a w hR hC ⟨(e21:_=_),-⟩;refine rg_plain rfl fun K hK=>?_;have hC7:=(hC 7 (by simp) (by kernel_rfl)).2 rfl;have g:=hC7.cell (i:=3) rfl;go_simp;exact hK _ _ rfl ⟨hRr _,Only.refl _ _,fun _ _ _ _ h=>h⟩
   apply rgd_ev
   ·rintro a w hR hC ⟨(e6:_=_),-⟩;refine rg_plain rfl fun K hK=>?_;have g0:=hR.cell Z0.out hnZ;have g1:=hR.cell Z1.out hnZ;have g2:=hR.cell Z2.out hnZ;have g3:=hR.cell Z3.out hnZ;have g4:=hR.cell Z4.out hnZ;go_simp;exact hK _ _ rfl ⟨hRr _,Only.refl _ _,fun _ _ _ _ h=>h⟩
   refine ⟨CpV loV (PO x lo),stands_of (CpV.stable PO.st (by simp)) (two_dirt (Z:=fun y=>Stable (Only y.2) (CpV loV (PO x lo))) (fun _=>CpV.stable PO.st hlt5) (fun _=>CpV.stable PO.st hlt7)),fun a w hR hC hf=>?_,?_⟩
   ·obtain ⟨e23,-⟩:=hf;replace e23:a.tmps.getD 23 undef=_:=e23;refine rg_plain rfl fun K hK=>?_;have hcy:=HC.out w hR;unfold loV at hcy;go_simp;(with_reducible refine hcy.mono ?_);rintro e w' ⟨y,rfl,hy,ho⟩;exact hK _ _ ⟨y,rfl,PO.weaken hy (Nat.le_trans (Nat.le_of_eq hlo) hR.size)⟩ ⟨ho.mono (by simp),ho,fun i _ _ _ hc=>⟨fun e=>(hc.1 e).trans0 ho,fun e=>(hc.2 e).only0 ho⟩⟩
   refine ⟨CpS loCells 48 (PO x lo) lo,stands_of (CpS.stable PO.st (by simp)) (two_dirt (Z:=fun y=>Stable (Only y.2) (CpS loCells 48 (PO x lo) lo)) (fun _=>CpS.stable PO.st hlt5) (fun _=>CpS.stable PO.st hlt7)),fun a w hR hC hf=>?_,?_⟩
   ·obtain ⟨e24,-⟩:=hf;replace e24:CpV loV (PO x lo) (a.tmps.getD 24 undef) w:=e24;refine rg_plain rfl fun K hK=>?_;obtain ⟨y,e24,hy⟩:=e24;unfold loV at e24;have e24':=e24;rw [Array.getD_eq_getD_getElem?] at e24';go_simp;refine hK _ _ ⟨y,w.heap.size,rfl,Nat.le_trans (Nat.le_of_eq hlo) hR.size,Row.newOf w _ _ _ (by rfl),PO.st _ _ _ _ hy (Only.alloc w _) (by simp)⟩ ⟨(Only.alloc w _).mono (by simp),Only.alloc w _,fun i _ _ _ hc=>⟨fun e=>(hc.1 e).trans0 (Only.alloc w _),fun e=>(hc.2 e).only0 (Only.alloc w _)⟩⟩
   refine ⟨CpA loCells 48 5 (PO x lo) (fun y=>blk y.q) lo B (blk c.po) c.os.length c.os,stands_of (CpA.stable PO.st (by simp) (by simp)) (two_dirt (Z:=fun y=>Stable (Only y.2) (CpA loCells 48 5 (PO x lo) (fun y=>blk y.q) lo B (blk c.po) c.os.length c.os)) (fun h=>Bool.noConfusion (h.symm.trans (by kernel_rfl:_=true))) (fun _=>CpA.stable PO.st hlt7 (by simpa using hXp))),fun a w hR hC hf=>?_,?_⟩
   ·obtain ⟨e22,e25,-⟩:=hf;replace e22:a.tmps.getD 22 undef=_:=e22;replace e25:CpS loCells 48 (PO x lo) lo (a.tmps.getD 25 undef) w:=e25;refine rg_plain rfl fun K hK=>?_;obtain ⟨y,g,e25,hg,hrow,hy⟩:=e25;have hC5:=(hC 5 (by simp) (by kernel_rfl)).1 rfl;obtain ⟨p',k',w',hra,oA,hA⟩:=appendK (P:=Tryz.prog) (bytes:=72) (c:=1) (q:=some ⟨g,0,none⟩) (n:=c.os.length) (m:=1) (news:=loCells y) (t:=57) (ty:=57) w Tryz.underlying57 Tryz.infoLO rfl (by omega) (Hown.out.only0 hC5) hrow.rd0 rfl (by simp) (loCells_one y) (by have:=Hnb.out;omega) (by have:=Hnb.out;omega) (by have:=hR.size;have:=HB.out;omega)
    have hat:=appendK_at (P:=Tryz.prog) (bytes:=72) (c:=1) (q:=some ⟨g,0,none⟩) (n:=c.os.length) (m:=1) (news:=loCells y) (t:=57) (ty:=57) w Tryz.underlying57 Tryz.infoLO rfl (by omega) (Hown.out.only0 hC5) hrow.rd0 rfl (by simp) (loCells_one y) (by have:=Hnb.out;omega) (by have:=Hnb.out;omega) hra;refine rg_append (s:=.tmp 22) (x:=.tmp 25) rfl e22 e25 hra ?_;refine hK _ _ ⟨y,p',k',rfl,PO.st _ _ _ _ hy hA hlt5,by rw [List.flatMap_append];simpa using oA,fun z hz=>?_⟩ ⟨hA.mono (fun x hx=>List.mem_cons_of_mem _ hx),hA,fun i _ hne _ hc=>⟨fun e=>absurd e hne,fun e=>(hc.2 e).only hA hXp⟩⟩
    rcases hat with rfl | ⟨g',rfl,hg'⟩
    ·exact .inl hz
    ·simp [blk] at hz;subst hz;exact .inr ⟨Nat.le_trans (Nat.le_of_eq hlo) (Nat.le_trans hR.size hg'),fun hm=>by have:=PO.lt hy _ hm;omega⟩
   apply rgd_ev
   ·rintro a w hR hC ⟨(e1:_=_),-⟩;refine rg_plain rfl fun K hK=>?_;go_simp;exact hK _ _ rfl ⟨hRr _,Only.refl _ _,fun _ _ _ _ h=>h⟩
   refine ⟨CpZ loCells 48 5 (PO x lo) (fun y=>blk y.q) lo B (blk c.po) c.os.length c.os w0.heap.size 60 (fun v=>[.string (str c.name),.int .i64 c.time,.int .i64 c.days,v,.slice c.pu c.us.length c.cu]),stands_of (CpZ.stable PO.st) (two_dirt (Z:=fun y=>Stable (Only y.2) (CpZ loCells 48 5 (PO x lo) (fun y=>blk y.q) lo B (blk c.po) c.os.length c.os w0.heap.size 60 (fun v=>[.string (str c.name),.int .i64 c.time,.int .i64 c.days,v,.slice c.pu c.us.length c.cu]))) (fun h=>Bool.noConfusion (h.symm.trans (by kernel_rfl:_=true))) (fun h=>by simp at h)),fun a w hR hC hf=>?_,?_⟩
   ·obtain ⟨e27,e26,-⟩:=hf;replace e27:a.tmps.getD 27 undef=_:=e27;replace e26:CpA loCells 48 5 (PO x lo) (fun y=>blk y.q) lo B (blk c.po) c.os.length c.os (a.tmps.getD 26 undef) w:=e26;refine rg_plain rfl fun K hK=>?_;have hC7:=(hC 7 (by simp) (by kernel_rfl)).2 rfl;obtain ⟨y,p',k',e26,hy,oA,hb⟩:=e26;have h7c:=hC7.cell (i:=3) rfl;have h7f:=hC7.free 3;go_simp;have hst:Only [w0.heap.size] w (w.setCell ⟨w0.heap.size,3,none⟩ (.slice p' (c.os.length+1) k')):=Only.setCell w ⟨w0.heap.size,3,none⟩ _;refine hK undef _ ⟨y,p',k',PO.st _ _ _ _ hy hst hlt7,oA.onlyB hst (fun z hz hm=>?_),hb,hC7.setCell 3 _⟩ ⟨hst.mono (by simp),hst,?_⟩
    ·obtain rfl:=List.mem_singleton.1 hm
     rcases hb _ hz with h | h
     ·exact hXp h
     ·have:=hlt7 w0.heap.size (by simp);omega
    ·intro i hi hne ha _;simp only [List.mem_cons,List.not_mem_nil,or_false] at hi
     rcases hi with rfl | rfl
     ·exact Bool.noConfusion (ha.symm.trans (by kernel_rfl:_=true))
     ·exact absurd rfl hne
   intro fR6 wR6 hRR6 hf hzR6;dsimp only [mergeT];obtain ⟨v7,y,p',k',hy,oA,hb,hrw⟩:=hzR6 _ (List.mem_cons_self ..);rw [hBe] at oA;rw [hlo] at hy hb;have HIn:=Lib.hid (HI.out.pushO HE.out.2.2.2.2.1 hRR6 hy.2 oA hb hrw);have Hyx:=Lib.hid hy.1;clear hRr hRt hRd hC0 hzR6 hy oA hb hrw hRR6 hlt5 hlt7 hXp;go_wp2_with fail;refine ⟨⟨i+1,by go_num,by omega,Lib.hid ⟨_,HIn.out,HE.out.1,HE.out.2.1,HE.out.2.2.1,?_,HE.out.2.2.2.2⟩⟩,?_⟩
   ·rw [Htk.out,List.map_append,HE.out.2.2.2.1,List.map_singleton,Hyx.out]
   ·show n - ((i:Int)+1).toNat < n - ((i:Int)).toNat;omega
  ·obtain rfl:i=n:=(by omega);have HT:Hid (b.os.take i=b.os):=Lib.hid (List.take_of_length_le (by rw [Hn.out];exact Nat.le_refl _))
   have HC2:Hid (∃ c:LBk,CbI w0 c wr∧c.name=b.name∧c.time=b.time∧c.days=b.days∧c.os.map LObj.o=b.os.map LObj.o∧c.us.map LUpl.u=(b.us.take 0).map LUpl.u):=Lib.hid (by
    obtain ⟨c,hI,e1,e2,e3,e4,e5,e6,e7⟩:=HC.out
    exact ⟨c,hI,e1,e2,e3,by rw [e4,HT.out],by rw [e5];rfl⟩)
   clear HC HT;obtain ⟨wo,rfl⟩:∃ wo:World,wo=wr:=⟨_,rfl⟩;go_wp2_with fail
   go_loopw [31] (fun s31 wr=>∃ i:Nat,s31=.int .i64 (i:Int)∧i≤nu∧Hid (∃ c:LBk,CbI w0 c wr∧c.name=b.name∧c.time=b.time∧c.days=b.days∧c.os.map LObj.o=b.os.map LObj.o∧c.us.map LUpl.u=(b.us.take i).map LUpl.u)) (fun s31 _=>nu - (intOf s31).toNat)
   case atStart=>exact ⟨0,rfl,Nat.zero_le _,HC2⟩
   case round =>
    clear HC2;obtain ⟨i,rfl,hi,HC⟩:=hrel
    by_cases hlt:i < nu
    ·obtain ⟨c,hI,e1,e2,e3,e4,e5⟩:=HC.out;obtain ⟨x,hxx⟩:∃ x,b.us[i]?=some x:=⟨_,List.getElem?_eq_getElem (by rw [Hnu.out];exact hlt)⟩;have hrd:=HA.out.su.1.only0 hI.only;have hne:b.us.flatMap luCells≠[]:=fun e'=>(by have:=flat_get luCells 5 luCells_len b.us i x 0 hxx (by omega);rw [e'] at this;cases this);obtain ⟨bo,off,hpo,-⟩:=hrd.lt hne;rw [hpo] at hrd;have x0:=rd_elem luCells_len hrd hxx (r:=0) rfl;have x1:=rd_elem luCells_len hrd hxx (r:=1) rfl;have x2:=rd_elem luCells_len hrd hxx (r:=2) rfl;have x3:=rd_elem luCells_len hrd hxx (r:=3) rfl
     have x4:=rd_elem luCells_len hrd hxx (r:=4) rfl;rw [Addr.add_lit,← Nat.add_assoc] at x0 x1 x2 x3 x4;rw [Nat.add_zero] at x0;obtain ⟨wt,hwt⟩:∃ wt,wt=wr.alloc (.cells #[.int .i64 x.u.id.node,.int .i64 x.u.id.boot,.int .i64 x.u.id.seq,.string (str x.u.key),.slice x.q x.u.parts.length x.c] 54):=⟨_,rfl⟩;have ot:Only [] wr wt:=(by rw [hwt];exact Only.alloc _ _);have rt:Row wt wr.heap.size 54 (luCells x):=(by rw [hwt];exact Row.newOf _ _ _ _ rfl);have HI:=Lib.hid (hI.step ot);have Z0:=Lib.hid (rt.cell (i:=0) rfl);have Z1:=Lib.hid (rt.cell (i:=1) rfl);have Z2:=Lib.hid (rt.cell (i:=2) rfl)
     have Z3:=Lib.hid (rt.cell (i:=3) rfl);have Z4:=Lib.hid (rt.cell (i:=4) rfl);have Hxm:=Lib.hid (List.mem_of_getElem? hxx);have Htk:Hid ((b.us.take (i+1)).map LUpl.u=(b.us.take i).map LUpl.u ++ [x.u]):=Lib.hid (by rw [List.take_add_one,hxx,List.map_append];rfl);have HE:Hid (c.name=b.name∧c.time=b.time∧c.days=b.days∧c.os.map LObj.o=b.os.map LObj.o∧c.us.map LUpl.u=(b.us.take i).map LUpl.u):=Lib.hid ⟨e1,e2,e3,e4,e5⟩
     have hnZ:wr.heap.size ∉ w0.heap.size :: blk c.pu:=fun hm=>by
      rcases List.mem_cons.1 hm with e | hm
      ·have:=hI.rx.lt;omega
      ·have:=(ownIn hI.own.su _ hm).2;omega
     have Hwt:=Lib.hid hwt;clear hI hrd hne hxx ot rt hwt HC e1 e2 e3 e4 e5
     go_upto_region 11 with (fail)
     rw [← Hwt.out];clear Hwt x0 x1 x2 x3 x4;obtain ⟨B,hBe⟩:∃ B,B=w0.heap.size+1+1:=⟨_,rfl⟩;obtain ⟨lo,hlo⟩:∃ lo,lo=wt.heap.size:=⟨_,rfl⟩;have HX:Hid (Row wt w0.heap.size 60 (lbCells c)):=Lib.hid HI.out.rx;have Hown:Hid (OwnK wt B 54 5 (.slice c.pu c.us.length c.cu) c.us.length (c.us.flatMap luCells)):=Lib.hid (by rw [hBe];exact HI.out.own.su)
     have Hnb:Hid (c.us.length≤100000):=Lib.hid (by
      have h:=congrArg List.length HE.out.2.2.2.2;rw [List.length_map,List.length_map,List.length_take] at h
      omega)
     have HB:Hid (B≤wt.heap.size):=Lib.hid (by rw [hBe];have:=HI.out.rr.lt;omega);have hlt5:∀ s∈blk c.pu,s < lo:=fun s hs=>(by rw [hlo];exact (ownIn Hown.out s hs).2);have hlt7:∀ s∈[w0.heap.size],s < lo:=fun s hs=>(by rw [List.mem_singleton.1 hs,hlo];exact HX.out.lt);have hXp:w0.heap.size ∉ blk c.pu:=fun hm=>by have:=(ownIn Hown.out _ hm).1;rw [hBe] at this;omega
     have HC:Hid (∀ w,Only (w0.heap.size :: blk c.pu) wt w→Calls Tryz.prog 71 #[luV x] w fun e w'=>∃ y,e=.returned (luV y)∧PU x w.heap.size y w'∧Only [] w w'):=Lib.hid (fun w ho=>by
      have h0:Only [] w0 w:=HI.out.only.transN ho (fun t ht=>by
       rcases List.mem_cons.1 ht with rfl | ht
       ·exact Nat.le_refl _
       ·have:=(ownIn Hown.out _ ht).1;rw [hBe] at this;omega)
      refine (copyUpload_any x w ((HA.out.up x Hxm.out).only0 h0) (by have:=H4.out x Hxm.out;omega)).mono ?_;rintro e w' ⟨q',c',rfl,h5,h6⟩
      exact ⟨⟨x.u,q',c'⟩,rfl,⟨rfl,h5⟩,h6⟩)
     have Hlo:=Lib.hid hlo;have hRr:∀ a,Only (w0.heap.size :: blk c.pu) a a:=fun a=>Only.refl _ _;have hRt:∀ a b e,Only (w0.heap.size :: blk c.pu) a b→Only (w0.heap.size :: blk c.pu) b e→Only (w0.heap.size :: blk c.pu) a e:=fun a b e h h2=>h.trans h2 (fun i hi _=>hi);have hRd:Only (w0.heap.size :: blk c.pu) wt wt.drew:=(Only.drew _).mono (by simp);have hC0:∀ i∈[5,7],(fun (i:Nat) (a:World)=>(i=5→Only [] wt a)∧(i=7→Row a w0.heap.size 60 (lbCells c))) i wt.drew:=fun _ _=>⟨fun _=>Only.drew _,fun _=>HX.out.only0 (Only.drew _)⟩;refine wp_region_rg4 (Only (w0.heap.size :: blk c.pu)) (Dirt [(5,blk c.pu),(7,[w0.heap.size])]) (fun (i:Nat) (a:World)=>(i=5→Only [] wt a)∧(i=7→Row a w0.heap.size 60 (lbCells c))) [5,7] [[(1,none)],[(35,some 0)],[(8,none)],[(37,some 0)],[(38,some 0)],[(36,some 3),(39,some 0)],[(1,none)],[(41,some 0),(40,some 1)]] [] [none,none,none,none,none,none,none,none,none,none,none,none,none,none,none,none,none,none,none,none,none,none,none,none,none,none,none,none,none,none,none,none,none,none,none,some 35,some 36,some 37,some 38,some 39,some 40,some 41,none,none] (by kernel_rfl) rfl (by kernel_rfl) hRr hRt (fun _ _=>Only.refl _ _) hRd hC0 (by kernel_rfl) (by kernel_rfl) ?_
     apply rgd_ev
     ·rintro a w hR hC ⟨(e1:_=_),-⟩;refine rg_plain rfl fun K hK=>?_;go_simp;exact hK _ _ rfl ⟨hRr _,Only.refl _ _,fun _ _ _ _ h=>h⟩
     apply rgd_ev
     ·rintro a w hR hC ⟨(e35:_=_),-⟩;refine rg_plain rfl fun K hK=>?_;have hC7:=(hC 7 (by simp) (by kernel_rfl)).2 rfl;have g:=hC7.cell (i:=4) rfl;go_simp;exact hK _ _ rfl ⟨hRr _,Only.refl _ _,fun _ _ _ _ h=>h⟩
     apply rgd_ev
     ·rintro a w hR hC ⟨(e8:_=_),-⟩;refine rg_plain rfl fun K hK=>?_;have g0:=hR.cell Z0.out hnZ;have g1:=hR.cell Z1.out hnZ;have g2:=hR.cell Z2.out hnZ;have g3:=hR.cell Z3.out hnZ;have g4:=hR.cell Z4.out hnZ;go_simp;exact hK _ _ rfl ⟨hRr _,Only.refl _ _,fun _ _ _ _ h=>h⟩
     refine ⟨CpV luV (PU x lo),stands_of (CpV.stable PU.st (by simp)) (two_dirt (Z:=fun y=>Stable (Only y.2) (CpV luV (PU x lo))) (fun _=>CpV.stable PU.st hlt5) (fun _=>CpV.stable PU.st hlt7)),fun a w hR hC hf=>?_,?_⟩
     ·obtain ⟨e37,-⟩:=hf;replace e37:a.tmps.getD 37 undef=_:=e37;refine rg_plain rfl fun K hK=>?_;have hcy:=HC.out w hR;unfold luV at hcy;go_simp;(with_reducible refine hcy.mono ?_);rintro e w' ⟨y,rfl,hy,ho⟩;exact hK _ _ ⟨y,rfl,PU.weaken hy (Nat.le_trans (Nat.le_of_eq hlo) hR.size)⟩ ⟨ho.mono (by simp),ho,fun i _ _ _ hc=>⟨fun e=>(hc.1 e).trans0 ho,fun e=>(hc.2 e).only0 ho⟩⟩
     refine ⟨CpS luCells 54 (PU x lo) lo,stands_of (CpS.stable PU.st (by simp)) (two_dirt (Z:=fun y=>Stable (Only y.2) (CpS luCells 54 (PU x lo) lo)) (fun _=>CpS.stable PU.st hlt5) (fun _=>CpS.stable PU.st hlt7)),fun a w hR hC hf=>?_,?_⟩
     ·obtain ⟨e38,-⟩:=hf;replace e38:CpV luV (PU x lo) (a.tmps.getD 38 undef) w:=e38;refine rg_plain rfl fun K hK=>?_;obtain ⟨y,e38,hy⟩:=e38;unfold luV at e38;have e38':=e38;rw [Array.getD_eq_getD_getElem?] at e38';go_simp;refine hK _ _ ⟨y,w.heap.size,rfl,Nat.le_trans (Nat.le_of_eq hlo) hR.size,Row.newOf w _ _ _ (by rfl),PU.st _ _ _ _ hy (Only.alloc w _) (by simp)⟩ ⟨(Only.alloc w _).mono (by simp),Only.alloc w _,fun i _ _ _ hc=>⟨fun e=>(hc.1 e).trans0 (Only.alloc w _),fun e=>(hc.2 e).only0 (Only.alloc w _)⟩⟩
     refine ⟨CpA luCells 54 5 (PU x lo) (fun y=>blk y.q) lo B (blk c.pu) c.us.length c.us,stands_of (CpA.stable PU.st (by simp) (by simp)) (two_dirt (Z:=fun y=>Stable (Only y.2) (CpA luCells 54 5 (PU x lo) (fun y=>blk y.q) lo B (blk c.pu) c.us.length c.us)) (fun h=>Bool.noConfusion (h.symm.trans (by kernel_rfl:_=true))) (fun _=>CpA.stable PU.st hlt7 (by simpa using hXp))),fun a w hR hC hf=>?_,?_⟩
     ·obtain ⟨e36,e39,-⟩:=hf;replace e36:a.tmps.getD 36 undef=_:=e36;replace e39:CpS luCells 54 (PU x lo) lo (a.tmps.getD 39 undef) w:=e39;refine rg_plain rfl fun K hK=>?_;obtain ⟨y,g,e39,hg,hrow,hy⟩:=e39;have hC5:=(hC 5 (by simp) (by kernel_rfl)).1 rfl;obtain ⟨p',k',w',hra,oA,hA⟩:=appendK (P:=Tryz.prog) (bytes:=64) (c:=1) (q:=some ⟨g,0,none⟩) (n:=c.us.length) (m:=1) (news:=luCells y) (t:=58) (ty:=58) w Tryz.underlying58 Tryz.infoLU rfl (by omega) (Hown.out.only0 hC5) hrow.rd0 rfl (by simp) (luCells_one y) (by have:=Hnb.out;omega) (by have:=Hnb.out;omega) (by have:=hR.size;have:=HB.out;omega)
      have hat:=appendK_at (P:=Tryz.prog) (bytes:=64) (c:=1) (q:=some ⟨g,0,none⟩) (n:=c.us.length) (m:=1) (news:=luCells y) (t:=58) (ty:=58) w Tryz.underlying58 Tryz.infoLU rfl (by omega) (Hown.out.only0 hC5) hrow.rd0 rfl (by simp) (luCells_one y) (by have:=Hnb.out;omega) (by have:=Hnb.out;omega) hra;refine rg_append (s:=.tmp 36) (x:=.tmp 39) rfl e36 e39 hra ?_;refine hK _ _ ⟨y,p',k',rfl,PU.st _ _ _ _ hy hA hlt5,by rw [List.flatMap_append];simpa using oA,fun z hz=>?_⟩ ⟨hA.mono (fun x hx=>List.mem_cons_of_mem _ hx),hA,fun i _ hne _ hc=>⟨fun e=>absurd e hne,fun e=>(hc.2 e).only hA hXp⟩⟩
      rcases hat with rfl | ⟨g',rfl,hg'⟩
      ·exact .inl hz
      ·simp [blk] at hz;subst hz;exact .inr ⟨Nat.le_trans (Nat.le_of_eq hlo) (Nat.le_trans hR.size hg'),fun hm=>by have:=PU.lt hy _ hm;omega⟩
     apply rgd_ev
     ·rintro a w hR hC ⟨(e1:_=_),-⟩;refine rg_plain rfl fun K hK=>?_;go_simp;exact hK _ _ rfl ⟨hRr _,Only.refl _ _,fun _ _ _ _ h=>h⟩
     refine ⟨CpZ luCells 54 5 (PU x lo) (fun y=>blk y.q) lo B (blk c.pu) c.us.length c.us w0.heap.size 60 (fun v=>[.string (str c.name),.int .i64 c.time,.int .i64 c.days,.slice c.po c.os.length c.co,v]),stands_of (CpZ.stable PU.st) (two_dirt (Z:=fun y=>Stable (Only y.2) (CpZ luCells 54 5 (PU x lo) (fun y=>blk y.q) lo B (blk c.pu) c.us.length c.us w0.heap.size 60 (fun v=>[.string (str c.name),.int .i64 c.time,.int .i64 c.days,.slice c.po c.os.length c.co,v]))) (fun h=>Bool.noConfusion (h.symm.trans (by kernel_rfl:_=true))) (fun h=>by simp at h)),fun a w hR hC hf=>?_,?_⟩
     ·obtain ⟨e41,e40,-⟩:=hf;replace e41:a.tmps.getD 41 undef=_:=e41;replace e40:CpA luCells 54 5 (PU x lo) (fun y=>blk y.q) lo B (blk c.pu) c.us.length c.us (a.tmps.getD 40 undef) w:=e40;refine rg_plain rfl fun K hK=>?_;have hC7:=(hC 7 (by simp) (by kernel_rfl)).2 rfl;obtain ⟨y,p',k',e40,hy,oA,hb⟩:=e40;have h7c:=hC7.cell (i:=4) rfl;have h7f:=hC7.free 4;go_simp;have hst:Only [w0.heap.size] w (w.setCell ⟨w0.heap.size,4,none⟩ (.slice p' (c.us.length+1) k')):=Only.setCell w ⟨w0.heap.size,4,none⟩ _;refine hK undef _ ⟨y,p',k',PU.st _ _ _ _ hy hst hlt7,oA.onlyB hst (fun z hz hm=>?_),hb,hC7.setCell 4 _⟩ ⟨hst.mono (by simp),hst,?_⟩
      ·obtain rfl:=List.mem_singleton.1 hm
       rcases hb _ hz with h | h
       ·exact hXp h
       ·have:=hlt7 w0.heap.size (by simp);omega
      ·intro i hi hne ha _;simp only [List.mem_cons,List.not_mem_nil,or_false] at hi
       rcases hi with rfl | rfl
       ·exact Bool.noConfusion (ha.symm.trans (by kernel_rfl:_=true))
       ·exact absurd rfl hne
     intro fR11 wR11 hRR11 hf hzR11;dsimp only [mergeT];obtain ⟨v7,y,p',k',hy,oA,hb,hrw⟩:=hzR11 _ (List.mem_cons_self ..);rw [hBe] at oA;rw [hlo] at hy hb;have HIn:=Lib.hid (HI.out.pushU hRR11 hy.2 oA hb hrw);have Hyx:=Lib.hid hy.1;clear hRr hRt hRd hC0 hzR11 hy oA hb hrw hRR11 hlt5 hlt7 hXp;go_wp2_with fail;refine ⟨⟨i+1,by go_num,by omega,Lib.hid ⟨_,HIn.out,HE.out.1,HE.out.2.1,HE.out.2.2.1,HE.out.2.2.2.1,?_⟩⟩,?_⟩
     ·rw [Htk.out,List.map_append,HE.out.2.2.2.2,List.map_singleton,Hyx.out]
     ·show nu - ((i:Int)+1).toNat < nu - ((i:Int)).toNat;omega
    ·obtain rfl:i=nu:=(by omega);obtain ⟨c,hI,e1,e2,e3,e4,e5⟩:=HC.out;rw [List.take_of_length_le (by rw [Hnu.out];exact Nat.le_refl _)] at e5;have x0:=hI.rx.cell (i:=0) rfl;have x1:=hI.rx.cell (i:=1) rfl;have x2:=hI.rx.cell (i:=2) rfl;have x3:=hI.rx.cell (i:=3) rfl;have x4:=hI.rx.cell (i:=4) rfl;have hst:=hI.rr.storeAt (P:=Tryz.prog) (ty:=60) (us:=lbCells c) lbInfo rfl (by intro u hu;exact lbCells_one c u hu);have Hrow:=Lib.hid (hI.rr.setRow (lbCells c));have oS:=Only.setRow wr (w0.heap.size+1) (lbCells c).toArray;have HOf:=Lib.hid (hI.only.transN oS (by simp))
     have Hown:Hid (BkOwn (wr.setRow (w0.heap.size+1) (lbCells c).toArray) w0.heap.size c):=Lib.hid ((hI.own.only oS (fun z hz hm=>by have h1:=(hI.own.lo z hz).1;have h2:=List.mem_singleton.1 hm;omega)).weaken (by omega));have Hcb:Hid (c.b=b.b):=Lib.hid (by unfold LBk.b;rw [e1,e2,e3,e4,e5]);have Hst:=Lib.hid hst;clear hI hst oS HC e1 e2 e3 e4 e5
     go_wp2_with (first | ((with_reducible show wpList _ _ _ _ _ _);refine wpl_store (ty:=60) (x:=.tmp 2) (y:=.tmp 43) rfl rfl rfl rfl Hst.out ?_))
     exact bodyPost_ret (results_c1 rfl _ _ _ rfl Hrow.out Tryz.underlying60 lbInfo) rfl ⟨c,rfl,Hcb.out,Hown.out,HOf.out⟩
structure CcI (w0:World) (X:Nat) (c:LCat) (w:World):Prop where
 rx:Row w X 29 (lcCells c)
 rr:Row w (w0.heap.size+1) 29 [.slice none 0 0,.slice none 0 0]
 own:CatOwn w (w0.heap.size+1+1) c
 nx:X ∉ c.fp
 only:Only [] w0 w
theorem CcI.step {w0 w w':World} {X:Nat} {c:LCat} (h:CcI w0 X c w) (ho:Only [] w w'):CcI w0 X c w':=⟨h.rx.only0 ho,h.rr.only0 ho,h.own.only0 ho,h.nx,h.only.trans0 ho⟩
theorem CcI.push {w0 wt w':World} {X:Nat} {c:LCat} (h:CcI w0 X c wt) (hX:w0.heap.size+1 < X) {y:LBk} {p:Option Addr} {k:Nat} (hR:Only (X :: blk c.pb) wt w') (hy:BkOwn w' wt.heap.size y) (hown:OwnK w' (w0.heap.size+1+1) 60 5 (.slice p (c.bs.length+1) k) (c.bs.length+1) ((c.bs ++ [y]).flatMap lbCells)) (hb:∀ z∈blk p,z∈blk c.pb∨(wt.heap.size≤z∧z ∉ y.fp))
  (hr:Row w' X 29 [.slice p (c.bs.length+1) k,.slice c.pf c.fs.length c.cf]):CcI w0 X { c with bs:=c.bs ++ [y],pb:=p,cb:=k } w':=by
 have hlen:(c.bs ++ [y]).length=c.bs.length+1:=(by simp);have hlo:=h.own.lo;have hnx:=h.nx;have hXl:=h.rx.lt
 have hfp:∀ z,z∈c.fp→z ∉ blk c.pb→z ∉ X :: blk c.pb:=fun z hz h1 hm=>by
  rcases List.mem_cons.1 hm with rfl | hm
  ·exact hnx hz
  ·exact h1 hm
 have hnd:=h.own.nd;unfold LCat.fp at hnd hfp hnx;obtain ⟨n1,n2,n3⟩:=List.nodup_append.1 hnd;refine ⟨by unfold lcCells;rw [hlen];exact hr,h.rr.only hR (fun hm=>?_),⟨by rw [hlen];exact hown,h.own.sf.onlyB hR (fun z hz=>hfp z (by simp [hz]) (fun hm=>n3 z hm z (by simp [hz]) rfl)),fun b hb'=>?_,?_⟩,?_,h.only.transN hR (fun t ht=>?_)⟩
 ·rcases List.mem_cons.1 hm with e | hm
  ·omega
  ·have:=(ownIn h.own.sb _ hm).1;omega
 ·rcases List.mem_append.1 hb' with hb' | hb'
  ·exact (h.own.bk b hb').only hR (fun z hz=>hfp z (by simp only [List.mem_append,List.mem_flatMap];exact .inr (.inr ⟨b,hb',hz⟩)) (fun hm=>n3 z hm z (by simp only [List.mem_append,List.mem_flatMap];exact .inr ⟨b,hb',hz⟩) rfl))
  ·rw [List.mem_singleton.1 hb'];have:=h.only.size;have h2:=h.rr.lt;exact hy.weaken (by omega)
 ·unfold LCat.fp;show (blk p ++ (blk c.pf ++ (c.bs ++ [y]).flatMap LBk.fp)).Nodup;rw [List.flatMap_append];have:=nd_push (lo:=wt.heap.size) (q:=y.fp) hnd (fun z hz=>(hlo z (by unfold LCat.fp;exact hz)).2) hb (fun z hz=>(hy.lo z hz).1) hy.nd
  simpa using this
 ·unfold LCat.fp;show X ∉ blk p ++ (blk c.pf ++ (c.bs ++ [y]).flatMap LBk.fp);rw [List.flatMap_append];intro hm
  rcases List.mem_append.1 hm with hm | hm
  ·rcases hb _ hm with h | h
   ·exact hnx (by simp [h])
   ·omega
  rcases List.mem_append.1 hm with hm | hm
  ·exact hnx (by simp [hm])
  rcases List.mem_append.1 hm with hm | hm
  ·exact hnx (by simp only [List.mem_append];exact .inr (.inr hm))
  ·have hm':X∈y.fp:=(by simpa using hm);have:=(hy.lo _ hm').1;omega
 ·rcases List.mem_cons.1 ht with rfl | ht
  ·omega
  ·have:=(ownIn h.own.sb _ ht).1;omega
structure Small (L:LCat):Prop where
 b:L.bs.length≤100000
 f:L.fs.length≤100000
 o:∀ b∈L.bs,b.os.length≤100000∧b.us.length≤100000∧(∀ x∈b.os,x.o.pcs.length≤100000)∧∀ x∈b.us,x.u.parts.length≤100000
theorem lcInfo:(Tryz.prog.info? 29).map (·.size)=some 2:=by kernel_rfl
theorem lcCells_one (c:LCat):∀ u∈lcCells c,u.oneCell'=true:=by intro u hu;simp only [lcCells,List.mem_cons,List.not_mem_nil,or_false] at hu;rcases hu with rfl | rfl <;> rfl
set_option maxHeartbeats 16000000 in
theorem copied_any (L:LCat) (w0:World) (hA:CatAt w0 L) (hs:Small L) :
  Calls Tryz.prog 46 #[lcV L] w0 fun e w'=>∃ c:LCat,e=.returned (lcV c)∧c.cat=L.cat∧CatOwn w' w0.heap.size c∧Only [] w0 w':=by
 obtain ⟨n,hn⟩:∃ n,L.bs.length=n:=⟨_,rfl⟩;obtain ⟨nf,hnf⟩:∃ nf,L.fs.length=nf:=⟨_,rfl⟩;obtain ⟨w1,hw1⟩:∃ w1,w1=w0.alloc (.cells #[.slice L.pb n L.cb,.slice L.pf nf L.cf] 29):=⟨_,rfl⟩;obtain ⟨w2,hw2⟩:∃ w2,w2=w1.alloc (.cells #[.slice none 0 0,.slice none 0 0] 29):=⟨_,rfl⟩;have o1:Only [] w0 w1:=(by rw [hw1];exact Only.alloc _ _);have o2:Only [] w1 w2:=(by rw [hw2];exact Only.alloc _ _);have s1:w1.heap.size=w0.heap.size+1:=(by rw [hw1];simp);have s2:w2.heap.size=w0.heap.size+1+1:=(by rw [hw2];simp [s1]);have r1:Row w2 w0.heap.size 29 [.slice L.pb n L.cb,.slice L.pf nf L.cf]:=(show Row w1 w0.heap.size 29 [.slice L.pb n L.cb,.slice L.pf nf L.cf] by rw [hw1];exact Row.newOf _ _ _ _ rfl).only0 o2
 have r2:Row w2 (w0.heap.size+1) 29 [.slice none 0 0,.slice none 0 0]:=(by rw [← s1,hw2];exact Row.newOf _ _ _ _ rfl);have hn5:n≤100000:=(by have:=hs.b;omega);have hcl:=cloneId_any L.pf L.fs nf L.cf w2 hnf (by have:=hs.f;omega) (by have:=hA.sf;rw [hnf] at this;exact this.only0 (o1.trans0 o2));have c1:=r1.cell (i:=1) rfl;have HA:=Lib.hid hA;have HO:=Lib.hid (o1.trans0 o2);have HR1:=Lib.hid r1;have HR2:=Lib.hid r2;have Hw1:=Lib.hid hw1;have Hw2:=Lib.hid hw2;have Hs2:=Lib.hid s2;have Hn:=Lib.hid hn;have Hnf:=Lib.hid hnf;have HS:=Lib.hid hs
 unfold lcV;rw [hn,hnf];clear o1 o2 s1 s2 r1 r2 hw1 hw2 hA hn hnf hs
 go_enter Tryz.func46,Tryz.ntmps46
 go_upto_region 1 with (fail)
 rw [← Hw1.out,← Hw2.out];clear Hw1 Hw2;go_wp2_with fail;refine hcl.mono ?_;clear hcl c1;rintro e w3 ⟨qf,cf,rfl,ownf,o3⟩;obtain ⟨w4,hw4⟩:∃ w4,w4=w3.alloc (.cells #[.slice none 0 0,.slice qf nf cf] 29):=⟨_,rfl⟩;have o4:Only [] w3 w4:=(by rw [hw4];exact Only.alloc _ _);have r4:Row w4 w3.heap.size 29 [.slice none 0 0,.slice qf nf cf]:=by rw [hw4];exact Row.newOf _ _ _ _ rfl
 have hI0:CcI w0 w3.heap.size ⟨[],none,0,L.fs,qf,cf⟩ w4:=by
  refine ⟨by unfold lcCells;rw [Hnf.out];exact r4,(HR2.out.only0 o3).only0 o4,⟨OwnK.nil _ _ _ _,?_,by simp,?_⟩,?_,(HO.out.trans0 o3).trans0 o4⟩
  ·show OwnK w4 (w0.heap.size+1+1) 31 3 (.slice qf L.fs.length cf) L.fs.length (L.fs.flatMap idCells);rw [Hnf.out,← Hs2.out];exact ownf.only0 o4
  ·unfold LCat.fp;have:=blk_nodup qf
   simpa [blk] using this
  ·unfold LCat.fp;intro hm;have hm':w3.heap.size∈blk qf:=(by simpa [blk] using hm);have:=(ownIn ownf _ hm').2;omega
 have hq:=HR1.out.only0 (o3.trans0 o4);have c0:=hq.cell (i:=0) rfl;have HI0:=Lib.hid hI0;have HX3:Hid (w0.heap.size+1 < w3.heap.size):=Lib.hid (HR2.out.only0 o3).lt;have Hw4:=Lib.hid hw4;clear ownf o3 o4 r4 hI0 hq hw4
 go_upto_region 2 with (fail)
 rw [← Hw4.out];clear Hw4;go_wp2_with fail;clear c0
 go_loopw [13] (fun s13 wr=>∃ i:Nat,s13=.int .i64 (i:Int)∧i≤n∧Hid (∃ c:LCat,CcI w0 w3.heap.size c wr∧c.fs=L.fs∧c.bs.map LBk.b=(L.bs.take i).map LBk.b)) (fun s13 _=>n - (intOf s13).toNat)
 case atStart=>exact ⟨0,rfl,Nat.zero_le _,Lib.hid ⟨_,HI0.out,rfl,rfl⟩⟩
 case round =>
  clear HI0;obtain ⟨i,rfl,hi,HC⟩:=hrel
  by_cases hlt:i < n
  ·obtain ⟨c,hI,e1,e2⟩:=HC.out;obtain ⟨x,hxx⟩:∃ x,L.bs[i]?=some x:=⟨_,List.getElem?_eq_getElem (by rw [Hn.out];exact hlt)⟩;have hrd:=HA.out.sb.1.only0 hI.only;have hne:L.bs.flatMap lbCells≠[]:=fun e'=>(by have:=flat_get lbCells 5 lbCells_len L.bs i x 0 hxx (by omega);rw [e'] at this;cases this);obtain ⟨bo,off,hpo,-⟩:=hrd.lt hne;rw [hpo] at hrd;have x0:=rd_elem lbCells_len hrd hxx (r:=0) rfl;have x1:=rd_elem lbCells_len hrd hxx (r:=1) rfl;have x2:=rd_elem lbCells_len hrd hxx (r:=2) rfl;have x3:=rd_elem lbCells_len hrd hxx (r:=3) rfl;have x4:=rd_elem lbCells_len hrd hxx (r:=4) rfl
   rw [Addr.add_lit,← Nat.add_assoc] at x0 x1 x2 x3 x4;rw [Nat.add_zero] at x0;obtain ⟨wt,hwt⟩:∃ wt,wt=wr.alloc (.cells #[.string (str x.name),.int .i64 x.time,.int .i64 x.days,.slice x.po x.os.length x.co,.slice x.pu x.us.length x.cu] 60):=⟨_,rfl⟩;have ot:Only [] wr wt:=(by rw [hwt];exact Only.alloc _ _);have rt:Row wt wr.heap.size 60 (lbCells x):=(by rw [hwt];exact Row.newOf _ _ _ _ rfl);have HI:=Lib.hid (hI.step ot);have Z0:=Lib.hid (rt.cell (i:=0) rfl);have Z1:=Lib.hid (rt.cell (i:=1) rfl);have Z2:=Lib.hid (rt.cell (i:=2) rfl);have Z3:=Lib.hid (rt.cell (i:=3) rfl)
   have Z4:=Lib.hid (rt.cell (i:=4) rfl);have Hxm:=Lib.hid (List.mem_of_getElem? hxx);have Htk:Hid ((L.bs.take (i+1)).map LBk.b=(L.bs.take i).map LBk.b ++ [x.b]):=Lib.hid (by rw [List.take_add_one,hxx,List.map_append];rfl);have HE:Hid (c.fs=L.fs∧c.bs.map LBk.b=(L.bs.take i).map LBk.b):=Lib.hid ⟨e1,e2⟩
   have hnZ:wr.heap.size ∉ w3.heap.size :: blk c.pb:=fun hm=>by
    rcases List.mem_cons.1 hm with e | hm
    ·have:=hI.rx.lt;omega
    ·have:=(ownIn hI.own.sb _ hm).2;omega
   have Hwt:=Lib.hid hwt;clear hI hrd hne hxx ot rt hwt HC e1 e2
   go_upto_region 5 with (fail)
   rw [← Hwt.out];clear Hwt x0 x1 x2 x3 x4;obtain ⟨B,hBe⟩:∃ B,B=w0.heap.size+1+1:=⟨_,rfl⟩;obtain ⟨lo,hlo⟩:∃ lo,lo=wt.heap.size:=⟨_,rfl⟩;have HX:Hid (Row wt w3.heap.size 29 (lcCells c)):=Lib.hid HI.out.rx;have Hown:Hid (OwnK wt B 60 5 (.slice c.pb c.bs.length c.cb) c.bs.length (c.bs.flatMap lbCells)):=Lib.hid (by rw [hBe];exact HI.out.own.sb)
   have Hnb:Hid (c.bs.length≤100000):=Lib.hid (by
    have h:=congrArg List.length HE.out.2;rw [List.length_map,List.length_map,List.length_take] at h
    omega)
   have HB:Hid (B≤wt.heap.size):=Lib.hid (by rw [hBe];have:=HI.out.rr.lt;omega);have hlt5:∀ s∈blk c.pb,s < lo:=fun s hs=>(by rw [hlo];exact (ownIn Hown.out s hs).2);have hlt7:∀ s∈[w3.heap.size],s < lo:=fun s hs=>(by rw [List.mem_singleton.1 hs,hlo];exact HX.out.lt);have hXp:w3.heap.size ∉ blk c.pb:=fun hm=>HI.out.nx (by unfold LCat.fp;simp [hm])
   have HC:Hid (∀ w,Only (w3.heap.size :: blk c.pb) wt w→Calls Tryz.prog 72 #[lbV x] w fun e w'=>∃ y,e=.returned (lbV y)∧PB x w.heap.size y w'∧Only [] w w'):=Lib.hid (fun w ho=>by
    have h0:Only [] w0 w:=HI.out.only.transN ho (fun t ht=>by
     rcases List.mem_cons.1 ht with rfl | ht
     ·have:=HX3.out;omega
     ·have:=(ownIn Hown.out _ ht).1;rw [hBe] at this;omega)
    obtain ⟨h5,h6,h7,h8⟩:=HS.out.o x Hxm.out;refine (copyBucket_any x w ((HA.out.bk x Hxm.out).only0 h0) h5 h6 h7 h8).mono ?_;rintro e w' ⟨y,rfl,h9,h10,h11⟩
    exact ⟨y,rfl,⟨h9,h10⟩,h11⟩)
   have Hlo:=Lib.hid hlo;have hRr:∀ a,Only (w3.heap.size :: blk c.pb) a a:=fun a=>Only.refl _ _;have hRt:∀ a b e,Only (w3.heap.size :: blk c.pb) a b→Only (w3.heap.size :: blk c.pb) b e→Only (w3.heap.size :: blk c.pb) a e:=fun a b e h h2=>h.trans h2 (fun i hi _=>hi);have hRd:Only (w3.heap.size :: blk c.pb) wt wt.drew:=(Only.drew _).mono (by simp);have hC0:∀ i∈[5,7],(fun (i:Nat) (a:World)=>(i=5→Only [] wt a)∧(i=7→Row a w3.heap.size 29 (lcCells c))) i wt.drew:=fun _ _=>⟨fun _=>Only.drew _,fun _=>HX.out.only0 (Only.drew _)⟩;refine wp_region_rg4 (Only (w3.heap.size :: blk c.pb)) (Dirt [(5,blk c.pb),(7,[w3.heap.size])]) (fun (i:Nat) (a:World)=>(i=5→Only [] wt a)∧(i=7→Row a w3.heap.size 29 (lcCells c))) [5,7] [[(3,none)],[(17,some 0)],[(5,none)],[(19,some 0)],[(20,some 0)],[(18,some 3),(21,some 0)],[(3,none)],[(23,some 0),(22,some 1)]] [] [none,none,none,none,none,none,none,none,none,none,none,none,none,none,none,none,none,some 17,some 18,some 19,some 20,some 21,some 22,some 23,none,none] (by kernel_rfl) rfl (by kernel_rfl) hRr hRt (fun _ _=>Only.refl _ _) hRd hC0 (by kernel_rfl) (by kernel_rfl) ?_
   apply rgd_ev
   ·rintro a w hR hC ⟨(e3:_=_),-⟩;refine rg_plain rfl fun K hK=>?_;go_simp;exact hK _ _ rfl ⟨hRr _,Only.refl _ _,fun _ _ _ _ h=>h⟩
   apply rgd_ev
   ·rintro a w hR hC ⟨(e17:_=_),-⟩;refine rg_plain rfl fun K hK=>?_;have hC7:=(hC 7 (by simp) (by kernel_rfl)).2 rfl;have g:=hC7.cell (i:=0) rfl;go_simp;exact hK _ _ rfl ⟨hRr _,Only.refl _ _,fun _ _ _ _ h=>h⟩
   apply rgd_ev
   ·rintro a w hR hC ⟨(e5:_=_),-⟩;refine rg_plain rfl fun K hK=>?_;have g0:=hR.cell Z0.out hnZ;have g1:=hR.cell Z1.out hnZ;have g2:=hR.cell Z2.out hnZ;have g3:=hR.cell Z3.out hnZ;have g4:=hR.cell Z4.out hnZ;go_simp;exact hK _ _ rfl ⟨hRr _,Only.refl _ _,fun _ _ _ _ h=>h⟩
   refine ⟨CpV lbV (PB x lo),stands_of (CpV.stable PB.st (by simp)) (two_dirt (Z:=fun y=>Stable (Only y.2) (CpV lbV (PB x lo))) (fun _=>CpV.stable PB.st hlt5) (fun _=>CpV.stable PB.st hlt7)),fun a w hR hC hf=>?_,?_⟩
   ·obtain ⟨e19,-⟩:=hf;replace e19:a.tmps.getD 19 undef=_:=e19;refine rg_plain rfl fun K hK=>?_;have hcy:=HC.out w hR;unfold lbV at hcy;go_simp;(with_reducible refine hcy.mono ?_);rintro e w' ⟨y,rfl,hy,ho⟩;exact hK _ _ ⟨y,rfl,PB.weaken hy (Nat.le_trans (Nat.le_of_eq hlo) hR.size)⟩ ⟨ho.mono (by simp),ho,fun i _ _ _ hc=>⟨fun e=>(hc.1 e).trans0 ho,fun e=>(hc.2 e).only0 ho⟩⟩
   refine ⟨CpS lbCells 60 (PB x lo) lo,stands_of (CpS.stable PB.st (by simp)) (two_dirt (Z:=fun y=>Stable (Only y.2) (CpS lbCells 60 (PB x lo) lo)) (fun _=>CpS.stable PB.st hlt5) (fun _=>CpS.stable PB.st hlt7)),fun a w hR hC hf=>?_,?_⟩
   ·obtain ⟨e20,-⟩:=hf;replace e20:CpV lbV (PB x lo) (a.tmps.getD 20 undef) w:=e20;refine rg_plain rfl fun K hK=>?_;obtain ⟨y,e20,hy⟩:=e20;unfold lbV at e20;have e20':=e20;rw [Array.getD_eq_getD_getElem?] at e20';go_simp;refine hK _ _ ⟨y,w.heap.size,rfl,Nat.le_trans (Nat.le_of_eq hlo) hR.size,Row.newOf w _ _ _ (by rfl),PB.st _ _ _ _ hy (Only.alloc w _) (by simp)⟩ ⟨(Only.alloc w _).mono (by simp),Only.alloc w _,fun i _ _ _ hc=>⟨fun e=>(hc.1 e).trans0 (Only.alloc w _),fun e=>(hc.2 e).only0 (Only.alloc w _)⟩⟩
   refine ⟨CpA lbCells 60 5 (PB x lo) LBk.fp lo B (blk c.pb) c.bs.length c.bs,stands_of (CpA.stable PB.st (by simp) (by simp)) (two_dirt (Z:=fun y=>Stable (Only y.2) (CpA lbCells 60 5 (PB x lo) LBk.fp lo B (blk c.pb) c.bs.length c.bs)) (fun h=>Bool.noConfusion (h.symm.trans (by kernel_rfl:_=true))) (fun _=>CpA.stable PB.st hlt7 (by simpa using hXp))),fun a w hR hC hf=>?_,?_⟩
   ·obtain ⟨e18,e21,-⟩:=hf;replace e18:a.tmps.getD 18 undef=_:=e18;replace e21:CpS lbCells 60 (PB x lo) lo (a.tmps.getD 21 undef) w:=e21;refine rg_plain rfl fun K hK=>?_;obtain ⟨y,g,e21,hg,hrow,hy⟩:=e21;have hC5:=(hC 5 (by simp) (by kernel_rfl)).1 rfl;obtain ⟨p',k',w',hra,oA,hA⟩:=appendK (P:=Tryz.prog) (bytes:=80) (c:=1) (q:=some ⟨g,0,none⟩) (n:=c.bs.length) (m:=1) (news:=lbCells y) (t:=26) (ty:=26) w Tryz.underlying26 Tryz.infoLB rfl (by omega) (Hown.out.only0 hC5) hrow.rd0 rfl (by simp) (lbCells_one y) (by have:=Hnb.out;omega) (by have:=Hnb.out;omega) (by have:=hR.size;have:=HB.out;omega)
    have hat:=appendK_at (P:=Tryz.prog) (bytes:=80) (c:=1) (q:=some ⟨g,0,none⟩) (n:=c.bs.length) (m:=1) (news:=lbCells y) (t:=26) (ty:=26) w Tryz.underlying26 Tryz.infoLB rfl (by omega) (Hown.out.only0 hC5) hrow.rd0 rfl (by simp) (lbCells_one y) (by have:=Hnb.out;omega) (by have:=Hnb.out;omega) hra;refine rg_append (s:=.tmp 18) (x:=.tmp 21) rfl e18 e21 hra ?_;refine hK _ _ ⟨y,p',k',rfl,PB.st _ _ _ _ hy hA hlt5,by rw [List.flatMap_append];simpa using oA,fun z hz=>?_⟩ ⟨hA.mono (fun x hx=>List.mem_cons_of_mem _ hx),hA,fun i _ hne _ hc=>⟨fun e=>absurd e hne,fun e=>(hc.2 e).only hA hXp⟩⟩
    rcases hat with rfl | ⟨g',rfl,hg'⟩
    ·exact .inl hz
    ·simp [blk] at hz;subst hz;exact .inr ⟨Nat.le_trans (Nat.le_of_eq hlo) (Nat.le_trans hR.size hg'),fun hm=>by have:=PB.lt hy _ hm;omega⟩
   apply rgd_ev
   ·rintro a w hR hC ⟨(e3:_=_),-⟩;refine rg_plain rfl fun K hK=>?_;go_simp;exact hK _ _ rfl ⟨hRr _,Only.refl _ _,fun _ _ _ _ h=>h⟩
   refine ⟨CpZ lbCells 60 5 (PB x lo) LBk.fp lo B (blk c.pb) c.bs.length c.bs w3.heap.size 29 (fun v=>[v,.slice c.pf c.fs.length c.cf]),stands_of (CpZ.stable PB.st) (two_dirt (Z:=fun y=>Stable (Only y.2) (CpZ lbCells 60 5 (PB x lo) LBk.fp lo B (blk c.pb) c.bs.length c.bs w3.heap.size 29 (fun v=>[v,.slice c.pf c.fs.length c.cf]))) (fun h=>Bool.noConfusion (h.symm.trans (by kernel_rfl:_=true))) (fun h=>by simp at h)),fun a w hR hC hf=>?_,?_⟩
   ·obtain ⟨e23,e22,-⟩:=hf;replace e23:a.tmps.getD 23 undef=_:=e23;replace e22:CpA lbCells 60 5 (PB x lo) LBk.fp lo B (blk c.pb) c.bs.length c.bs (a.tmps.getD 22 undef) w:=e22;refine rg_plain rfl fun K hK=>?_;have hC7:=(hC 7 (by simp) (by kernel_rfl)).2 rfl;obtain ⟨y,p',k',e22,hy,oA,hb⟩:=e22;have h7c:=hC7.cell (i:=0) rfl;have h7f:=hC7.free 0;go_simp;have hst:Only [w3.heap.size] w (w.setCell ⟨w3.heap.size,0,none⟩ (.slice p' (c.bs.length+1) k')):=Only.setCell w ⟨w3.heap.size,0,none⟩ _;refine hK undef _ ⟨y,p',k',PB.st _ _ _ _ hy hst hlt7,oA.onlyB hst (fun z hz hm=>?_),hb,hC7.setCell 0 _⟩ ⟨hst.mono (by simp),hst,?_⟩
    ·obtain rfl:=List.mem_singleton.1 hm
     rcases hb _ hz with h | h
     ·exact hXp h
     ·have:=hlt7 w3.heap.size (by simp);omega
    ·intro i hi hne ha _;simp only [List.mem_cons,List.not_mem_nil,or_false] at hi
     rcases hi with rfl | rfl
     ·exact Bool.noConfusion (ha.symm.trans (by kernel_rfl:_=true))
     ·exact absurd rfl hne
   intro fR5 wR5 hRR5 hf hzR5;dsimp only [mergeT];obtain ⟨v7,y,p',k',hy,oA,hb,hrw⟩:=hzR5 _ (List.mem_cons_self ..);rw [hBe] at oA;rw [hlo] at hy hb;have HIn:=Lib.hid (HI.out.push HX3.out hRR5 hy.2 oA hb hrw);have Hyx:=Lib.hid hy.1;clear hRr hRt hRd hC0 hzR5 hy oA hb hrw hRR5 hlt5 hlt7 hXp;go_wp2_with fail;refine ⟨⟨i+1,by go_num,by omega,Lib.hid ⟨_,HIn.out,HE.out.1,?_⟩⟩,?_⟩
   ·rw [Htk.out,List.map_append,HE.out.2,List.map_singleton,Hyx.out]
   ·show n - ((i:Int)+1).toNat < n - ((i:Int)).toNat;omega
  ·obtain rfl:i=n:=(by omega);obtain ⟨c,hI,e1,e2⟩:=HC.out;rw [List.take_of_length_le (by rw [Hn.out];exact Nat.le_refl _)] at e2;have x0:=hI.rx.cell (i:=0) rfl;have x1:=hI.rx.cell (i:=1) rfl;have hst:=hI.rr.storeAt (P:=Tryz.prog) (ty:=29) (us:=lcCells c) lcInfo rfl (by intro u hu;exact lcCells_one c u hu);have Hrow:=Lib.hid (hI.rr.setRow (lcCells c));have oS:=Only.setRow wr (w0.heap.size+1) (lcCells c).toArray;have HOf:=Lib.hid (hI.only.transN oS (by simp));have Hown:Hid (CatOwn (wr.setRow (w0.heap.size+1) (lcCells c).toArray) w0.heap.size c):=Lib.hid ((hI.own.only oS (fun z hz hm=>by have h1:=(hI.own.lo z hz).1;have h2:=List.mem_singleton.1 hm;omega)).weaken (by omega))
   have Hcb:Hid (c.cat=L.cat):=Lib.hid (by unfold LCat.cat;rw [e1,e2]);have Hst:=Lib.hid hst;clear hI hst oS HC e1 e2
   go_wp2_with (first | ((with_reducible show wpList _ _ _ _ _ _);refine wpl_store (ty:=29) (x:=.tmp 2) (y:=.tmp 25) rfl rfl rfl rfl Hst.out ?_))
   exact bodyPost_ret (results_c1 rfl _ _ _ rfl Hrow.out Tryz.underlying29 lcInfo) rfl ⟨c,rfl,Hcb.out,Hown.out,HOf.out⟩
end
section
open Go.RowKit
def ziCells (xs:List Int):List Value:=xs.map fun x=>.int .i64 x
structure LCmd where
 x:Cmd
 p:Option Addr
 c:Nat
def lmCells (m:LCmd):List Value:=[.int .i64 m.x.kind,.int .i64 m.x.id.node,.int .i64 m.x.id.boot,.int .i64 m.x.id.seq,.string (str m.x.bucket),.string (str m.x.key),.int .i64 m.x.upload.node,.int .i64 m.x.upload.boot,.int .i64 m.x.upload.seq,.int .i64 m.x.piece.blob.node,.int .i64 m.x.piece.blob.boot,.int .i64 m.x.piece.blob.seq,.int .i64 m.x.piece.size,.string (str m.x.piece.etag),.int .i64 m.x.part,.slice m.p m.x.parts.length m.c,.int .i64 m.x.time,.int .i64 m.x.days]
def lmV (m:LCmd):Value:=.agg #[.int .i64 m.x.kind,.int .i64 m.x.id.node,.int .i64 m.x.id.boot,.int .i64 m.x.id.seq,.string (str m.x.bucket),.string (str m.x.key),.int .i64 m.x.upload.node,.int .i64 m.x.upload.boot,.int .i64 m.x.upload.seq,.int .i64 m.x.piece.blob.node,.int .i64 m.x.piece.blob.boot,.int .i64 m.x.piece.blob.seq,.int .i64 m.x.piece.size,.string (str m.x.piece.etag),.int .i64 m.x.part,.slice m.p m.x.parts.length m.c,.int .i64 m.x.time,.int .i64 m.x.days]
theorem lmCells_len (m:LCmd):(lmCells m).length=18:=rfl
def CmAt (w:World) (m:LCmd):Prop:=SlOk w m.p m.x.parts.length m.c (ziCells m.x.parts)
theorem CmAt.only0 {w w':World} {m:LCmd} (h:CmAt w m) (ho:Only [] w w'):CmAt w' m:=SlOk.only0 h ho
def oucV (o:Outc):Value:=.agg #[.int .i64 o.code,.string (str o.etag)]
def oucCells (o:Outc):List Value:=[.int .i64 o.code,.string (str o.etag)]
theorem cmInfo:(Tryz.prog.info? 36).map (·.size)=some 18:=by kernel_rfl
theorem Row.loadSA {P:Program} {w:World} {g:Nat} {t ty:TypeId} {fs:Array Field} {vs:List Value} (r:Row w g t vs) (hu:P.underlying ty=some (.struct fs)) (hi:(P.info? ty).map (·.size)=some vs.length):(Instr.loadAt ty (.pointer (some ⟨g,0,none⟩))).run P w=.ok (.agg vs.toArray) w:=by
 simp only [Instr.loadAt,Instr.sureAddr,Sem.run_bind,Sem.run_pure,Result.andThen];exact run_loadVar_row w g t ty vs.toArray (0,0) _ r hu rfl (by simpa using hi)
theorem oucInfo:(Tryz.prog.info? 38).map (·.size)=some 2:=by kernel_rfl
theorem ziCells_get {xs:List Int} {i:Nat} {x:Int} (h:xs[i]?=some x):(ziCells xs)[i]?=some (.int .i64 x):=by simp [ziCells,h]
def Ty (w:World) (z:Nat) (t:TypeId):Prop:=∃ cs,w.heap[z]?=some (.cells cs t (0,0))
theorem results_cc {P:Program} {fn:Func} {a b:Tmp} {ty t ty2 t2:TypeId} {fs gs:Array Field} {vs us:List Value} (h:fn.results=#[.cell a ty,.cell b ty2]) (tmps:Array Value) (w:World) (g k:Nat) (ht:tmps.getD a undef=.pointer (some ⟨g,0,none⟩)) (hk:tmps.getD b undef=.pointer (some ⟨k,0,none⟩)) (r:Row w g t vs) (r2:Row w k t2 us) (hu:P.underlying ty=some (.struct fs)) (hi:(P.info? ty).map (·.size)=some vs.length) (hu2:P.underlying ty2=some (.struct gs)) (hi2:(P.info? ty2).map (·.size)=some us.length) :
  (results fn tmps).run P w=.ok (.tuple #[.agg vs.toArray,.agg us.toArray]) w:=by
 rw [Array.getD_eq_getD_getElem?] at ht hk;have hl:=r.loadS hu hi;have hl2:=r2.loadS hu2 hi2
 simp [results,h,ht,hk,hl,hl2,asAddr]
theorem Row.set5 {w:World} {g:Nat} {t:TypeId} {v0 v1 v2 v3 v4:Value} (h:Row w g t [v0,v1,v2,v3,v4]) (u0 u1 u2 u3 u4:Value):Row (((((w.setCell ⟨g,0,none⟩ u0).setCell ⟨g,1,none⟩ u1).setCell ⟨g,2,none⟩ u2).setCell ⟨g,3,none⟩ u3).setCell ⟨g,4,none⟩ u4) g t [u0,u1,u2,u3,u4] :=
 ((((h.setCell 0 u0).setCell 1 u1).setCell 2 u2).setCell 3 u3).setCell 4 u4
theorem only_set5 (w:World) (g:Nat) (u0 u1 u2 u3 u4:Value):Only [g] w (((((w.setCell ⟨g,0,none⟩ u0).setCell ⟨g,1,none⟩ u1).setCell ⟨g,2,none⟩ u2).setCell ⟨g,3,none⟩ u3).setCell ⟨g,4,none⟩ u4) :=
 ((((Only.setCell w ⟨g,0,none⟩ u0).trans (Only.setCell _ ⟨g,1,none⟩ u1) (fun _ h _=>h)).trans (Only.setCell _ ⟨g,2,none⟩ u2) (fun _ h _=>h)).trans (Only.setCell _ ⟨g,3,none⟩ u3) (fun _ h _=>h)).trans (Only.setCell _ ⟨g,4,none⟩ u4) (fun _ h _=>h)
theorem Row.set2 {w:World} {g:Nat} {t:TypeId} {v0 v1:Value} (h:Row w g t [v0,v1]) (u0 u1:Value):Row ((w.setCell ⟨g,0,none⟩ u0).setCell ⟨g,1,none⟩ u1) g t [u0,u1]:=(h.setCell 0 u0).setCell 1 u1
theorem only_set2 (w:World) (g:Nat) (u0 u1:Value):Only [g] w ((w.setCell ⟨g,0,none⟩ u0).setCell ⟨g,1,none⟩ u1):=(Only.setCell w ⟨g,0,none⟩ u0).trans (Only.setCell _ ⟨g,1,none⟩ u1) (fun _ h _=>h)
end
section
open Go.RowKit Go.Shelf
attribute [local go_sem] Oper.semAt_some
theorem take_snoc' {γ:Type} {l:List γ} {j:Nat} {p:γ} (hp:l[j]?=some p):l.take (j+1)=l.take j ++ [p]:=by
 rw [List.take_add_one,hp];rfl
end
section
open Go.RowKit
set_option maxHeartbeats 8000000 in
theorem bsfPt_any (p:Option Addr) (n c:Nat) (xs:List CPart) (k:Int) (w0:World) (hn:xs.length=n) (hb:n≤1000000) (hp:p=none→n=0) (hx:Rd w0 p (xs.flatMap ptCells)) (hs:SortB CPart.num ltZ xs) :
  Calls Tryz.prog 151 #[.slice p n c,.int .i64 k,.func (.func 136) #[] #[]] w0 fun e w'=>e=.returned (.tuple #[.int .i64 ((posL CPart.num ltZ xs k:Nat):Int),.bool (thereL CPart.num ltZ xs k)])∧Only [] w0 w':=by
 have Hx:=Lib.hid hx;have Hs:=Lib.hid hs;have Hn:=Lib.hid hn;have Hp:=Lib.hid hp;clear hx hs hn hp
 go_enter Tryz.func151,Tryz.ntmps151
 go_wp2_with fail
 go_loopw [9,10] (fun s9 s10 wr=>∃ i j:Nat,s9=.int .i64 (i:Int)∧s10=.int .i64 (j:Int)∧i≤j∧j≤n∧Hid ((∀ x,0 < i→xs[i - 1]?=some x→ltZ (CPart.num x) k)∧(∀ x,xs[j]?=some x→¬ ltZ (CPart.num x) k))∧Hid (Only [] w0 wr)) (fun s9 s10 _=>(intOf s10).toNat - (intOf s9).toNat)
 case atStart=>exact ⟨0,n,rfl,rfl,Nat.zero_le _,Nat.le_refl _,Lib.hid ⟨fun x h=>absurd h (by omega),fun x h=>by have:=(List.getElem?_eq_some_iff.1 h).1;rw [Hn.out] at this;omega⟩,Lib.hid (Only.refl _ _)⟩
 case round =>
  obtain ⟨i,j,rfl,rfl,hij,hjn,HI,HO⟩:=hrel
  by_cases hlt:i < j
  ·obtain ⟨x,hxx⟩:∃ x,xs[(i+j) / 2]?=some x:=⟨_,List.getElem?_eq_getElem (by rw [Hn.out];omega)⟩;have hrd:=Hx.out.only0 HO.out;have hne:xs.flatMap ptCells≠[]:=fun e'=>(by have:=flat_get ptCells 6 ptCells_len xs _ x 0 hxx (by omega);rw [e'] at this;cases this);obtain ⟨b,off,rfl,-⟩:=hrd.lt hne;have x0:=rd_elem ptCells_len hrd hxx (r:=0) rfl;have x1:=rd_elem ptCells_len hrd hxx (r:=1) rfl;have x2:=rd_elem ptCells_len hrd hxx (r:=2) rfl;have x3:=rd_elem ptCells_len hrd hxx (r:=3) rfl;have x4:=rd_elem ptCells_len hrd hxx (r:=4) rfl;have x5:=rd_elem ptCells_len hrd hxx (r:=5) rfl
   rw [Addr.add_lit,← Nat.add_assoc] at x0 x1 x2 x3 x4 x5;rw [Nat.add_zero] at x0;have hby:=byNumber_any x k wr;have Hxx:=Lib.hid hxx;unfold ptV at hby;have hmid:(i+j) / 2 < n:=(by omega);clear hrd hne hxx
   by_cases hl:ltZ (CPart.num x) k
   ·rw [decide_eq_true hl] at hby;unfold sgn at hby;rw [if_pos rfl] at hby;have Hl:=Lib.hid hl;clear hl;go_wp2_with fail;refine hby.mono ?_;clear hby x0 x1 x2 x3 x4 x5;rintro e w' ⟨rfl,o'⟩
    have HI2:Hid ((∀ x,0 < (i+j) / 2+1→xs[(i+j) / 2+1 - 1]?=some x→ltZ (CPart.num x) k)∧(∀ x,xs[j]?=some x→¬ ltZ (CPart.num x) k)):=Lib.hid ⟨fun y _ hy=>by
     rw [Nat.add_sub_cancel,Hxx.out] at hy
     cases hy
     exact Hl.out,HI.out.2⟩
    have HO2:=Lib.hid (HO.out.trans0 o');clear o';go_wp2_with fail;refine ⟨⟨(i+j) / 2+1,j,by go_num,rfl,by omega,hjn,HI2,HO2⟩,?_⟩
    simp [intOf];omega
   ·rw [decide_eq_false hl] at hby;unfold sgn at hby;rw [if_neg (by simp)] at hby;have Hl:=Lib.hid hl
    have HI2:Hid ((∀ x,0 < i→xs[i - 1]?=some x→ltZ (CPart.num x) k)∧(∀ x,xs[(i+j) / 2]?=some x→¬ ltZ (CPart.num x) k)):=Lib.hid ⟨HI.out.1,fun y hy=>by
     rw [Hxx.out] at hy
     cases hy
     exact Hl.out⟩
    clear hl
    by_cases hk:CPart.num x=k
    ·rw [decide_eq_true hk,if_pos rfl] at hby;clear hk;go_wp2_with fail;refine hby.mono ?_;clear hby x0 x1 x2 x3 x4 x5;rintro e w' ⟨rfl,o'⟩;have HO2:=Lib.hid (HO.out.trans0 o');clear o';go_wp2_with fail;refine ⟨⟨i,(i+j) / 2,rfl,by go_num,by omega,by omega,HI2,HO2⟩,?_⟩
     simp [intOf];omega
    ·rw [decide_eq_false hk,if_neg (by simp)] at hby;clear hk;go_wp2_with fail;refine hby.mono ?_;clear hby x0 x1 x2 x3 x4 x5;rintro e w' ⟨rfl,o'⟩;have HO2:=Lib.hid (HO.out.trans0 o');clear o';go_wp2_with fail;refine ⟨⟨i,(i+j) / 2,rfl,by go_num,by omega,by omega,HI2,HO2⟩,?_⟩
     simp [intOf];omega
  ·obtain rfl:i=j:=(by omega);have Hpos:Hid (posL CPart.num ltZ xs k=i):=Lib.hid (posL_eq linZ' Hs.out (by rw [Hn.out];exact hjn) HI.out.1 HI.out.2)
   by_cases hin:i < n
   ·obtain ⟨x,hxx⟩:∃ x,xs[i]?=some x:=⟨_,List.getElem?_eq_getElem (by rw [Hn.out];omega)⟩;have Hth:Hid (thereL CPart.num ltZ xs k=decide (CPart.num x=k)):=Lib.hid (by unfold thereL;rw [Hpos.out,hxx]);have hl:=HI.out.2 x hxx;have hrd:=Hx.out.only0 HO.out;have hne:xs.flatMap ptCells≠[]:=fun e'=>(by have:=flat_get ptCells 6 ptCells_len xs _ x 0 hxx (by omega);rw [e'] at this;cases this);obtain ⟨b,off,rfl,-⟩:=hrd.lt hne;have x0:=rd_elem ptCells_len hrd hxx (r:=0) rfl;have x1:=rd_elem ptCells_len hrd hxx (r:=1) rfl;have x2:=rd_elem ptCells_len hrd hxx (r:=2) rfl
    have x3:=rd_elem ptCells_len hrd hxx (r:=3) rfl;have x4:=rd_elem ptCells_len hrd hxx (r:=4) rfl;have x5:=rd_elem ptCells_len hrd hxx (r:=5) rfl;rw [Addr.add_lit,← Nat.add_assoc] at x0 x1 x2 x3 x4 x5;rw [Nat.add_zero] at x0;have hby:=byNumber_any x k wr;unfold ptV sgn at hby;rw [decide_eq_false hl,if_neg (by simp)] at hby;clear hrd hne hxx hl
    by_cases hk:CPart.num x=k
    ·rw [decide_eq_true hk,if_pos rfl] at hby;rw [decide_eq_true hk] at Hth;clear hk;go_wp2_with fail;refine hby.mono ?_;clear hby x0 x1 x2 x3 x4 x5;rintro e w' ⟨rfl,o'⟩;have HO2:=Lib.hid (HO.out.trans0 o');clear o';go_wp2_with fail
     go_ret2
     exact ⟨by rw [Hpos.out,Hth.out];rfl,HO2.out⟩
    ·rw [decide_eq_false hk,if_neg (by simp)] at hby;rw [decide_eq_false hk] at Hth;clear hk;go_wp2_with fail;refine hby.mono ?_;clear hby x0 x1 x2 x3 x4 x5;rintro e w' ⟨rfl,o'⟩;have HO2:=Lib.hid (HO.out.trans0 o');clear o';go_wp2_with fail
     go_ret2
     exact ⟨by rw [Hpos.out,Hth.out];rfl,HO2.out⟩
   ·obtain rfl:i=n:=by omega
    have Hth:Hid (thereL CPart.num ltZ xs k=false):=Lib.hid (by
     unfold thereL
     rw [Hpos.out,List.getElem?_eq_none_iff.2 (by rw [Hn.out];exact Nat.le_refl _)])
    go_wp2_with fail
    go_ret2
    exact ⟨by rw [Hpos.out,Hth.out];rfl,HO.out⟩
theorem findPt_any (p:Option Addr) (n c:Nat) (xs:List CPart) (k:Int) (w0:World) (hn:xs.length=n) (hb:n≤1000000) (hp:p=none→n=0) (hx:Rd w0 p (xs.flatMap ptCells)) (hs:SortB CPart.num ltZ xs) :
  Calls Tryz.prog 138 #[.slice p n c,.int .i64 k,.func (.func 136) #[] #[]] w0 fun e w'=>e=.returned (.tuple #[.int .i64 ((posL CPart.num ltZ xs k:Nat):Int),.bool (thereL CPart.num ltZ xs k)])∧Only [] w0 w':=by
 have h:=bsfPt_any p n c xs k w0 hn hb hp hx hs;generalize posL CPart.num ltZ xs k=i at h;generalize thereL CPart.num ltZ xs k=b at h
 go_enter Tryz.func138,Tryz.ntmps138
 go_wp2_with fail;refine h.mono ?_;clear h;rintro e w' ⟨rfl,o'⟩;go_wp2_with fail
 go_ret2
 exact ⟨rfl,o'⟩
end
section
open Go.RowKit
set_option maxHeartbeats 16000000 in
theorem sameOb_any (a b:LObj) (w0:World) (ha:ObAt w0 a) (hb:ObAt w0 b) (hnb:a.o.pcs.length≤1000000):Calls Tryz.prog 24 #[loV a,loV b] w0 fun e w'=>e=.returned (.bool (decide (a.o=b.o)))∧Only [] w0 w':=by
 obtain ⟨⟨k1,z1,e1,t1,p1⟩,q1,c1⟩:=a;obtain ⟨⟨k2,z2,e2,t2,p2⟩,q2,c2⟩:=b;obtain ⟨n1,hn1⟩:∃ n,p1.length=n:=⟨_,rfl⟩;obtain ⟨n2,hn2⟩:∃ n,p2.length=n:=⟨_,rfl⟩;unfold ObAt at ha hb;dsimp only at ha hb hnb;rw [hn1] at ha hnb;rw [hn2] at hb;unfold loV;dsimp only;rw [hn1,hn2];obtain ⟨D,hD⟩:∃ D,decide ((⟨k1,z1,e1,t1,p1⟩:CObj)=⟨k2,z2,e2,t2,p2⟩)=D:=⟨_,rfl⟩;rw [hD];obtain ⟨w1,hw1⟩:∃ w1,w1=w0.alloc (.cells #[.string (str k1),.int .i64 z1,.string (str e1),.int .i64 t1,.slice q1 n1 c1] 48):=⟨_,rfl⟩;have o1:Only [] w0 w1:=by rw [hw1];exact Only.alloc _ _
 have s1:w1.heap.size=w0.heap.size+1:=(by rw [hw1];simp);have r1:Row w1 (w0.heap.size) 48 [.string (str k1),.int .i64 z1,.string (str e1),.int .i64 t1,.slice q1 n1 c1]:=(by rw [hw1];exact Row.newOf _ _ _ _ rfl);obtain ⟨w2,hw2⟩:∃ w2,w2=w1.alloc (.cells #[.string (str k2),.int .i64 z2,.string (str e2),.int .i64 t2,.slice q2 n2 c2] 48):=⟨_,rfl⟩;have o2:Only [] w1 w2:=(by rw [hw2];exact Only.alloc _ _);have s2:w2.heap.size=w0.heap.size+1+1:=(by rw [hw2];simp [s1]);have r2:Row w2 (w0.heap.size+1) 48 [.string (str k2),.int .i64 z2,.string (str e2),.int .i64 t2,.slice q2 n2 c2]:=by rw [← s1,hw2];exact Row.newOf _ _ _ _ rfl
 replace r1:=r1.only0 o2;have oAll:Only [] w0 w2:=(o1.trans0 o2);rw [hw1] at hw2;have Ha:=Lib.hid (ha.only0 oAll);have Hb:=Lib.hid (hb.only0 oAll);have HO:=Lib.hid oAll;have Hw:=Lib.hid hw2;have Hr1:=Lib.hid r1;have Hr2:=Lib.hid r2;have HDD:=Lib.hid hD;have Hn:Hid (p1.length=n1∧p2.length=n2):=Lib.hid ⟨hn1,hn2⟩;have a0:=r1.cell (i:=0) rfl;have a1:=r1.cell (i:=1) rfl;have a2:=r1.cell (i:=2) rfl;have a3:=r1.cell (i:=3) rfl;have a4:=r1.cell (i:=4) rfl;have b0:=r2.cell (i:=0) rfl;have b1:=r2.cell (i:=1) rfl;have b2:=r2.cell (i:=2) rfl
 have b3:=r2.cell (i:=3) rfl;have b4:=r2.cell (i:=4) rfl;clear hn1 hn2 ha hb oAll hw2 s2 s1 o1 o2 hw1 r1 r2 hD
 by_cases hk:k1=k2
 rotate_left
 ·have fk:=str_eqb k1 k2;rw [decide_eq_false hk] at fk;have Hx:=Lib.hid hk;clear hk;have HD:Hid (D=false):=Lib.hid (by rw [← HDD.out];exact decide_eq_false (fun e=>Hx.out (congrArg CObj.key e)));clear HDD
  go_enter Tryz.func24,Tryz.ntmps24
  go_upto_region 1 with (fail)
  rw [← Hw.out];go_wp2_with fail
  go_ret
  exact ⟨by rw [HD.out];rfl,HO.out⟩
 subst hk;have fk:=str_eqb k1 k1;rw [decide_eq_true rfl] at fk
 by_cases hz:z1=z2
 rotate_left
 ·have fz:(z1 == z2)=false:=beq_eq_false_iff_ne.2 hz;have Hx:=Lib.hid hz;clear hz;have HD:Hid (D=false):=Lib.hid (by rw [← HDD.out];exact decide_eq_false (fun e=>Hx.out (congrArg CObj.size e)));clear HDD
  go_enter Tryz.func24,Tryz.ntmps24
  go_upto_region 1 with (fail)
  rw [← Hw.out];go_wp2_with fail
  go_ret
  exact ⟨by rw [HD.out];rfl,HO.out⟩
 subst hz
 by_cases he:e1=e2
 rotate_left
 ·have fe:=str_eqb e1 e2;rw [decide_eq_false he] at fe;have Hx:=Lib.hid he;clear he;have HD:Hid (D=false):=Lib.hid (by rw [← HDD.out];exact decide_eq_false (fun e=>Hx.out (congrArg CObj.etag e)));clear HDD
  go_enter Tryz.func24,Tryz.ntmps24
  go_upto_region 1 with (fail)
  rw [← Hw.out];go_wp2_with fail
  go_ret
  exact ⟨by rw [HD.out];rfl,HO.out⟩
 subst he;have fe:=str_eqb e1 e1;rw [decide_eq_true rfl] at fe
 by_cases ht:t1=t2
 rotate_left
 ·have ft:(t1 == t2)=false:=beq_eq_false_iff_ne.2 ht;have Hx:=Lib.hid ht;clear ht;have HD:Hid (D=false):=Lib.hid (by rw [← HDD.out];exact decide_eq_false (fun e=>Hx.out (congrArg CObj.time e)));clear HDD
  go_enter Tryz.func24,Tryz.ntmps24
  go_upto_region 1 with (fail)
  rw [← Hw.out];go_wp2_with fail
  go_ret
  exact ⟨by rw [HD.out];rfl,HO.out⟩
 subst ht
 by_cases hln:n1=n2
 rotate_left
 ·have fl:((n1:Int) == (n2:Int))=false:=beq_eq_false_iff_ne.2 (by omega);have fl2:¬ ((n1:Int)=(n2:Int)):=(by omega);have Hx:=Lib.hid hln;clear hln;have HD:Hid (D=false):=Lib.hid (by rw [← HDD.out];exact decide_eq_false (fun e=>Hx.out (by have:=congrArg (fun x=>(x.pcs).length) e;rw [← Hn.out.1,← Hn.out.2];exact this)));clear HDD
  go_enter Tryz.func24,Tryz.ntmps24
  go_upto_region 1 with (fail)
  rw [← Hw.out];go_wp2_with fail
  go_ret
  exact ⟨by rw [HD.out];rfl,HO.out⟩
 subst hln
 go_enter Tryz.func24,Tryz.ntmps24
 go_upto_region 1 with (fail)
 rw [← Hw.out];go_wp2_with fail;clear a0 b0 a1 b1 a2 b2 a3 b3 a4 b4
 go_loopw [44] (fun a wl=>∃ i:Nat,a=.int .i64 (i:Int)∧i≤n1∧Hid (p1.take i=p2.take i)∧Hid (Only [] w2 wl)) (fun a _=>n1 - (intOf a).toNat)
 case atStart=>exact ⟨0,rfl,Nat.zero_le _,Lib.hid rfl,Lib.hid (Only.refl _ _)⟩
 case round =>
  obtain ⟨i,rfl,hi,HT,HOl⟩:=hrel
  by_cases hlt:i < n1
  ·obtain ⟨x,hx⟩:∃ x,p1[i]?=some x:=⟨_,List.getElem?_eq_getElem (by rw [Hn.out.1];exact hlt)⟩;obtain ⟨y,hy⟩:∃ y,p2[i]?=some y:=⟨_,List.getElem?_eq_getElem (by rw [Hn.out.2];exact hlt)⟩;have hrx:=(Ha.out.only0 HOl.out).1;have hry:=(Hb.out.only0 HOl.out).1;have hnx:p1.flatMap pcCells≠[]:=fun e'=>(by have:=flat_get pcCells 5 pcCells_len p1 _ x 0 hx (by omega);rw [e'] at this;cases this);have hny:p2.flatMap pcCells≠[]:=fun e'=>(by have:=flat_get pcCells 5 pcCells_len p2 _ y 0 hy (by omega);rw [e'] at this;cases this);obtain ⟨bx,ox,rfl,-⟩:=hrx.lt hnx
   obtain ⟨b_y,oy,rfl,-⟩:=hry.lt hny;have x0:=rd_elem pcCells_len hrx hx (r:=0) rfl;have x1:=rd_elem pcCells_len hrx hx (r:=1) rfl;have x2:=rd_elem pcCells_len hrx hx (r:=2) rfl;have x3:=rd_elem pcCells_len hrx hx (r:=3) rfl;have x4:=rd_elem pcCells_len hrx hx (r:=4) rfl;have y0:=rd_elem pcCells_len hry hy (r:=0) rfl;have y1:=rd_elem pcCells_len hry hy (r:=1) rfl;have y2:=rd_elem pcCells_len hry hy (r:=2) rfl;have y3:=rd_elem pcCells_len hry hy (r:=3) rfl;have y4:=rd_elem pcCells_len hry hy (r:=4) rfl;rw [Addr.add_lit,← Nat.add_assoc] at x0 x1 x2 x3 x4 y0 y1 y2 y3 y4
   rw [Nat.add_zero] at x0 y0;have za:=(Hr1.out.only0 HOl.out).cell (i:=4) rfl;have zb:=(Hr2.out.only0 HOl.out).cell (i:=4) rfl;have heq:=fun w=>eqPcN 9997 x y w;unfold pcV at heq;have Hx:=Lib.hid hx;have Hy:=Lib.hid hy;clear hrx hry hnx hny hx hy
   by_cases hxy:x=y
   ·simp only [decide_eq_true hxy] at heq;have HT2:Hid (p1.take (i+1)=p2.take (i+1)):=Lib.hid (by rw [List.take_add_one,List.take_add_one,HT.out,Hx.out,Hy.out,hxy]);clear hxy
    go_upto_region 6 with (fail)
    go_quiet (fail)
    have HO2:=Lib.hid (HOl.out.trans0 (Only.drewN wr nq));clear heq za zb x0 x1 x2 x3 x4 y0 y1 y2 y3 y4;go_wp2_with fail;refine ⟨⟨i+1,by go_num,by omega,HT2,HO2⟩,?_⟩
    simp [intOf];omega
   ·simp only [decide_eq_false hxy] at heq;have HD:Hid (D=false):=Lib.hid (by rw [← HDD.out];exact decide_eq_false (fun e=>hxy (by have h9:p1=p2:=congrArg CObj.pcs e;have h8:=Hx.out;rw [h9,Hy.out] at h8;exact (Option.some.inj h8).symm)));clear hxy
    go_upto_region 6 with (fail)
    go_quiet (fail)
    have HO2:=Lib.hid (HOl.out.trans0 (Only.drewN wr nq));go_wp2_with fail
    go_ret
    exact ⟨by rw [HD.out];rfl,HO.out.trans0 HO2.out⟩
  ·obtain rfl:i=n1:=by omega
   have HD:Hid (D=true):=Lib.hid (by
    rw [← HDD.out];have h9:=HT.out;rw [List.take_of_length_le (by rw [Hn.out.1];exact Nat.le_refl _),List.take_of_length_le (by rw [Hn.out.2];exact Nat.le_refl _)] at h9
    rw [h9];simp)
   go_wp2_with fail
   go_ret
   exact ⟨by rw [HD.out];rfl,HO.out.trans0 HOl.out⟩
end
section
open Go.RowKit
set_option maxHeartbeats 16000000 in
theorem sameUp_any (a b:LUpl) (w0:World) (ha:UpAt w0 a) (hb:UpAt w0 b) (hnb:a.u.parts.length≤1000000):Calls Tryz.prog 27 #[luV a,luV b] w0 fun e w'=>e=.returned (.bool (decide (a.u=b.u)))∧Only [] w0 w':=by
 obtain ⟨⟨i1,k1,p1⟩,q1,c1⟩:=a;obtain ⟨⟨i2,k2,p2⟩,q2,c2⟩:=b;obtain ⟨n1,hn1⟩:∃ n,p1.length=n:=⟨_,rfl⟩;obtain ⟨n2,hn2⟩:∃ n,p2.length=n:=⟨_,rfl⟩;unfold UpAt at ha hb;dsimp only at ha hb hnb;rw [hn1] at ha hnb;rw [hn2] at hb;unfold luV;dsimp only;rw [hn1,hn2];obtain ⟨D,hD⟩:∃ D,decide ((⟨i1,k1,p1⟩:CUpl)=⟨i2,k2,p2⟩)=D:=⟨_,rfl⟩;rw [hD];obtain ⟨w1,hw1⟩:∃ w1,w1=w0.alloc (.cells #[.int .i64 i1.node,.int .i64 i1.boot,.int .i64 i1.seq,.string (str k1),.slice q1 n1 c1] 54):=⟨_,rfl⟩;have o1:Only [] w0 w1:=by rw [hw1];exact Only.alloc _ _
 have s1:w1.heap.size=w0.heap.size+1:=(by rw [hw1];simp);have r1:Row w1 (w0.heap.size) 54 [.int .i64 i1.node,.int .i64 i1.boot,.int .i64 i1.seq,.string (str k1),.slice q1 n1 c1]:=(by rw [hw1];exact Row.newOf _ _ _ _ rfl);obtain ⟨w2,hw2⟩:∃ w2,w2=w1.alloc (.cells #[.int .i64 i2.node,.int .i64 i2.boot,.int .i64 i2.seq,.string (str k2),.slice q2 n2 c2] 54):=⟨_,rfl⟩;have o2:Only [] w1 w2:=(by rw [hw2];exact Only.alloc _ _);have s2:w2.heap.size=w0.heap.size+1+1:=(by rw [hw2];simp [s1]);have r2:Row w2 (w0.heap.size+1) 54 [.int .i64 i2.node,.int .i64 i2.boot,.int .i64 i2.seq,.string (str k2),.slice q2 n2 c2]:=by rw [← s1,hw2];exact Row.newOf _ _ _ _ rfl
 replace r1:=r1.only0 o2;have oAll:Only [] w0 w2:=(o1.trans0 o2);rw [hw1] at hw2;have Ha:=Lib.hid (ha.only0 oAll);have Hb:=Lib.hid (hb.only0 oAll);have HO:=Lib.hid oAll;have Hw:=Lib.hid hw2;have Hr1:=Lib.hid r1;have Hr2:=Lib.hid r2;have HDD:=Lib.hid hD;have Hn:Hid (p1.length=n1∧p2.length=n2):=Lib.hid ⟨hn1,hn2⟩;have a0:=r1.cell (i:=0) rfl;have a1:=r1.cell (i:=1) rfl;have a2:=r1.cell (i:=2) rfl;have a3:=r1.cell (i:=3) rfl;have a4:=r1.cell (i:=4) rfl;have b0:=r2.cell (i:=0) rfl;have b1:=r2.cell (i:=1) rfl;have b2:=r2.cell (i:=2) rfl
 have b3:=r2.cell (i:=3) rfl;have b4:=r2.cell (i:=4) rfl;clear hn1 hn2 ha hb oAll hw2 s2 s1 o1 o2 hw1 r1 r2 hD
 by_cases hi:i1=i2
 rotate_left
 ·have fi:=fun w=>eqIdN 9998 i1 i2 w;unfold idV at fi;simp only [decide_eq_false hi] at fi;have Hx:=Lib.hid hi;clear hi;have HD:Hid (D=false):=Lib.hid (by rw [← HDD.out];exact decide_eq_false (fun e=>Hx.out (congrArg CUpl.id e)));clear HDD
  go_enter Tryz.func27,Tryz.ntmps27
  go_upto_region 1 with (fail)
  rw [← Hw.out];go_wp2_with fail
  go_ret
  exact ⟨by rw [HD.out];rfl,HO.out⟩
 subst hi;have fi:=fun w=>eqIdN 9998 i1 i1 w;unfold idV at fi;simp only [decide_true] at fi
 by_cases hk:k1=k2
 rotate_left
 ·have fk:=str_eqb k1 k2;rw [decide_eq_false hk] at fk;have Hx:=Lib.hid hk;clear hk;have HD:Hid (D=false):=Lib.hid (by rw [← HDD.out];exact decide_eq_false (fun e=>Hx.out (congrArg CUpl.key e)));clear HDD
  go_enter Tryz.func27,Tryz.ntmps27
  go_upto_region 1 with (fail)
  rw [← Hw.out];go_wp2_with fail
  go_ret
  exact ⟨by rw [HD.out];rfl,HO.out⟩
 subst hk;have fk:=str_eqb k1 k1;rw [decide_eq_true rfl] at fk
 by_cases hln:n1=n2
 rotate_left
 ·have fl:((n1:Int) == (n2:Int))=false:=beq_eq_false_iff_ne.2 (by omega);have fl2:¬ ((n1:Int)=(n2:Int)):=(by omega);have Hx:=Lib.hid hln;clear hln;have HD:Hid (D=false):=Lib.hid (by rw [← HDD.out];exact decide_eq_false (fun e=>Hx.out (by have:=congrArg (fun x=>(x.parts).length) e;rw [← Hn.out.1,← Hn.out.2];exact this)));clear HDD
  go_enter Tryz.func27,Tryz.ntmps27
  go_upto_region 1 with (fail)
  rw [← Hw.out];go_wp2_with fail
  go_ret
  exact ⟨by rw [HD.out];rfl,HO.out⟩
 subst hln
 go_enter Tryz.func27,Tryz.ntmps27
 go_upto_region 1 with (fail)
 rw [← Hw.out];go_wp2_with fail;clear a0 b0 a1 b1 a2 b2 a3 b3 a4 b4
 go_loopw [30] (fun a wl=>∃ i:Nat,a=.int .i64 (i:Int)∧i≤n1∧Hid (p1.take i=p2.take i)∧Hid (Only [] w2 wl)) (fun a _=>n1 - (intOf a).toNat)
 case atStart=>exact ⟨0,rfl,Nat.zero_le _,Lib.hid rfl,Lib.hid (Only.refl _ _)⟩
 case round =>
  obtain ⟨i,rfl,hi,HT,HOl⟩:=hrel
  by_cases hlt:i < n1
  ·obtain ⟨x,hx⟩:∃ x,p1[i]?=some x:=⟨_,List.getElem?_eq_getElem (by rw [Hn.out.1];exact hlt)⟩;obtain ⟨y,hy⟩:∃ y,p2[i]?=some y:=⟨_,List.getElem?_eq_getElem (by rw [Hn.out.2];exact hlt)⟩;have hrx:=(Ha.out.only0 HOl.out).1;have hry:=(Hb.out.only0 HOl.out).1;have hnx:p1.flatMap ptCells≠[]:=fun e'=>(by have:=flat_get ptCells 6 ptCells_len p1 _ x 0 hx (by omega);rw [e'] at this;cases this);have hny:p2.flatMap ptCells≠[]:=fun e'=>(by have:=flat_get ptCells 6 ptCells_len p2 _ y 0 hy (by omega);rw [e'] at this;cases this);obtain ⟨bx,ox,rfl,-⟩:=hrx.lt hnx
   obtain ⟨b_y,oy,rfl,-⟩:=hry.lt hny;have x0:=rd_elem ptCells_len hrx hx (r:=0) rfl;have x1:=rd_elem ptCells_len hrx hx (r:=1) rfl;have x2:=rd_elem ptCells_len hrx hx (r:=2) rfl;have x3:=rd_elem ptCells_len hrx hx (r:=3) rfl;have x4:=rd_elem ptCells_len hrx hx (r:=4) rfl;have x5:=rd_elem ptCells_len hrx hx (r:=5) rfl;have y0:=rd_elem ptCells_len hry hy (r:=0) rfl;have y1:=rd_elem ptCells_len hry hy (r:=1) rfl;have y2:=rd_elem ptCells_len hry hy (r:=2) rfl;have y3:=rd_elem ptCells_len hry hy (r:=3) rfl;have y4:=rd_elem ptCells_len hry hy (r:=4) rfl
   have y5:=rd_elem ptCells_len hry hy (r:=5) rfl;rw [Addr.add_lit,← Nat.add_assoc] at x0 x1 x2 x3 x4 x5 y0 y1 y2 y3 y4 y5;rw [Nat.add_zero] at x0 y0;have za:=(Hr1.out.only0 HOl.out).cell (i:=4) rfl;have zb:=(Hr2.out.only0 HOl.out).cell (i:=4) rfl;have heq:=fun w=>eqPtN 9996 x y w;unfold ptV at heq;have Hx:=Lib.hid hx;have Hy:=Lib.hid hy;clear hrx hry hnx hny hx hy
   by_cases hxy:x=y
   ·simp only [decide_eq_true hxy] at heq;have HT2:Hid (p1.take (i+1)=p2.take (i+1)):=Lib.hid (by rw [List.take_add_one,List.take_add_one,HT.out,Hx.out,Hy.out,hxy]);clear hxy
    go_upto_region 6 with (fail)
    go_quiet (fail)
    have HO2:=Lib.hid (HOl.out.trans0 (Only.drewN wr nq));clear heq za zb x0 x1 x2 x3 x4 x5 y0 y1 y2 y3 y4 y5;go_wp2_with fail;refine ⟨⟨i+1,by go_num,by omega,HT2,HO2⟩,?_⟩
    simp [intOf];omega
   ·simp only [decide_eq_false hxy] at heq;have HD:Hid (D=false):=Lib.hid (by rw [← HDD.out];exact decide_eq_false (fun e=>hxy (by have h9:p1=p2:=congrArg CUpl.parts e;have h8:=Hx.out;rw [h9,Hy.out] at h8;exact (Option.some.inj h8).symm)));clear hxy
    go_upto_region 6 with (fail)
    go_quiet (fail)
    have HO2:=Lib.hid (HOl.out.trans0 (Only.drewN wr nq));go_wp2_with fail
    go_ret
    exact ⟨by rw [HD.out];rfl,HO.out.trans0 HO2.out⟩
  ·obtain rfl:i=n1:=by omega
   have HD:Hid (D=true):=Lib.hid (by
    rw [← HDD.out];have h9:=HT.out;rw [List.take_of_length_le (by rw [Hn.out.1];exact Nat.le_refl _),List.take_of_length_le (by rw [Hn.out.2];exact Nat.le_refl _)] at h9
    rw [h9];simp)
   go_wp2_with fail
   go_ret
   exact ⟨by rw [HD.out];rfl,HO.out.trans0 HOl.out⟩
end
end Go.Proofs.YtfeglnpmpgipiaaGreatDoor
