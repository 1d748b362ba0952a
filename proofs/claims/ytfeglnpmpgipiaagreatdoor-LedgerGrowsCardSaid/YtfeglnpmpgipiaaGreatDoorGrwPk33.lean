/- GrwPk, part 33: CatSumW. -/
import Derived.Test.YtfeglnpmpgipiaaGreatDoorGrwPk15
import Derived.Test.YtfeglnpmpgipiaaGreatDoorGrwPk22
import Derived.Test.YtfeglnpmpgipiaaGreatDoorGrwPk23
import Derived.Test.YtfeglnpmpgipiaaGreatDoorGrwPk31
import Derived.Test.YtfeglnpmpgipiaaGreatDoorGrwPk32
set_option linter.unusedVariables false
set_option maxRecDepth 100000
set_option linter.unusedSimpArgs false
namespace Go.Proofs.YtfeglnpmpgipiaaGreatDoor
section
open Go.RowKit
theorem zHE (W0 w:World) (F:List Nat) (B:Nat) (xs bs:List UInt8) (g m c:Nat) (h:zAg W0 w F B xs) (hr:Rd w (some ⟨g,0,none⟩) (u8s bs)) (hm:bs.length=m) (hg:g≠B) (hbm:m+64≤140737488355328) (hb:xs.length+m≤1152921504606846976) :
  Calls Tryz.prog 80 #[.pointer (some ⟨B,0,none⟩),.slice (some ⟨g,0,none⟩) m c] w fun e w'=>e=.returned (.tuple #[])∧∃ F',zAg W0 w' F' B (xs ++ bs):=by
 refine (zGz w F B xs bs (some ⟨g,0,none⟩) m c h.1 (fun w3 ho=>hr.only ho (fun a ha hb'=>by
  obtain rfl:=Option.some.inj ha
  exact hg (List.mem_singleton.1 hb'))) hm (by simp) hbm hb).mono ?_
 rintro e w3 ⟨rfl,F',k1,k2,k3⟩;exact ⟨rfl,F',k1,h.low.zY k2 (fun i hi=>(h.2.2 i hi).1),fun k hk=>⟨(k3 k hk).elim (fun h'=>(h.2.2 k h').1) (fun h'=>Nat.le_trans h.low.size h'),k1.lt k hk⟩⟩
theorem zDj (ps:List Pc) (i:Nat):(vY (ps.take i)).length≤(vY ps).length:=by
 have:vY ps=vY (ps.take i) ++ vY (ps.drop i):=(by unfold vY;rw [← List.flatMap_append,List.take_append_drop]);rw [this,List.length_append];omega
theorem zIj (n:Nat) (h:n≤1000000):(zBD n).length≤7:=zCp 6 n (by omega)
set_option maxHeartbeats 16000000 in
theorem zGB (p:Option Addr) (n c:Nat) (ps:List Pc) (w0:World) (hn:ps.length=n) (hnb:n≤1000000) (hsz:(vY ps).length≤1000000000) (hx:Rd w0 p (ps.flatMap jK))
  (hit:∀ W,Only [] w0 W→Calls Tryz.prog 83 #[.int .i64 (n:Int)] W fun e w'=>e=.returned (.string (str (zBD n)))∧Only [] W w') :
  Calls Tryz.prog 41 #[.slice p n c] w0 fun e w'=>e=.returned (.string (str (smL ps)))∧Only [] w0 w':=by
 have Hn:=Lib.hid hn;have Hx:=Lib.hid hx;have Hsz:=Lib.hid hsz;have Hit:=Lib.hid hit;clear hn hx hsz hit
 go_enter Tryz.func41,Tryz.ntmps41
 go_wp2_with fail;(with_reducible refine (zJC w0 w0 (Only.refl _ _)).mono ?_);rintro e w1 ⟨B,F0,rfl,hA,-,-⟩;have HA:=Lib.hid hA;clear hA;go_wp2_with fail
 go_loopw [10] (fun a wl=>∃ (i:Nat) (F:List Nat),a=.int .i64 (i:Int)∧i≤n∧Hid (zAg w0 wl F B (vY (ps.take i)))) (fun a _=>n - (intOf a).toNat)
 case atStart=>exact ⟨0,F0,rfl,Nat.zero_le _,HA⟩
 case round =>
  clear HA;obtain ⟨i,F,rfl,hi,HI⟩:=hrel
  by_cases hlt:i < n
  ·skip
   obtain ⟨x,hx⟩:∃ x,ps[i]?=some x:=⟨_,List.getElem?_eq_getElem (by rw [Hn.out];assumption)⟩;have hrd:=Hx.out.zB HI.out.low;have hne:ps.flatMap jK≠[]:=fun e'=>(by have:=flat_get jK 5 vQ ps _ x 0 hx (by omega);rw [e'] at this;cases this);obtain ⟨bq,off,rfl,-⟩:=hrd.lt hne;have d0:=zP vQ hrd hx (r:=0) rfl;have d1:=zP vQ hrd hx (r:=1) rfl;have d2:=zP vQ hrd hx (r:=2) rfl;have d3:=zP vQ hrd hx (r:=3) rfl;have d4:=zP vQ hrd hx (r:=4) rfl;rw [Addr.add_lit,← Nat.add_assoc] at d0 d1 d2 d3 d4
   rw [Nat.add_zero] at d0;clear hrd hne;obtain ⟨wt,hwt⟩:∃ wt,wt=wr.alloc (.cells #[.int .i64 x.blob.node,.int .i64 x.blob.boot,.int .i64 x.blob.seq,.int .i64 x.size,.string (str x.etag)] 33):=⟨_,rfl⟩;have ot:Only [] wr wt:=(by rw [hwt];exact Only.alloc _ _);have rt:Row wt wr.heap.size 33 [.int .i64 x.blob.node,.int .i64 x.blob.boot,.int .i64 x.blob.seq,.int .i64 x.size,.string (str x.etag)]:=(by rw [hwt];exact Row.zV _ _ _ _ rfl);have e0:=rt.cell (i:=0) rfl;have e1:=rt.cell (i:=1) rfl;have e2:=rt.cell (i:=2) rfl;have e3:=rt.cell (i:=3) rfl;have e4:=rt.cell (i:=4) rfl
   have hst:vY (ps.take (i+1))=vY (ps.take i) ++ x.etag:=by rw [take_snoc' hx];unfold vY;rw [List.flatMap_append];simp
   have hlen:(vY (ps.take i)).length+x.etag.length≤1000000000:=by
    rw [← List.length_append,← hst];exact Nat.le_trans (zDj ps (i+1)) Hsz.out
   obtain ⟨l,hl⟩:∃ l,x.etag.length=l:=⟨_,rfl⟩;obtain ⟨g,c2,w2,hcv,hgw,hr2,ho2,-⟩:=zIa wt (str x.etag) x.etag rfl l hl;have hH2:=(HI.out.zB ot).zB ho2;have hgB:g≠B:=fun e=>(by have h1:=(HI.out.zB ot).1.lt B (HI.out.zB ot).1.head;omega);have hwr:=zHE w0 w2 F B (vY (ps.take i)) x.etag g l c2 hH2 hr2 hl hgB (by omega) (by omega);rw [← hst] at hwr;have Hwr:=Lib.hid hwr;have Hcv:=Lib.hid hcv;have Hwt:=Lib.hid hwt;obtain ⟨SE,hSE⟩:∃ SE,str x.etag=SE:=⟨_,rfl⟩;rw [hSE] at Hcv d4 e4 Hwt;rw [hwt,hSE] at e0 e1 e2 e3 e4;clear hx ot rt hwt hst hlen hl hcv hgw hr2 ho2 hH2 hgB hwr HI
   have hcv:=Hcv.out;go_wp2_with fail;rw [← Hwt.out,hcv];clear hcv;go_wp2_with fail;refine Hwr.out.mono ?_;rintro e w' ⟨rfl,F',h1⟩;have HI2:=Lib.hid h1;clear h1 Hwr Hcv Hwt d0 d1 d2 d3 d4 e0 e1 e2 e3 e4;go_wp2_with fail;refine ⟨⟨i+1,F',by go_num,by omega,HI2⟩,?_⟩;show n - ((i:Int)+1).toNat < n - ((i:Int)).toNat;omega
  ·obtain rfl:i=n:=(by omega);rw [List.take_of_length_le (by rw [Hn.out];exact Nat.le_refl _)] at HI;have hsum:=zJD w0 wr F B (vY ps) HI.out (by have:=Hsz.out;omega);have hsm:smL ps=(yT (zFN (vY ps)) ++ [45]) ++ zBD i:=(by unfold smL;rw [Hn.out]);have hlA:=zEq (vY ps);generalize zFN (vY ps)=A at hsum hsm hlA;have HO2:=Lib.hid HI.out.low;have Hsm:=Lib.hid hsm;have Hsum:=Lib.hid hsum;clear HI hsm hsum;go_wp2_with fail;(with_reducible refine (Hsum.out).mono ?_);rintro e w3 ⟨rfl,o3⟩;obtain ⟨w5,Hst,hrow,o5,-⟩:=zJX w3 A hlA;have HO5:=Lib.hid ((HO2.out.zC o3).zC o5)
   have hhex:=zIq (some ⟨w3.heap.size,0,none⟩) A 32 32 w5 hlA (by omega) hrow.rd0;clear o3 o5 HO2 Hsum
   go_wp2_with (first | ((with_reducible show wpList _ _ _ _ _ _);refine jO (ty:=131) (x:=.tmp 6) (y:=.tmp 21) rfl rfl rfl rfl Hst.out ?_))
   (with_reducible refine hhex.mono ?_);rintro e w6 ⟨rfl,o6⟩;have hl1:(yT A).length=64:=(by rw [zBx,hlA]);have ha1:(⟨(yT A).toArray⟩:ByteArray) ++ ⟨#[45]⟩=str (yT A ++ [45]):=zGa (yT A) [45]
   have hb1:¬ 9223372036854775807 < (⟨(yT A).toArray⟩:ByteArray).size+1:=by
    have:(⟨(yT A).toArray⟩:ByteArray).size=(yT A).length:=zAm _;rw [this,hl1];omega
   have HO6:=Lib.hid (HO5.out.zC o6);have hdec:=Hit.out w6 HO6.out;have hl2:=zIj i hnb;have ha2:str (yT A ++ [45]) ++ str (zBD i)=str (smL ps):=by rw [zGa,Hsm.out]
   have hb2:¬ 9223372036854775807 < (str (yT A ++ [45])).size+(str (zBD i)).size:=by
    rw [zAm,zAm,List.length_append,hl1];simp only [List.length_cons,List.length_nil];omega
   clear hhex o6 HO5 hl1 hl2 hlA hrow Hsm Hit;generalize yT A ++ [45]=H at ha1 ha2 hb2;generalize zBD i=D at ha2 hb2 hdec;go_wp2_with fail;(with_reducible refine hdec.mono ?_);rintro e w7 ⟨rfl,o7⟩;have HO7:=Lib.hid (HO6.out.zC o7);clear hdec o7 HO6;go_wp2_with fail
   go_ret
   exact ⟨rfl,HO7.out⟩
theorem zES (p:Option Addr) (n c:Nat) (ps:List Pc) (w0:World) (hn:ps.length=n) (hnb:n≤16) (hsz:(vY ps).length≤1000000000) (hx:Rd w0 p (ps.flatMap jK)) :
  Calls Tryz.prog 41 #[.slice p n c] w0 fun e w'=>e=.returned (.string (str (smL ps)))∧Only [] w0 w' :=
 zGB p n c ps w0 hn (by omega) hsz hx (fun W _=>(zFg n (by omega) W).mono (fun e w' h=>⟨h.1,by rw [h.2];exact Only.refl _ _⟩))
end
end Go.Proofs.YtfeglnpmpgipiaaGreatDoor
