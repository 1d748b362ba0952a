/- GrwPk, part 34: CatUp7W, CatBkUW. -/
import Derived.Test.YtfeglnpmpgipiaaGreatDoorGrwPk05
import Derived.Test.YtfeglnpmpgipiaaGreatDoorGrwPk15
import Derived.Test.YtfeglnpmpgipiaaGreatDoorGrwPk27
import Derived.Test.YtfeglnpmpgipiaaGreatDoorGrwPk28
import Derived.Test.YtfeglnpmpgipiaaGreatDoorGrwPk29
import Derived.Test.YtfeglnpmpgipiaaGreatDoorGrwPk33
set_option linter.unusedVariables false
set_option maxRecDepth 100000
set_option linter.unusedSimpArgs false
namespace Go.Proofs.YtfeglnpmpgipiaaGreatDoor
section
open Go.RowKit
theorem zDR (ps:List qU) (a b:List Int):gather ps (a ++ b)=match gather ps a with | none=>none | some l=>(gather ps b).map (l ++ ·):=by
 induction a with
 | nil=>simp only [List.nil_append,gather];cases gather ps b <;> rfl
 | cons n a ih =>
  have hc:∀ ns,gather ps (n :: ns)=match ps.find? (fun p=>decide (p.num=n)) with | none=>none | some p=>(gather ps ns).map (p.pc :: ·):=fun _=>rfl
  rw [List.cons_append,hc,hc]
  cases ps.find? (fun p=>decide (p.num=n)) with
  | none=>rfl
  | some p =>
   simp only [ih]
   cases gather ps a with
   | none=>rfl
   | some l=>simp only [Option.map_some];cases gather ps b <;> simp
theorem zFI {ps:List qU} {ns:List Int} {k:Nat} {n:Int} {l:List Pc} (hk:ns[k]?=some n) (h:gather ps (ns.take k)=some l) (hf:ps.find? (fun p=>decide (p.num=n))=none):gather ps ns=none:=by
 obtain ⟨hl,he⟩:=List.getElem?_eq_some_iff.1 hk;rw [← List.take_append_drop k ns,List.drop_eq_getElem_cons hl,he,zDR,h];simp only [gather,hf,Option.map_none]
theorem zEu {ps:List qU} {ns:List Int} {k:Nat} {n:Int} {l:List Pc} {p:qU} (hk:ns[k]?=some n) (h:gather ps (ns.take k)=some l) (hf:ps.find? (fun p=>decide (p.num=n))=some p):gather ps (ns.take (k+1))=some (l ++ [p.pc]):=by
 rw [List.take_add_one,hk,zDR,h];simp only [Option.toList,gather,hf,Option.map_some]
theorem zEO:∀ (l:List Pc),(∀ p∈l,p.etag.length=64)→(vY l).length=64 * l.length
 | [],_=>rfl
 | p :: l,h=>by
  have h1:=zEO l (fun q hq=>h q (List.mem_cons_of_mem _ hq));have h2:=h p (List.mem_cons_self ..);unfold vY at h1 ⊢;rw [List.flatMap_cons,List.length_append,h1,h2,List.length_cons];omega
theorem zFf (l:List Pc) (p:Pc):sizes (l ++ [p])=sizes l+p.size:=by rw [zHb,zCm,zGp];omega
theorem qX.zJY {w w3 w4:World} {B g o gu d i:Nat} {cur:List Value} {b:LBk} (hr:Row w g 60 cur) (hat:jF o cur (zD b)) (hown:qZ w B b) (hg:g ∉ b.fp) (hpu:b.pu=some ⟨gu,0,none⟩) (hd:b.us.length=d+1) (hi:i≤d)
  (h1:zN w3 B 54 5 (.slice (some ⟨gu,0,none⟩) d b.cu) d ((b.us.eraseIdx i).flatMap zG)) (h2:Only [gu] w w3) (hw4:w4=w3.setCell ⟨g,o+4,none⟩ (.slice (some ⟨gu,0,none⟩) d b.cu)) :
  qX w w4 B g o cur b [] (cur.set (o+4) (.slice (some ⟨gu,0,none⟩) d b.cu)) { b with us:=b.us.eraseIdx i,pu:=some ⟨gu,0,none⟩,cu:=b.cu }:=by
 have hgu:gu∈b.fp:=(by unfold LBk.fp;rw [hpu];simp [blk]);have hggu:g≠gu:=fun e=>hg (e ▸ hgu);have hr3:=hr.only h2 (by simpa using hggu);have o4:Only [g] w3 w4:=(by rw [hw4];exact Only.setCell _ ⟨g,o+4,none⟩ _);have hr4:=hr3.setCell (o+4) (.slice (some ⟨gu,0,none⟩) d b.cu);rw [← hw4] at hr4;have ho24:Only [gu,g] w w4:=(h2.mono (by simp)).trans o4 (fun z hz _=>by simp at hz ⊢;exact .inr hz);have hle:(b.us.eraseIdx i).length=d:=by rw [List.length_eraseIdx,if_pos (by omega)];omega
 have hbo:=hown.xE (S:=[gu,g]) (us':=b.us.eraseIdx i) (p':=some ⟨gu,0,none⟩) (c':=b.cu) (new:=[]) ho24 (fun z hz=>by
  rcases List.mem_cons.1 hz with rfl | hz
  ·exact .inl (by rw [hpu];simp [blk])
  ·rw [List.mem_singleton.1 hz];exact .inr ⟨hg,by simp⟩) (by rw [hle];exact h1.jL o4 (fun z hz hm=>by simp [blk] at hz;rw [List.mem_singleton.1 hm] at hz;exact hggu hz)) (fun y hy=>.inl (List.mem_of_mem_eraseIdx hy)) (fun z hz=>.inl (by rw [hpu];exact hz)) ⟨_,List.Perm.refl _,zAQ (List.eraseIdx_sublist ..)⟩ List.nodup_nil (by simp)
 obtain ⟨hb1,hb2⟩:=hbo
 have hra2:jF o (cur.set (o+4) (.slice (some ⟨gu,0,none⟩) d b.cu)) (zD { b with us:=b.us.eraseIdx i,pu:=some ⟨gu,0,none⟩,cu:=b.cu }):=by
  have h9:=hat.set (i:=4) (.slice (some ⟨gu,0,none⟩) d b.cu) (by rw [zQ];omega);rw [← hle] at h9 ⊢;exact h9
 exact ⟨hr4,hra2,Outside.set o 5 cur _ (by omega) (by omega),hb1,hb2,ho24.mono (fun z hz=>by
  rcases List.mem_cons.1 hz with rfl | hz
  ·exact List.mem_cons_of_mem _ hgu
  ·rw [List.mem_singleton.1 hz];exact List.mem_cons_self ..)⟩
structure UpI (m:zS) (ps:List qU) (w2:World) (X k:Nat) (l:List Pc) (q:Option Addr) (c:Nat) (wl:World):Prop where
 gt:gather ps (m.x.parts.take k)=some l
 len:l.length=k
 row:Row wl X 48 [.string (str m.x.key),.int .i64 (sizes l),.string (str []),.int .i64 m.x.time,.slice q k c]
 own:zN wl (X+1) 33 5 (.slice q k c) k (l.flatMap jK)
 only:Only [] w2 wl
theorem UpI.step {m:zS} {ps:List qU} {w2 wl w':World} {X k c:Nat} {l:List Pc} {q:Option Addr} (h:UpI m ps w2 X k l q c wl) (ho:Only [] wl w'):UpI m ps w2 X k l q c w':=⟨h.gt,h.len,h.row.zB ho,h.own.zB ho,h.only.zC ho⟩
set_option maxHeartbeats 16000000 in
theorem zHC (b:LBk) (u:qN) (m:zS) (g o i B:Nat) (cur:List Value) (w0:World) (hrow:Row w0 g 60 cur) (hat:jF o cur (zD b)) (hown:qZ w0 B b) (hg:g ∉ b.fp) (hu:b.us[i]?=some u) (hB:B≤w0.heap.size) (hok:zCf u.u) (hnl:b.us.length≤16) (hk:m.x.kind=7) (hca:jS w0 m) (hnp16:m.x.parts.length≤16) (hbo:yO b.b) :
  Calls Tryz.prog 101 #[.pointer (some ⟨g,o,none⟩),.int .i64 (i:Int),lmV m] w0 (zGb b u m g o i B cur w0):=by
 obtain ⟨np,hnp⟩:∃ n,m.x.parts.length=n:=⟨_,rfl⟩;obtain ⟨mp,hmp⟩:∃ p,m.p=p:=⟨_,rfl⟩;obtain ⟨uq,huq⟩:∃ p,u.q=p:=⟨_,rfl⟩;have Hmp:=Lib.hid hmp;have Huq:=Lib.hid huq;obtain ⟨nu,hnu⟩:∃ n,b.us.length=n:=⟨_,rfl⟩;obtain ⟨no,hno⟩:∃ n,b.os.length=n:=⟨_,rfl⟩;obtain ⟨nq,hnq⟩:∃ n,u.u.parts.length=n:=⟨_,rfl⟩;have hi:i < nu:=(by have:=(List.getElem?_eq_some_iff.1 hu).1;omega);have hn16:nu≤16:=(by omega);obtain ⟨gu,-,hpu,-,-⟩:=hown.su.rowOf (by omega);have hsu:zN w0 B 54 5 (.slice (some ⟨gu,0,none⟩) b.us.length b.cu) b.us.length (b.us.flatMap zG):=by have h:=hown.su;rw [hpu] at h;exact h
 obtain ⟨rest,hrw,hrl,hnc,hcm,hgb,-⟩:=hsu.row;obtain ⟨U,hU⟩:∃ U,U=b.us.flatMap zG ++ rest:=⟨_,rfl⟩;rw [← hU] at hrw hrl;have hra:jF (i * 5) U (zG u):=(by rw [hU];exact jZ zT hu);have hgu:gu∈b.fp:=(by unfold LBk.fp;rw [hpu];simp [blk]);have hggu:g≠gu:=fun e=>hg (e ▸ hgu);obtain ⟨w1,hw1⟩:∃ w1,w1=w0.alloc (.cells #[.int .i64 7,.int .i64 m.x.id.node,.int .i64 m.x.id.boot,.int .i64 m.x.id.seq,.string (str m.x.bucket),.string (str m.x.key),.int .i64 m.x.upload.node,.int .i64 m.x.upload.boot,.int .i64 m.x.upload.seq,.int .i64 m.x.piece.blob.node,.int .i64 m.x.piece.blob.boot,.int .i64 m.x.piece.blob.seq,.int .i64 m.x.piece.size,.string (str m.x.piece.etag),.int .i64 m.x.part,.slice mp np m.c,.int .i64 m.x.time,.int .i64 m.x.days] 36):=⟨_,rfl⟩
 have o1:Only [] w0 w1:=(by rw [hw1];exact Only.alloc _ _);have s1:w1.heap.size=w0.heap.size+1:=(by rw [hw1];simp);have r1:Row w1 (w0.heap.size) 36 [.int .i64 7,.int .i64 m.x.id.node,.int .i64 m.x.id.boot,.int .i64 m.x.id.seq,.string (str m.x.bucket),.string (str m.x.key),.int .i64 m.x.upload.node,.int .i64 m.x.upload.boot,.int .i64 m.x.upload.seq,.int .i64 m.x.piece.blob.node,.int .i64 m.x.piece.blob.boot,.int .i64 m.x.piece.blob.seq,.int .i64 m.x.piece.size,.string (str m.x.piece.etag),.int .i64 m.x.part,.slice mp np m.c,.int .i64 m.x.time,.int .i64 m.x.days]:=by rw [hw1];exact Row.zV _ _ _ _ rfl
 obtain ⟨w2,hw2⟩:∃ w2,w2=w1.alloc (.cells #[.int .i64 0,.string ⟨#[]⟩] 38):=⟨_,rfl⟩;have o2:Only [] w1 w2:=(by rw [hw2];exact Only.alloc _ _);have s2:w2.heap.size=w0.heap.size+1+1:=(by rw [hw2];simp [s1]);have r2:Row w2 (w0.heap.size+1) 38 [.int .i64 0,.string ⟨#[]⟩]:=(by rw [← s1,hw2];exact Row.zV _ _ _ _ rfl);replace r1:=r1.zB o2;have oAll:Only [] w0 w2:=(o1.zC o2);rw [hw1] at hw2;have hatc:=hat;unfold zD at hatc;rw [hno,hnu,hpu] at hatc;have hrac:=hra;unfold zG at hrac;rw [hnq,huq] at hrac;have hfpl:=hown.lo;have Hca:=Lib.hid hca
 have Hbo:=Lib.hid hbo;have hp16:np≤16:=(by omega);clear hca hbo hnp16;have Hr1:=Lib.hid r1;have Hr2:=Lib.hid r2;have HO:=Lib.hid oAll;have Hw:=Lib.hid hw2;have Hsz:Hid (w2.heap.size=w0.heap.size+1+1):=Lib.hid s2;have Hrow:=Lib.hid (hrow.zB oAll);have Hrw:=Lib.hid (hrw.zB oAll);have Hat:=Lib.hid hatc;have Hra:=Lib.hid hrac;have HH:Hid (qZ w0 B b∧g ∉ b.fp∧Row w0 g 60 cur∧jF o cur (zD b)∧b.pu=some ⟨gu,0,none⟩∧gu∈b.fp∧g≠gu∧b.us[i]?=some u∧U=b.us.flatMap zG ++ rest∧U.length=b.cu * 5∧jF (i * 5) U (zG u)∧(∀ z∈b.fp,B≤z∧z < w0.heap.size)∧b.us.length=nu∧b.os.length=no∧u.u.parts.length=nq∧B≤w0.heap.size∧zCf u.u∧m.x.kind=7∧zBY w0 B u∧Row w0 gu 54 U∧m.x.parts.length=np):=Lib.hid ⟨hown,hg,hrow,hat,hpu,hgu,hggu,hu,hU,hrl,hra,hfpl,hnu,hno,hnq,hB,hok,hk,hown.up u (List.mem_of_getElem? hu),hrw,hnp⟩
 have hrb:=Hrow.out;have z4:=Hat.out.cell hrb (r:=4) rfl;have m0:=r1.cell (i:=0) rfl;have hii:(i:Int) < (nu:Int):=(by omega);rw [show lmV m=.agg #[.int .i64 7,.int .i64 m.x.id.node,.int .i64 m.x.id.boot,.int .i64 m.x.id.seq,.string (str m.x.bucket),.string (str m.x.key),.int .i64 m.x.upload.node,.int .i64 m.x.upload.boot,.int .i64 m.x.upload.seq,.int .i64 m.x.piece.blob.node,.int .i64 m.x.piece.blob.boot,.int .i64 m.x.piece.blob.seq,.int .i64 m.x.piece.size,.string (str m.x.piece.etag),.int .i64 m.x.part,.slice mp np m.c,.int .i64 m.x.time,.int .i64 m.x.days] by unfold lmV;rw [hnp,hk,hmp]]
 clear hmp huq;clear hrow hat hown hg hu hB hok hnl hk hnp hnu hno hnq hpu hsu hrw hrl hnc hcm hgb hU hra hgu hggu hatc hrac hfpl r1 r2 oAll hw2 s2 s1 o1 o2 hw1 hrb
 go_enter Tryz.func101,Tryz.ntmps101
 go_upto_region 1 with (fail)
 rw [← Hw.out]
 go_upto_region 3 with (fail)
 clear z4 m0;have m5:=Hr1.out.cell (i:=5) rfl;have m15:=Hr1.out.cell (i:=15) rfl;have m16:=Hr1.out.cell (i:=16) rfl;obtain ⟨w3,hw3⟩:∃ w3,w3=w2.alloc (.cells #[.string (str m.x.key),.int .i64 0,.string ⟨#[]⟩,.int .i64 m.x.time,.slice none 0 0] 48):=⟨_,rfl⟩;have o3:Only [] w2 w3:=(by rw [hw3];exact Only.alloc _ _);have HI0:Hid (UpI m u.u.parts w2 (w0.heap.size+1+1) 0 [] none 0 w3):=Lib.hid ⟨rfl,rfl,by rw [← Hsz.out,hw3];exact Row.zV _ _ _ _ rfl,zN.nil _ _ _ _,o3⟩;have Hw3:=Lib.hid hw3;have hsz2:=Hsz.out;clear hw3 o3
 go_upto_region 10 with (fail)
 rw [← Hw3.out];clear Hw3 m5 m15 m16;have m15:=(Hr1.out.zB HI0.out.only).cell (i:=15) rfl;go_wp2_with fail;clear m15
 go_loopw [65] (fun a wl=>∃ (k:Nat) (l:List Pc) (q:Option Addr) (c:Nat),a=.int .i64 (k:Int)∧k≤np∧Hid (UpI m u.u.parts w2 (w0.heap.size+1+1) k l q c wl)) (fun a _=>np - (intOf a).toNat)
 case atStart=>exact ⟨0,[],none,0,rfl,Nat.zero_le _,HI0⟩
 case round =>
  clear HI0;obtain ⟨k,l,q,c,rfl,hk,HI⟩:=hrel
  by_cases hlt:k < np
  ·obtain ⟨n,hn⟩:∃ n,m.x.parts[k]?=some n:=⟨_,List.getElem?_eq_getElem (by have:=HH.out.2.2.2.2.2.2.2.2.2.2.2.2.2.2.2.2.2.2.2.2;omega)⟩;have hrd:=Hca.out.1.zB (HO.out.zC HI.out.only);rw [Hmp.out] at hrd;have hne:jU m.x.parts≠[]:=fun e'=>(by have h9:=xH hn;rw [e'] at h9;cases h9);obtain ⟨bq,off,rfl,-⟩:=hrd.lt hne;have d0:=hrd.cells k _ (xH hn);rw [Addr.add_lit] at d0;have Hn:=Lib.hid hn;have hrwr:=Hrw.out.zB HI.out.only;have z4:=Hra.out.cell hrwr (r:=4) rfl;obtain ⟨j,hj⟩:∃ j,qV qU.num ltZ u.u.parts n=j:=⟨_,rfl⟩
   obtain ⟨th,hth⟩:∃ th,qC qU.num ltZ u.u.parts n=th:=⟨_,rfl⟩
   have hfind:Calls Tryz.prog 138 #[.slice uq nq u.c,.int .i64 n,.func (.func 136) #[] #[]] wr fun e w'=>e=.returned (.tuple #[.int .i64 (j:Int),.bool th])∧Only [] wr w':=by
    obtain ⟨-,-,-,-,-,-,-,-,-,-,-,-,-,-,hnq,hB,hok,-,huo,-,-⟩:=HH.out;have h9:=zN.zB huo (HO.out.zC HI.out.only);have hv:=h9.view;have h:=zFj u.q nq u.c u.u.parts n wr hnq (by have:=hok.len;omega) (fun h0=>by rw [← hnq];exact (hv.2.2.2.1 h0).1) hv.2.2.1 hok.sort;rw [hj,hth,Huq.out] at h;exact h
   have Hj:Hid (qV qU.num ltZ u.u.parts n=j∧qC qU.num ltZ u.u.parts n=th):=Lib.hid ⟨hj,hth⟩;have HF:=Lib.hid hfind;clear hrd hne hn hrwr hj hth hfind;go_wp2_with fail;refine HF.out.mono ?_;rintro e wf ⟨rfl,of⟩;have HIf:=Lib.hid (HI.out.step of);clear HF HI of d0 z4
   cases th with
   | false =>
    have hgn:gather u.u.parts m.x.parts=none:=by
     obtain ⟨-,-,-,-,-,-,-,-,-,-,-,-,-,-,-,-,hok,-,-,-,-⟩:=HH.out;refine zFI Hn.out HIf.out.gt ?_
     have h9:∀ p∈u.u.parts,p.num≠n:=fun p hp e=>by
      have:=(vG zBB hok.sort).2 ⟨p,hp,e⟩;rw [Hj.out.2] at this
      cases this
     exact List.find?_eq_none.2 (fun p hp=>by simpa using h9 p hp)
    have Hgn:=Lib.hid hgn;have HOf:=Lib.hid HIf.out.only;have HrO:=Lib.hid (Hr2.out.zB HIf.out.only);clear hgn HIf;go_wp2_with fail;refine (vM 6 wf).mono ?_;rintro e w' ⟨rfl,o'⟩;unfold xM;have rO:=HrO.out.zB o';have c0:=rO.cell (i:=0) rfl;have c1:=rO.cell (i:=1) rfl;have f0:=rO.free 0;have f1:=rO.free 1;have hrz:=rO.set2 (.int .i64 6) (.string (str []));have hst:=qB w' (w0.heap.size+1) (.int .i64 6) (.string (str []));obtain ⟨wz,hwz⟩:∃ wz,wz=(w'.setCell ⟨w0.heap.size+1,0,none⟩ (.int .i64 6)).setCell ⟨w0.heap.size+1,1,none⟩ (.string (str [])):=⟨_,rfl⟩
    rw [← hwz] at hrz hst;have Hrz:=Lib.hid hrz;obtain ⟨hown,hg,hrow,hat,hpu,hgu,hggu,hu,hU,hrl,hra,hfpl,hnu,hno,hnq,hB,hok,hk7,huo,hrw,hnp⟩:=HH.out
    have hup:vU smL b.b i u.u m.x=(b.b,⟨6,[]⟩):=by
     unfold vU;rw [if_neg (by omega),if_neg (by omega),Hgn.out]
    have HE:Hid (vU smL b.b i u.u m.x=(b.b,⟨6,[]⟩)∧qX w0 wz B g o cur b [] cur b):=Lib.hid ⟨hup,(qX.refl hrow hat hown _ ((HO.out.zC HOf.out).zC o')).zAC hst (by have:=hrow.lt;simp;omega) (fun z hz=>by rw [List.mem_singleton.1 hz];exact ⟨by omega,fun hm=>by have:=(hfpl _ hm).2;omega⟩)⟩;have Hwz:=Lib.hid hwz;clear rO hrz hst hwz o' hown hg hrow hat hpu hgu hggu hu hU hrl hra hfpl hnu hno hnq hB hok hk7 huo hrw hnp hup HH;go_wp2_with fail;rw [← Hwz.out];exact bodyPost_ret (qO rfl _ _ _ rfl Hrz.out Tryz.underlying38 jH) rfl ⟨b,cur,by rw [HE.out.1];rfl,by rw [HE.out.1],HE.out.2⟩
   | true =>
    obtain ⟨pt,hpt,hptn⟩:=jQ Hj.out.2;rw [Hj.out.1] at hpt;have huoF:zBY wf B u:=zN.zB HH.out.2.2.2.2.2.2.2.2.2.2.2.2.2.2.2.2.2.2.1 (HO.out.zC HIf.out.only);have hnqe:=HH.out.2.2.2.2.2.2.2.2.2.2.2.2.2.2.1;have hjq:j < nq:=(by have:=(List.getElem?_eq_some_iff.1 hpt).1;omega);obtain ⟨gq,rq,hgq,-,-⟩:=zN.rowOf huoF (by omega);obtain rfl:=Huq.out.symm.trans hgq;have hrdq:=huoF.view.2.2.1;rw [hgq] at hrdq;have hgqb:gq < w0.heap.size:=(ownIn HH.out.2.2.2.2.2.2.2.2.2.2.2.2.2.2.2.2.2.2.1 gq (by rw [hgq];simp [blk])).2;have hgub:gu < w0.heap.size:=(HH.out.2.2.2.2.2.2.2.2.2.2.2.1 gu HH.out.2.2.2.2.2.1).2
    have hlo:=HIf.out.own.view.2.2.2.2.2.2;have hgN:w0.heap.size+1+1 < wf.heap.size:=HIf.out.row.lt;have hgp:w0.heap.size+1+1 ∉ blk q:=fun h=>by have:=(hlo _ h).1;omega
    have hnx:∀ z,z < w0.heap.size→z ∉ (w0.heap.size+1+1) :: blk q:=fun z hz h=>by
     rcases List.mem_cons.1 h with h | h
     ·omega
     ·have:=(hlo _ h).1;omega
    have hrwf:=Hrw.out.zB HIf.out.only;have z4:=Hra.out.cell hrwf (r:=4) rfl;have y1:=zP zW hrdq hpt (r:=1) rfl;have y2:=zP zW hrdq hpt (r:=2) rfl;have y3:=zP zW hrdq hpt (r:=3) rfl;have y4:=zP zW hrdq hpt (r:=4) rfl;have y5:=zP zW hrdq hpt (r:=5) rfl;rw [Addr.add_lit,Nat.zero_add] at y1 y2 y3 y4 y5;have HZ:Hid (∀ w,Only ((w0.heap.size+1+1) :: blk q) wf w→w.cell? ⟨gu,i * 5+4,none⟩=some (.slice (some ⟨gq,0,none⟩) nq u.c)∧w.cell? ⟨gq,j * 6+1,none⟩=some (.int .i64 pt.pc.blob.node)∧w.cell? ⟨gq,j * 6+2,none⟩=some (.int .i64 pt.pc.blob.boot)∧w.cell? ⟨gq,j * 6+3,none⟩=some (.int .i64 pt.pc.blob.seq)∧w.cell? ⟨gq,j * 6+4,none⟩=some (.int .i64 pt.pc.size)∧w.cell? ⟨gq,j * 6+5,none⟩=some (.string (str pt.pc.etag))):=Lib.hid (fun w h=>⟨h.cell z4 (hnx _ hgub),h.cell y1 (hnx _ hgqb),h.cell y2 (hnx _ hgqb),h.cell y3 (hnx _ hgqb),h.cell y4 (hnx _ hgqb),h.cell y5 (hnx _ hgqb)⟩)
    have hpok:=HH.out.2.2.2.2.2.2.2.2.2.2.2.2.2.2.2.2.1.parts pt (List.mem_of_getElem? hpt)
    have hgm:gather u.u.parts (m.x.parts.take (k+1))=some (l ++ [pt.pc]):=by
     refine zEu Hn.out HIf.out.gt ?_;refine zHk HH.out.2.2.2.2.2.2.2.2.2.2.2.2.2.2.2.2.1.sort ?_;unfold atL;rw [if_pos Hj.out.2,Hj.out.1,hpt]
    have hszl:=zCR l (fun p hp=>by
     obtain ⟨qq,hq1,hq2⟩:=(zAa HIf.out.gt).2 p hp;rw [← hq2]
     exact (HH.out.2.2.2.2.2.2.2.2.2.2.2.2.2.2.2.2.1.parts qq hq1).2.2)
    have hll:=HIf.out.len;have hs2:sizes l≤1024 * 16:=Int.le_trans hszl.2 (by rw [hll];omega);have HP:Hid (gather u.u.parts (m.x.parts.take (k+1))=some (l ++ [pt.pc])∧0≤pt.pc.size∧pt.pc.size≤1024∧0≤sizes l∧sizes l≤1024 * 16):=Lib.hid ⟨hgm,hpok.2.2.lo,hpok.2.2.hi,hszl.1,hs2⟩;have hjqi:(j:Int) < (nq:Int):=(by omega);clear hpt hptn huoF hnqe hgq hrdq hlo hnx hrwf z4 y1 y2 y3 y4 y5 hpok hgm hszl hll hs2;go_wp2_with fail;have HSO:∀ z∈[(w0.heap.size+1+1)],z < wf.heap.size∧z ∉ blk q:=fun z hz=>by rw [List.mem_singleton.1 hz];exact ⟨hgN,hgp⟩
    have hRr:∀ x,(Only ((w0.heap.size+1+1) :: blk q)) x x:=fun x=>Only.refl _ _;have hRt:∀ x y z,(Only ((w0.heap.size+1+1) :: blk q)) x y→(Only ((w0.heap.size+1+1) :: blk q)) y z→(Only ((w0.heap.size+1+1) :: blk q)) x z:=fun _ _ _ h k=>h.trans k (fun _ h _=>h);have hRd:(Only ((w0.heap.size+1+1) :: blk q)) wf wf.drew:=(Only.drew _).mono (by simp)
    have hRs:∀ j w,zZ [(11,Only (blk q)),(13,Only [(w0.heap.size+1+1)])] j w w:=zZ.refl (by
     intro x hx w;simp only [List.mem_cons,List.not_mem_nil,or_false] at hx
     rcases hx with rfl | rfl <;> exact Only.refl _ _)
    have hC0:∀ d∈[11,13],(fun (i:Nat) (a:World)=>(i=11→Only [] wf a)∧(i=13→Row a (w0.heap.size+1+1) 48 [.string (str m.x.key),.int .i64 (sizes l),.string (str []),.int .i64 m.x.time,.slice q k c])) d wf.drew:=fun _ _=>⟨fun _=>Only.drew _,fun _=>HIf.out.row.zB (Only.drew _)⟩;refine zU (Only ((w0.heap.size+1+1) :: blk q)) (zZ [(11,Only (blk q)),(13,Only [(w0.heap.size+1+1)])]) (fun (i:Nat) (a:World)=>(i=11→Only [] wf a)∧(i=13→Row a (w0.heap.size+1+1) 48 [.string (str m.x.key),.int .i64 (sizes l),.string (str []),.int .i64 m.x.time,.slice q k c])) [11,13] [[(8,none)],[(81,some 0)],[(7,none)],[(83,some 0)],[(84,some 0)],[(85,some 0)],[(11,none)],[(86,some 1),(87,some 0)],[(88,some 0)],[(89,some 0)],[(90,some 0)],[(82,some 9),(91,some 0)],[(8,none)],[(93,some 0),(92,some 1)]] [] [0] [none,none,none,none,none,none,none,none,none,none,none,none,none,none,none,none,none,none,none,none,none,none,none,none,none,none,none,none,none,none,none,none,none,none,none,none,none,none,none,none,none,none,none,none,none,none,none,none,none,none,none,none,none,none,none,none,none,none,none,none,none,none,none,none,none,none,none,none,none,none,none,none,none,none,none,none,none,none,none,none,none,some 81,some 82,some 83,some 84,some 85,some 86,some 87,some 88,some 89,some 90,some 91,some 92,some 93,none,none,none,none,none,none,none,none,none,none,none,none,none,none,none,none,none,none,none,none,none,none,none,none,none,none,none,none,none,none,none,none,none,none,none,none] (by kernel_rfl) rfl (by kernel_rfl) hRr hRt hRs hRd hC0 (by kernel_rfl) (by kernel_rfl) ?_
    apply zF
    ·rintro a w hR hC ⟨(e8:_=_),-⟩;refine zA rfl fun K hK=>?_;go_simp;exact hK _ _ rfl ⟨hRr _,hRs _ _,fun _ _ _ _ h=>h⟩
    apply zF
    ·rintro a w hR hC ⟨(e81:_=_),-⟩;refine zA rfl fun K hK=>?_;have rz:=(hC 13 (by simp) (by kernel_rfl)).2 rfl;have z4:=rz.cell (i:=4) rfl;go_simp;exact hK _ _ rfl ⟨hRr _,hRs _ _,fun _ _ _ _ h=>h⟩
    apply zF
    ·rintro a w hR hC ⟨(e7:_=_),-⟩;refine zA rfl fun K hK=>?_;go_simp;exact hK _ _ rfl ⟨hRr _,hRs _ _,fun _ _ _ _ h=>h⟩
    apply zF
    ·rintro a w hR hC ⟨(e83:_=_),-⟩;refine zA rfl fun K hK=>?_;go_simp;exact hK _ _ rfl ⟨hRr _,hRs _ _,fun _ _ _ _ h=>h⟩
    apply zF
    ·rintro a w hR hC ⟨(e84:_=_),-⟩;refine zA rfl fun K hK=>?_;go_simp;exact hK _ _ rfl ⟨hRr _,hRs _ _,fun _ _ _ _ h=>h⟩
    apply zF
    ·rintro a w hR hC ⟨(e85:_=_),-⟩;refine zA rfl fun K hK=>?_;obtain ⟨q0,q1,q2,q3,q4,q5⟩:=HZ.out w hR;go_simp;exact hK _ _ rfl ⟨hRr _,hRs _ _,fun _ _ _ _ h=>h⟩
    apply zF
    ·rintro a w hR hC ⟨(e11:_=_),-⟩;refine zA rfl fun K hK=>?_;go_simp;exact hK _ _ rfl ⟨hRr _,hRs _ _,fun _ _ _ _ h=>h⟩
    apply zF
    ·rintro a w hR hC ⟨(e86:_=_),(e87:_=_),-⟩;refine zA rfl fun K hK=>?_;have hjj:(j:Int) < (nq:Int):=hjqi;go_simp;exact hK _ _ rfl ⟨hRr _,hRs _ _,fun _ _ _ _ h=>h⟩
    apply zF
    ·rintro a w hR hC ⟨(e88:_=_),-⟩;refine zA rfl fun K hK=>?_;go_simp;exact hK _ _ rfl ⟨hRr _,hRs _ _,fun _ _ _ _ h=>h⟩
    apply zF
    ·rintro a w hR hC ⟨(e89:_=_),-⟩;refine zA rfl fun K hK=>?_;obtain ⟨q0,q1,q2,q3,q4,q5⟩:=HZ.out w hR;go_simp;exact hK _ _ rfl ⟨hRr _,hRs _ _,fun _ _ _ _ h=>h⟩
    refine ⟨zGx 33 wf.heap.size (jK pt.pc),zL zGx.stable (by intro x hx hk;simp only [List.mem_cons,List.not_mem_nil,or_false] at hx;rcases hx with rfl | rfl <;> first | exact Bool.noConfusion (hk.symm.trans (by kernel_rfl:_=true)) | (refine zGx.jC ?_;intro s hs;first | (have:=(HSO s hs).1;exact this) | exact (HIf.out.own.view.2.2.2.2.2.2 s hs).2;done)),fun a w hR hC hf=>?_,?_⟩
    ·obtain ⟨e90,-⟩:=hf;replace e90:a.tmps.getD 90 undef=_:=e90;refine zA rfl fun K hK=>?_;have e90':=e90;rw [Array.getD_eq_getD_getElem?] at e90';go_simp;refine hK _ _ ⟨w.heap.size,rfl,hR.size,Row.zV w _ _ _ (by rfl)⟩ ⟨(Only.alloc w _).mono (by simp),Only.alloc w _,fun i _ _ _ hc=>⟨fun e=>(hc.1 e).zC (Only.alloc w _),fun e=>(hc.2 e).zB (Only.alloc w _)⟩⟩
    refine ⟨SlP jK 33 5 (w0.heap.size+1+1+1) q wf.heap.size (k+1) (l ++ [pt.pc]),zL SlP.stable (by intro x hx hk;simp only [List.mem_cons,List.not_mem_nil,or_false] at hx;rcases hx with rfl | rfl <;> first | exact Bool.noConfusion (hk.symm.trans (by kernel_rfl:_=true)) | (refine SlP.jC ?_;exact HSO;done)),fun a w hR hC hf=>?_,?_⟩
    ·obtain ⟨e82,e91,-⟩:=hf;replace e82:a.tmps.getD 82 undef=_:=e82;replace e91:zGx 33 wf.heap.size (jK pt.pc) (a.tmps.getD 91 undef) w:=e91;refine zA rfl fun K hK=>?_;have hC5:=(hC 11 (by simp) (by kernel_rfl)).1 rfl;obtain ⟨g',e91,hg',hrow'⟩:=e91;obtain ⟨p',c',w',hra,oA,hA⟩:=xN (P:=Tryz.prog) (bytes:=48) (c:=1) (q:=some ⟨g',0,none⟩) (n:=k) (m:=1) (news:=jK pt.pc) (t:=46) (ty:=46) w Tryz.underlying46 Tryz.infoPc rfl (by omega) (HIf.out.own.zB hC5) hrow'.rd0 rfl (by simp) (zBE _) (by omega) (by omega) (by have:=hC5.size;omega)
     have hat:=xR (P:=Tryz.prog) (bytes:=48) (c:=1) (q:=some ⟨g',0,none⟩) (n:=k) (m:=1) (news:=jK pt.pc) (t:=46) (ty:=46) w Tryz.underlying46 Tryz.infoPc rfl (by omega) (HIf.out.own.zB hC5) hrow'.rd0 rfl (by simp) (zBE _) (by omega) (by omega) hra;refine vF (s:=.tmp 82) (x:=.tmp 91) rfl e82 e91 hra ?_;refine hK _ _ ⟨p',c',rfl,by rw [List.flatMap_append];simpa using oA,fun z hz=>?_⟩ ⟨hA.mono (fun x hx=>List.mem_cons_of_mem _ hx),hA,fun i hi hne ha hc=>⟨fun e=>absurd e hne,fun e=>(hc.2 e).only hA hgp⟩⟩
     rcases hat with rfl | ⟨g2,rfl,hg2⟩
     ·exact .inl hz
     ·simp [blk] at hz;subst hz;exact .inr (Nat.le_trans hC5.size hg2)
    apply zF
    ·rintro a w hR hC ⟨(e8:_=_),-⟩;refine zA rfl fun K hK=>?_;go_simp;exact hK _ _ rfl ⟨hRr _,hRs _ _,fun _ _ _ _ h=>h⟩
    refine ⟨SlR jK 33 5 (w0.heap.size+1+1+1) q wf.heap.size (k+1) (l ++ [pt.pc]) (w0.heap.size+1+1) 48 [.string (str m.x.key),.int .i64 (sizes l),.string (str []),.int .i64 m.x.time,.slice q k c] 4,zL SlR.stable (by intro x hx hk;simp only [List.mem_cons,List.not_mem_nil,or_false] at hx;rcases hx with rfl | rfl <;> exact Bool.noConfusion (hk.symm.trans (by kernel_rfl:_=true))),fun a w hR hC hf=>?_,?_⟩
    ·obtain ⟨e93,e92,-⟩:=hf;replace e93:a.tmps.getD 93 undef=_:=e93;replace e92:SlP jK 33 5 (w0.heap.size+1+1+1) q wf.heap.size (k+1) (l ++ [pt.pc]) (a.tmps.getD 92 undef) w:=e92;refine zA rfl fun K hK=>?_;obtain ⟨p',c',e92,hown',hb'⟩:=e92;have rz:=(hC 13 (by simp) (by kernel_rfl)).2 rfl;have zc:=rz.cell (i:=4) rfl;have zf:=rz.free 4;go_simp;have hst:=Only.setCell w ⟨w0.heap.size+1+1,4,none⟩ (.slice p' (k+1) c');refine hK undef _ ⟨p',c',hown'.jL hst (fun z hz hm=>?_),hb',rz.setCell 4 _⟩ ⟨hst.mono (by simp),hst,fun i hi hne ha hc=>?_⟩
     ·rcases hb' z hz with h4 | h4
      ·exact (HSO z hm).2 h4
      ·have:=(HSO z hm).1;omega
     ·simp only [List.mem_cons,List.not_mem_nil,or_false] at hi
      rcases hi with rfl | rfl
      ·exact Bool.noConfusion (ha.symm.trans (by kernel_rfl:_=true))
      ·exact absurd rfl hne
    intro f16 w16 hR16 hf hl16;dsimp only [qE];obtain ⟨l13,-⟩:=hl16;replace l13:∃ v,(SlR jK 33 5 (w0.heap.size+1+1+1) q wf.heap.size (k+1) (l ++ [pt.pc]) (w0.heap.size+1+1) 48 [.string (str m.x.key),.int .i64 (sizes l),.string (str []),.int .i64 m.x.time,.slice q k c] 4) v w16:=l13;obtain ⟨_,p',c',h1,h2,h3⟩:=l13;replace h3:Row w16 (w0.heap.size+1+1) 48 [.string (str m.x.key),.int .i64 (sizes l),.string (str []),.int .i64 m.x.time,(.slice p' (k+1) c')]:=h3;have HR16:=Lib.hid hR16;have H1:Hid (zN w16 (w0.heap.size+1+1+1) 33 5 (.slice p' (k+1) c') (k+1) ((l ++ [pt.pc]).flatMap jK)):=Lib.hid h1
    have H3:=Lib.hid h3;have hX1:w0.heap.size+1+1 ∉ blk p':=fun h=>(by have:=(h1.view.2.2.2.2.2.2 _ h).1;omega);have HX1:=Lib.hid hX1;clear h1 h2 h3 hX1 HSO hRr hRt hRd hRs hC0 hR16
    go_upto_region 17 with (fail)
    have hw1:IntKind.i64.wrap (sizes l+pt.pc.size)=sizes l+pt.pc.size:=(by rw [IntKind.wrap_i64];have:=HP.out;omega);have hw2:wrap64 (sizes l+pt.pc.size)=sizes l+pt.pc.size:=IntWalk.wrap64_in _ (by have:=HP.out;omega);have hRr:∀ x,(Only [w0.heap.size+1+1]) x x:=fun x=>Only.refl _ _;have hRt:∀ x y z,(Only [w0.heap.size+1+1]) x y→(Only [w0.heap.size+1+1]) y z→(Only [w0.heap.size+1+1]) x z:=fun _ _ _ h k=>h.trans k (fun _ h _=>h);have hRd:(Only [w0.heap.size+1+1]) w16 w16.drew:=(Only.drew _).mono (by simp)
    have hRs:∀ j w,zZ [(13,Only [w0.heap.size+1+1])] j w w:=zZ.refl (by
     intro x hx w;simp only [List.mem_cons,List.not_mem_nil,or_false] at hx
     rcases hx with rfl
     exact Only.refl _ _)
    have hC0:∀ d∈[13],(fun (_:Nat) (a:World)=>Row a (w0.heap.size+1+1) 48 [.string (str m.x.key),.int .i64 (sizes l),.string (str []),.int .i64 m.x.time,(.slice p' (k+1) c')]) d w16.drew:=fun _ _=>H3.out.zB (Only.drew _);refine zU (Only [w0.heap.size+1+1]) (zZ [(13,Only [w0.heap.size+1+1])]) (fun (_:Nat) (a:World)=>Row a (w0.heap.size+1+1) 48 [.string (str m.x.key),.int .i64 (sizes l),.string (str []),.int .i64 m.x.time,(.slice p' (k+1) c')]) [13] [[(8,none)],[(94,some 0)],[(7,none)],[(96,some 0)],[(97,some 0)],[(98,some 0)],[(11,none)],[(99,some 1),(100,some 0)],[(101,some 0)],[(102,some 0)],[(103,some 0)],[(95,some 9),(104,some 0)],[(8,none)],[(106,some 0),(105,some 1)]] [] [0] [none,none,none,none,none,none,none,none,none,none,none,none,none,none,none,none,none,none,none,none,none,none,none,none,none,none,none,none,none,none,none,none,none,none,none,none,none,none,none,none,none,none,none,none,none,none,none,none,none,none,none,none,none,none,none,none,none,none,none,none,none,none,none,none,none,none,none,none,none,none,none,none,none,none,none,none,none,none,none,none,none,none,none,none,none,none,none,none,none,none,none,none,none,none,some 94,some 95,some 96,some 97,some 98,some 99,some 100,some 101,some 102,some 103,some 104,some 105,some 106,none,none,none,none,none,none,none,none,none,none,none,none,none,none,none,none,none,none,none,none,none,none,none] (by kernel_rfl) rfl (by kernel_rfl) hRr hRt hRs hRd hC0 (by kernel_rfl) (by kernel_rfl) ?_
    apply zF
    ·rintro a w hR hC ⟨(e8:_=_),-⟩;refine zA rfl fun K hK=>?_;go_simp;exact hK _ _ rfl ⟨hRr _,hRs _ _,fun _ _ _ _ h=>h⟩
    apply zF
    ·rintro a w hR hC ⟨(e94:_=_),-⟩;refine zA rfl fun K hK=>?_;have rz:Row w (w0.heap.size+1+1) 48 [.string (str m.x.key),.int .i64 (sizes l),.string (str []),.int .i64 m.x.time,(.slice p' (k+1) c')]:=hC 13 (by simp) (by kernel_rfl);have z1:=rz.cell (i:=1) rfl;go_simp;exact hK _ _ rfl ⟨hRr _,hRs _ _,fun _ _ _ _ h=>h⟩
    apply zF
    ·rintro a w hR hC ⟨(e7:_=_),-⟩;refine zA rfl fun K hK=>?_;go_simp;exact hK _ _ rfl ⟨hRr _,hRs _ _,fun _ _ _ _ h=>h⟩
    apply zF
    ·rintro a w hR hC ⟨(e96:_=_),-⟩;refine zA rfl fun K hK=>?_;go_simp;exact hK _ _ rfl ⟨hRr _,hRs _ _,fun _ _ _ _ h=>h⟩
    apply zF
    ·rintro a w hR hC ⟨(e97:_=_),-⟩;refine zA rfl fun K hK=>?_;go_simp;exact hK _ _ rfl ⟨hRr _,hRs _ _,fun _ _ _ _ h=>h⟩
    apply zF
    ·rintro a w hR hC ⟨(e98:_=_),-⟩;refine zA rfl fun K hK=>?_;obtain ⟨q0,q1,q2,q3,q4,q5⟩:=HZ.out w (HR16.out.trans hR (fun z hz _=>by rw [List.mem_singleton.1 hz];exact List.mem_cons_self ..));go_simp;exact hK _ _ rfl ⟨hRr _,hRs _ _,fun _ _ _ _ h=>h⟩
    apply zF
    ·rintro a w hR hC ⟨(e11:_=_),-⟩;refine zA rfl fun K hK=>?_;go_simp;exact hK _ _ rfl ⟨hRr _,hRs _ _,fun _ _ _ _ h=>h⟩
    apply zF
    ·rintro a w hR hC ⟨(e99:_=_),(e100:_=_),-⟩;refine zA rfl fun K hK=>?_;have hjj:(j:Int) < (nq:Int):=hjqi;go_simp;exact hK _ _ rfl ⟨hRr _,hRs _ _,fun _ _ _ _ h=>h⟩
    apply zF
    ·rintro a w hR hC ⟨(e101:_=_),-⟩;refine zA rfl fun K hK=>?_;go_simp;exact hK _ _ rfl ⟨hRr _,hRs _ _,fun _ _ _ _ h=>h⟩
    apply zF
    ·rintro a w hR hC ⟨(e102:_=_),-⟩;refine zA rfl fun K hK=>?_;go_simp;exact hK _ _ rfl ⟨hRr _,hRs _ _,fun _ _ _ _ h=>h⟩
    apply zF
    ·rintro a w hR hC ⟨(e103:_=_),-⟩;refine zA rfl fun K hK=>?_;obtain ⟨q0,q1,q2,q3,q4,q5⟩:=HZ.out w (HR16.out.trans hR (fun z hz _=>by rw [List.mem_singleton.1 hz];exact List.mem_cons_self ..));go_simp;exact hK _ _ rfl ⟨hRr _,hRs _ _,fun _ _ _ _ h=>h⟩
    apply zF
    ·rintro a w hR hC ⟨(e95:_=_),(e104:_=_),-⟩;refine zA rfl fun K hK=>?_;go_simp;exact hK _ _ rfl ⟨hRr _,hRs _ _,fun _ _ _ _ h=>h⟩
    apply zF
    ·rintro a w hR hC ⟨(e8:_=_),-⟩;refine zA rfl fun K hK=>?_;go_simp;exact hK _ _ rfl ⟨hRr _,hRs _ _,fun _ _ _ _ h=>h⟩
    refine ⟨qH (w0.heap.size+1+1) 48 [.string (str m.x.key),.int .i64 (sizes l+pt.pc.size),.string (str []),.int .i64 m.x.time,(.slice p' (k+1) c')],zL qH.stable (by intro x hx hk;simp only [List.mem_cons,List.not_mem_nil,or_false] at hx;rcases hx with rfl;exact Bool.noConfusion (hk.symm.trans (by kernel_rfl:_=true))),fun a w hR hC hf=>?_,?_⟩
    ·obtain ⟨e106,e105,-⟩:=hf;replace e106:a.tmps.getD 106 undef=_:=e106;replace e105:a.tmps.getD 105 undef=_:=e105;refine zA rfl fun K hK=>?_;have rz:Row w (w0.heap.size+1+1) 48 [.string (str m.x.key),.int .i64 (sizes l),.string (str []),.int .i64 m.x.time,(.slice p' (k+1) c')]:=hC 13 (by simp) (by kernel_rfl);have zc:=rz.cell (i:=1) rfl;have zf:=rz.free 1;go_simp;have hst:=Only.setCell w ⟨w0.heap.size+1+1,1,none⟩ (.int .i64 (sizes l+pt.pc.size));exact hK undef _ (rz.setCell 1 _) ⟨hst,hst,fun i hi hne ha hc=>absurd hi (by simp;omega)⟩
    intro f17 w17 hR17 hf hl17;dsimp only [qE];obtain ⟨l13,-⟩:=hl17;replace l13:∃ v,(qH (w0.heap.size+1+1) 48 [.string (str m.x.key),.int .i64 (sizes l+pt.pc.size),.string (str []),.int .i64 m.x.time,(.slice p' (k+1) c')]) v w17:=l13;obtain ⟨_,h4⟩:=l13;replace h4:Row w17 (w0.heap.size+1+1) 48 [.string (str m.x.key),.int .i64 (sizes l+pt.pc.size),.string (str []),.int .i64 m.x.time,(.slice p' (k+1) c')]:=h4
    have HI2:Hid (UpI m u.u.parts w2 (w0.heap.size+1+1) (k+1) (l ++ [pt.pc]) p' c' w17):=Lib.hid ⟨HP.out.1,by rw [List.length_append,HIf.out.len];rfl,by rw [zFf];exact h4,H1.out.jL hR17 (fun z hz hm=>HX1.out (by rw [← List.mem_singleton.1 hm];exact hz)),(HIf.out.only.zY (HR16.out) (fun z hz=>by
     rcases List.mem_cons.1 hz with rfl | hz
     ·have:=Hsz.out;omega
     ·have:=(HIf.out.own.view.2.2.2.2.2.2 _ hz).1;have:=Hsz.out;omega)).zY hR17 (fun z hz=>by rw [List.mem_singleton.1 hz];have:=Hsz.out;omega)⟩
    clear h4 hR17 hRr hRt hRd hRs hC0 HR16 H1 H3 HX1 HP HZ HIf Hj;go_wp2_with fail;refine ⟨⟨k+1,l ++ [pt.pc],p',c',by go_num,by omega,HI2⟩,?_⟩
    simp [intOf];omega
  ·skip
   obtain rfl:k=np:=(by omega);have hnpe:=HH.out.2.2.2.2.2.2.2.2.2.2.2.2.2.2.2.2.2.2.2.2;have hgt:=HI.out.gt;rw [List.take_of_length_le (by omega)] at hgt;have hll:=HI.out.len
   have hpcs:∀ p∈l,zDb p:=fun p hp=>by
    obtain ⟨qq,hq1,hq2⟩:=(zAa hgt).2 p hp;rw [← hq2];exact (HH.out.2.2.2.2.2.2.2.2.2.2.2.2.2.2.2.2.1.parts qq hq1).2.2
   have hsum:=zES q k c l wr hll (by omega) (by rw [zEO l (fun p hp=>(hpcs p hp).et),hll];omega) HI.out.own.view.2.2.1;have HS:=Lib.hid hsum;have Hgt:Hid (gather u.u.parts m.x.parts=some l∧l.length=k):=Lib.hid ⟨hgt,hll⟩;have hrX:=HI.out.row;have x4:=hrX.cell (i:=4) rfl;clear hnpe hgt hll hpcs hsum hrX;go_wp2_with fail;refine HS.out.mono ?_;rintro e w5 ⟨rfl,o5⟩;have HI5:=Lib.hid (HI.out.step o5);clear HS HI o5 x4;have hrX:=HI5.out.row;have x2:=hrX.cell (i:=2) rfl;have f2:=hrX.free 2;obtain ⟨w6,hw6⟩:∃ w6,w6=w5.setCell ⟨w0.heap.size+1+1,2,none⟩ (.string (str (smL l))):=⟨_,rfl⟩
   have o56:Only [w0.heap.size+1+1] w5 w6:=(by rw [hw6];exact Only.setCell _ ⟨w0.heap.size+1+1,2,none⟩ _);have hrX6:=hrX.setCell 2 (.string (str (smL l)));rw [← hw6] at hrX6;have hsz2:=Hsz.out;have o26:Only [] w2 w6:=HI5.out.only.zY o56 (fun z hz=>by rw [List.mem_singleton.1 hz];omega);have o06:Only [] w0 w6:=HO.out.zC o26;have hqlo:=HI5.out.own.view.2.2.2.2.2.2;have hown6:=HI5.out.own.jL o56 (fun z hz hm=>by have:=(hqlo z hz).1;rw [List.mem_singleton.1 hm] at this;omega);have Hw6:=Lib.hid hw6;have hXk:∀ z∈blk q,w0.heap.size+1+1+1≤z:=fun z hz=>(hqlo z hz).1
   obtain ⟨xo,hxo⟩:∃ x:qG,x=⟨⟨m.x.key,sizes l,smL l,m.x.time,l⟩,q,c⟩:=⟨_,rfl⟩;obtain ⟨hown,hg,hrow,hat,hpu,hgu,hggu,hu,hU,hrl,hra,hfpl,hnu,hno,hnq,hB,hok,hk7,huo,hrw,hnp⟩:=HH.out;have hoK:zN w6 B 33 5 (.slice q l.length c) l.length (l.flatMap jK):=by rw [Hgt.out.2];exact hown6.weaken (by omega)
   have hput:=zGM b xo g o B cur w6 (hrow.zB o06) hat (hown.zB o06) hg (by rw [hxo];exact hoK) (fun z hz=>by
    have hz':z∈blk q:=(by rw [hxo] at hz;exact hz);have h9:=hXk z hz'
    exact ⟨fun hm=>by have:=(hfpl z hm).2;omega,fun e=>by have:=hrow.lt;omega⟩) (Nat.le_trans hB o06.size) Hbo.out.os (by have:=Hbo.out.ol;rw [show b.b.vC.length=b.os.length from List.length_map ..] at this;exact this)
   rw [show loV xo=.agg #[.string (str m.x.key),.int .i64 (sizes l),.string (str (smL l)),.int .i64 m.x.time,.slice q k c] by rw [hxo];unfold loV;dsimp only;rw [Hgt.out.2]] at hput;have HPut:=Lib.hid hput;have H06:Hid (Only [] w0 w6∧Only [] w2 w6∧w6.heap.size ≥ w0.heap.size+1+1+1):=Lib.hid ⟨o06,o26,hrX6.lt⟩;have Hxo:=Lib.hid hxo;have HXk:=Lib.hid hXk;have H2r:Hid (Row w6 (w0.heap.size+1) 38 [.int .i64 0,.string ⟨#[]⟩]):=Lib.hid (Hr2.out.zB o26);have v0:=hrX6.cell (i:=0) rfl;have v1:=hrX6.cell (i:=1) rfl;have v2:=hrX6.cell (i:=2) rfl;have v3:=hrX6.cell (i:=3) rfl
   have v4:=hrX6.cell (i:=4) rfl;have HV:Hid (Row w6 (w0.heap.size+1+1) 48 [.string (str m.x.key),.int .i64 (sizes l),.string (str (smL l)),.int .i64 m.x.time,.slice q k c]):=Lib.hid hrX6;clear hrX o56 hrX6 o26 o06 hqlo hown6 hw6 hXk hxo hown hg hrow hat hpu hgu hggu hu hU hrl hra hfpl hnu hno hnq hB hok hk7 huo hrw hnp hoK hput v0 v1 v2 v3 v4
   go_upto_region 20 with (fail)
   rw [← Hw6.out];clear Hw6 x2 f2;have hV:=HV.out;have v0:=hV.cell (i:=0) rfl;have v1:=hV.cell (i:=1) rfl;have v2:=hV.cell (i:=2) rfl;have v3:=hV.cell (i:=3) rfl;have v4:=hV.cell (i:=4) rfl;clear hV;go_wp2_with fail;refine HPut.out.mono ?_;rintro e w7 ⟨b1,cur1,rfl,hb1,hres,hus,hpu1,hcu⟩;clear HPut v0 v1 v2 v3 v4 HV;have hpc:=zHB b.b xo.o;obtain ⟨oc,hoc⟩:∃ oc,(zAF b.b xo.o).2=oc:=⟨_,rfl⟩;rw [hoc] at hpc ⊢;unfold xM;obtain ⟨w8,hw8⟩:∃ w8,w8=w7.alloc (.cells #[.int .i64 oc.code,.string (str oc.etag)] 38):=⟨_,rfl⟩;have o78:Only [] w7 w8:=by rw [hw8];exact Only.alloc _ _
   have rB:Row w8 w7.heap.size 38 [.int .i64 oc.code,.string (str oc.etag)]:=(by rw [hw8];exact Row.zV _ _ _ _ rfl);have hsz2:=Hsz.out;obtain ⟨hown,hg,hrow,hat,hpu,hgu,hggu,hu,hU,hrl,hra,hfpl,hnu,hno,hnq,hB,hok,hk7,huo,hrw,hnp⟩:=HH.out
   have hA2b:w0.heap.size+1 ∉ b1.fp:=fun hm=>by
    rcases hres.fp _ hm with h | h | h
    ·have:=(hfpl _ h).2;omega
    ·have:=HXk.out _ (by rw [Hxo.out] at h;exact h);omega
    ·have:=H06.out.2.2;omega
   have hgb1:g ∉ b1.fp:=fun hm=>by
    rcases hres.fp _ hm with h | h | h
    ·exact hg h
    ·have:=HXk.out _ (by rw [Hxo.out] at h;exact h);have:=hrow.lt;omega
    ·have:=H06.out.2.2;have:=hrow.lt;omega
   have hT:qX w0 w7 B g o cur b [] cur1 b1:=(hres.base H06.out.1).trans (qX.refl (hres.base H06.out.1).row hres.rcd hres.own [] (Only.refl _ _)) (fun z hz=>by cases hz) (fun z hz=>.inr (by have:=HXk.out z (by rw [Hxo.out] at hz;exact hz);omega))
   have rA:Row w7 (w0.heap.size+1) 38 [.int .i64 0,.string ⟨#[]⟩]:=H2r.out.only hres.only (fun hm=>by
    rcases List.mem_cons.1 hm with h | h
    ·have:=hrow.lt;omega
    ·have:=(hfpl _ h).2;omega)
   have hin:vU smL b.b i u.u m.x=if oc.code=0 then ({ b1.b with xE:=b.b.xE.eraseIdx i },oc) else (b1.b,oc):=by
    unfold vU;rw [if_neg (by omega),if_neg (by omega),Hgt.out.1];have hxo2:xo.o=⟨m.x.key,sizes l,smL l,m.x.time,l⟩:=(by rw [Hxo.out]);rw [hxo2] at hoc hb1;dsimp only;rw [hoc,hb1]
    split
    ·rfl
    ·rw [← hoc]
   have Hin:=Lib.hid hin;have HT:=Lib.hid hT;have HB1:Hid (w0.heap.size+1 ∉ b1.fp∧g ∉ b1.fp∧g < w0.heap.size∧b1.us=b.us∧b1.pu=some ⟨gu,0,none⟩∧b1.cu=b.cu∧b.us.length=nu∧w0.heap.size+1 < w7.heap.size∧gu < w0.heap.size∧g≠gu):=Lib.hid ⟨hA2b,hgb1,hrow.lt,hus,hpu1.trans hpu,hcu,hnu,rA.lt,(hfpl gu hgu).2,hggu⟩;have HrB:=Lib.hid rB;have HrA:=Lib.hid (rA.zB o78);have H78:=Lib.hid o78;have Hw8:=Lib.hid hw8;have v0:=rB.cell (i:=0) rfl;have v1:=rB.cell (i:=1) rfl;clear hw8 o78 rB hown hg hrow hat hpu hgu hggu hu hU hrl hra hfpl hnu hno hnq hB hok hk7 huo hrw hnp hA2b hgb1 hT rA hin hb1 hres hus hpu1 hcu hoc
   rcases hpc with h7 | ⟨h0,-⟩
   ·have hq:(oc.code == (0:Int))=false:=(by rw [h7];rfl);have hq2:¬ oc.code=0:=(by omega);have Hq2:=Lib.hid hq2;have hv:(Value.int .i64 oc.code)=.int .i64 7:=(by rw [h7]);clear hq2;have rO:=HrA.out;have c0:=rO.cell (i:=0) rfl;have c1:=rO.cell (i:=1) rfl;have f0:=rO.free 0;have f1:=rO.free 1;have hrz:=rO.set2 (.int .i64 oc.code) (.string (str oc.etag));have hst:=qB w8 (w0.heap.size+1) (.int .i64 oc.code) (.string (str oc.etag));obtain ⟨wz,hwz⟩:∃ wz,wz=(w8.setCell ⟨w0.heap.size+1,0,none⟩ (.int .i64 oc.code)).setCell ⟨w0.heap.size+1,1,none⟩ (.string (str oc.etag)):=⟨_,rfl⟩
    rw [← hwz] at hrz hst;have Hrz:=Lib.hid hrz;have HE:Hid (vU smL b.b i u.u m.x=(b1.b,oc)∧qX w0 wz B g o cur b [] cur1 b1):=Lib.hid ⟨Hin.out.trans (if_neg Hq2.out),(HT.out.step H78.out).zAC hst (by have:=HB1.out.2.2.1;simp;omega) (fun z hz=>by rw [List.mem_singleton.1 hz];exact ⟨by omega,HB1.out.1⟩)⟩;have Hwz:=Lib.hid hwz;clear rO hrz hst hwz hv h7
    go_upto_region 21 with (fail)
    rw [← Hw8.out];clear Hw8;go_wp2_with fail;rw [← Hwz.out];exact bodyPost_ret (qO rfl _ _ _ rfl Hrz.out Tryz.underlying38 jH) rfl ⟨b1,cur1,by rw [HE.out.1];rfl,by rw [HE.out.1],HE.out.2⟩
   ·have Hq2:=Lib.hid h0;have Hw8z:Hid (w8=w7.alloc (.cells #[.int .i64 0,.string (str oc.etag)] 38)):=Lib.hid (by have h:=Hw8.out;rw [h0] at h;exact h);rw [h0] at v0 ⊢;have hB1:=HB1.out;obtain ⟨-,-,-,hus,hpu1,hcu,hnu,-,-,-⟩:=hB1;obtain ⟨d,hd⟩:∃ d,nu=d+1:=⟨nu - 1,by omega⟩;have hat1:=HT.out.rcd;unfold zD at hat1;rw [hus,hnu,hpu1,hcu,hd] at hat1;have hr8:=HT.out.row.zB H78.out;have z4:=hat1.cell hr8 (r:=4) rfl;have h9:=(HT.out.own.zB H78.out).su;rw [hus,hnu,hpu1,hcu,hd] at h9;have hdel:=zEK _ d b.cu b.us i B w8 h9 (by omega) (by omega) (by omega)
    have HD:=Lib.hid hdel;have Hat1:=Lib.hid hat1;have Hr8:=Lib.hid hr8;have hw1:IntKind.i64.wrap ((i:Int)+1)=(i:Int)+1:=(by rw [IntKind.wrap_i64];omega);have Hd:Hid (nu=d+1∧i≤d):=Lib.hid ⟨hd,by omega⟩;clear hd hus hpu1 hcu hnu h9 hdel hat1 hr8 h0
    go_upto_region 21 with (fail)
    rw [← Hw8z.out];clear Hw8 Hw8z;go_wp2_with fail;refine HD.out.mono ?_;rintro e w9 ⟨rfl,h1,h2⟩;replace h2:Only [gu] w8 w9:=h2;clear HD z4 v0 v1;have hr9:=Hr8.out.only h2 (by have:=HB1.out.2.2.2.2.2.2.2.2.2;simpa using this);have y4:=Hat1.out.cell hr9 (r:=4) rfl;have g4:=hr9.free (o+4);obtain ⟨w10,hw10⟩:∃ w10,w10=w9.setCell ⟨g,o+4,none⟩ (.slice (some ⟨gu,0,none⟩) d b.cu):=⟨_,rfl⟩;have o910:Only [g] w9 w10:=(by rw [hw10];exact Only.setCell _ ⟨g,o+4,none⟩ _);have o810:Only [gu,g] w8 w10:=(h2.mono (by simp)).trans o910 (fun z hz _=>by simp at hz ⊢;exact .inr hz)
    have hT8:=HT.out.step H78.out;have hB1:=HB1.out;obtain ⟨hA2b,hgb1,hgl,hus,hpu1,hcu,hnu,hA7,hgul,hggu⟩:=hB1;have hdl:=qX.zJY (w3:=w9) (w4:=w10) (b:=b1) (i:=i) (d:=d) hT8.row hT8.rcd hT8.own hgb1 hpu1 (by rw [hus,hnu];exact Hd.out.1) Hd.out.2 (by rw [hus,hcu];exact h1) h2 (by rw [hcu];exact hw10);have hT10:=hT8.trans hdl (fun z hz=>by cases hz) (fun z hz=>by cases hz);have rB10:=HrB.out.only o810 (by simp;omega);have rA10:=HrA.out.only o810 (by simp;omega);have u0:=rB10.cell (i:=0) rfl;rw [Hq2.out] at u0;have u1:=rB10.cell (i:=1) rfl
    have hA2c:w0.heap.size+1 ∉ ({ b1 with us:=b1.us.eraseIdx i,pu:=some ⟨gu,0,none⟩,cu:=b1.cu }:LBk).fp:=fun hm=>by
     rcases hdl.fp _ hm with h | h | h
     ·exact hA2b h
     ·cases h
     ·have:=H78.out.size;omega
    have rO:=rA10
    have hin2:vU smL b.b i u.u m.x=(({ b1 with us:=b1.us.eraseIdx i,pu:=some ⟨gu,0,none⟩,cu:=b1.cu }:LBk).b,oc):=by
     rw [Hin.out,if_pos Hq2.out];unfold LBk.b;dsimp only;rw [hus,vX]
    have c0:=rO.cell (i:=0) rfl;have c1:=rO.cell (i:=1) rfl;have f0:=rO.free 0;have f1:=rO.free 1;have hrz:=rO.set2 (.int .i64 0) (.string (str oc.etag));have hst:=qB w10 (w0.heap.size+1) (.int .i64 0) (.string (str oc.etag));obtain ⟨wz,hwz⟩:∃ wz,wz=(w10.setCell ⟨w0.heap.size+1,0,none⟩ (.int .i64 0)).setCell ⟨w0.heap.size+1,1,none⟩ (.string (str oc.etag)):=⟨_,rfl⟩;rw [← hwz] at hrz hst;have Hrz:=Lib.hid hrz;have HE:Hid (vU smL b.b i u.u m.x=(({ b1 with us:=b1.us.eraseIdx i,pu:=some ⟨gu,0,none⟩,cu:=b1.cu }:LBk).b,oc)∧qX w0 wz B g o cur b [] (cur1.set (o+4) (.slice (some ⟨gu,0,none⟩) d b1.cu)) { b1 with us:=b1.us.eraseIdx i,pu:=some ⟨gu,0,none⟩,cu:=b1.cu }):=Lib.hid ⟨hin2,hT10.zAC hst (by simp;omega) (fun z hz=>by rw [List.mem_singleton.1 hz];exact ⟨by omega,hA2c⟩)⟩
    have Hwz:=Lib.hid hwz;have Hw10:=Lib.hid hw10;clear rO hrz hst hwz hr9 hw10 o910 o810 hT8 hA2b hgb1 hgl hus hpu1 hcu hnu hA7 hgul hggu hdl hT10 rB10 rA10 hA2c hin2 h1 h2
    go_upto_region 23 with (fail)
    rw [← Hw10.out];clear Hw10 y4 g4;go_wp2_with fail;rw [← Hwz.out];exact bodyPost_ret (qO rfl _ _ _ rfl Hrz.out Tryz.underlying38 jH) rfl ⟨{ b1 with us:=b1.us.eraseIdx i,pu:=some ⟨gu,0,none⟩,cu:=b1.cu },cur1.set (o+4) (.slice (some ⟨gu,0,none⟩) d b1.cu),by rw [HE.out.1];show _=Ending.returned (.agg #[.int .i64 oc.code,.string (str oc.etag)]);rw [Hq2.out],by rw [HE.out.1],HE.out.2⟩
end
section
open Go.RowKit
theorem zDq {b:jE} {x:Cmd} (hk:x.kind=6∨x.kind=7∨x.kind=8):jA smL b x=match b.xE[qV zAH.id ltI b.xE x.upload]? with
  | none=>(b,⟨3,[]⟩)
  | some u=>if u.id=x.upload∧u.key=x.key then vU smL b (qV zAH.id ltI b.xE x.upload) u x else (b,⟨3,[]⟩):=by
 unfold jA;rw [if_neg (by omega),if_neg (by omega),if_neg (by omega),if_neg (by omega)]
 cases b.xE[qV zAH.id ltI b.xE x.upload]? <;> rfl
set_option maxHeartbeats 16000000 in
theorem zHa (b:LBk) (m:zS) (g o B:Nat) (cur:List Value) (w0:World) (hrow:Row w0 g 60 cur) (hat:jF o cur (zD b)) (hown:qZ w0 B b) (hg:g ∉ b.fp) (hB:B≤w0.heap.size) (hbo:yO b.b) (hx:xJ m.x) (hca:jS w0 m) (hk:m.x.kind=6∨m.x.kind=7∨m.x.kind=8) :
  Calls Tryz.prog 57 #[.pointer (some ⟨g,o,none⟩),lmV m] w0 (zEL b m g o B cur w0):=by
 obtain ⟨kd,hkd⟩:∃ k,m.x.kind=k:=⟨_,rfl⟩;obtain ⟨np,hnp⟩:∃ n,m.x.parts.length=n:=⟨_,rfl⟩;obtain ⟨nu,hnu⟩:∃ n,b.us.length=n:=⟨_,rfl⟩;obtain ⟨no,hno⟩:∃ n,b.os.length=n:=⟨_,rfl⟩;have hnol:no≤128:=(by have:=hbo.ol;rw [show b.b.vC.length=b.os.length from List.length_map ..] at this;omega);have hnul:nu≤16:=(by have:=hbo.ul;rw [show b.b.xE.length=b.us.length from List.length_map ..] at this;omega);obtain ⟨w1,hw1⟩:∃ w1,w1=w0.alloc (.cells #[.int .i64 kd,.int .i64 m.x.id.node,.int .i64 m.x.id.boot,.int .i64 m.x.id.seq,.string (str m.x.bucket),.string (str m.x.key),.int .i64 m.x.upload.node,.int .i64 m.x.upload.boot,.int .i64 m.x.upload.seq,.int .i64 m.x.piece.blob.node,.int .i64 m.x.piece.blob.boot,.int .i64 m.x.piece.blob.seq,.int .i64 m.x.piece.size,.string (str m.x.piece.etag),.int .i64 m.x.part,.slice m.p np m.c,.int .i64 m.x.time,.int .i64 m.x.days] 36):=⟨_,rfl⟩
 have o1:Only [] w0 w1:=(by rw [hw1];exact Only.alloc _ _);have s1:w1.heap.size=w0.heap.size+1:=(by rw [hw1];simp);have r1:Row w1 (w0.heap.size) 36 [.int .i64 kd,.int .i64 m.x.id.node,.int .i64 m.x.id.boot,.int .i64 m.x.id.seq,.string (str m.x.bucket),.string (str m.x.key),.int .i64 m.x.upload.node,.int .i64 m.x.upload.boot,.int .i64 m.x.upload.seq,.int .i64 m.x.piece.blob.node,.int .i64 m.x.piece.blob.boot,.int .i64 m.x.piece.blob.seq,.int .i64 m.x.piece.size,.string (str m.x.piece.etag),.int .i64 m.x.part,.slice m.p np m.c,.int .i64 m.x.time,.int .i64 m.x.days]:=by rw [hw1];exact Row.zV _ _ _ _ rfl
 obtain ⟨w2,hw2⟩:∃ w2,w2=w1.alloc (.cells #[.int .i64 0,.string ⟨#[]⟩] 38):=⟨_,rfl⟩;have o2:Only [] w1 w2:=(by rw [hw2];exact Only.alloc _ _);have s2:w2.heap.size=w0.heap.size+1+1:=(by rw [hw2];simp [s1]);have r2:Row w2 (w0.heap.size+1) 38 [.int .i64 0,.string ⟨#[]⟩]:=(by rw [← s1,hw2];exact Row.zV _ _ _ _ rfl);replace r1:=r1.zB o2;have oAll:Only [] w0 w2:=(o1.zC o2);rw [hw1] at hw2;have hatc:=hat;unfold zD at hatc;rw [hno,hnu] at hatc;have hfpl:=hown.lo;have Hr1:=Lib.hid r1;have Hr2:=Lib.hid r2;have HO:=Lib.hid oAll;have Hw:=Lib.hid hw2
 have Hsz:Hid (w2.heap.size=w0.heap.size+1+1):=Lib.hid s2;have Hrow:=Lib.hid (hrow.zB oAll);have Hat:=Lib.hid hatc;have HH:Hid (qZ w0 B b∧g ∉ b.fp∧Row w0 g 60 cur∧jF o cur (zD b)∧(∀ z∈b.fp,B≤z∧z < w0.heap.size)∧b.us.length=nu∧b.os.length=no∧B≤w0.heap.size∧yO b.b∧xJ m.x∧jS w0 m∧m.x.parts.length=np):=Lib.hid ⟨hown,hg,hrow,hat,hfpl,hnu,hno,hB,hbo,hx,hca,hnp⟩;have Hk:=Lib.hid hk;have hgl:g < w0.heap.size:=hrow.lt;have m6:=r1.cell (i:=6) rfl;have m7:=r1.cell (i:=7) rfl;have m8:=r1.cell (i:=8) rfl
 have m5:=r1.cell (i:=5) rfl;rw [show lmV m=.agg #[.int .i64 kd,.int .i64 m.x.id.node,.int .i64 m.x.id.boot,.int .i64 m.x.id.seq,.string (str m.x.bucket),.string (str m.x.key),.int .i64 m.x.upload.node,.int .i64 m.x.upload.boot,.int .i64 m.x.upload.seq,.int .i64 m.x.piece.blob.node,.int .i64 m.x.piece.blob.boot,.int .i64 m.x.piece.blob.seq,.int .i64 m.x.piece.size,.string (str m.x.piece.etag),.int .i64 m.x.part,.slice m.p np m.c,.int .i64 m.x.time,.int .i64 m.x.days] by unfold lmV;rw [hnp,hkd]];have Hkd:=Lib.hid hkd;have hk2:kd=6∨kd=7∨kd=8:=by rw [← hkd];exact hk
 have m0:=Hr1.out.cell (i:=0) rfl;have q1:(kd == 3)=false:=(by rcases hk2 with h | h | h <;> rw [h] <;> rfl);have q2:(kd == 4)=false:=(by rcases hk2 with h | h | h <;> rw [h] <;> rfl);have q3:(kd == 5)=false:=(by rcases hk2 with h | h | h <;> rw [h] <;> rfl);have q4:(kd == 9)=false:=(by rcases hk2 with h | h | h <;> rw [h] <;> rfl);clear hkd hk2;clear hrow hat hown hg hB hbo hx hca hnp hnu hno hatc hfpl r1 r2 oAll hw2 s2 s1 o1 o2 hw1 hk
 go_enter Tryz.func57,Tryz.ntmps57
 go_upto_region 1 with (fail)
 rw [← Hw.out];have z4:=Hat.out.cell Hrow.out (r:=4) rfl;have Hz4:=Lib.hid z4;have HM:Hid (w2.cell? ⟨w0.heap.size,6,none⟩=some (.int .i64 m.x.upload.node)∧w2.cell? ⟨w0.heap.size,7,none⟩=some (.int .i64 m.x.upload.boot)∧w2.cell? ⟨w0.heap.size,8,none⟩=some (.int .i64 m.x.upload.seq)∧w2.cell? ⟨w0.heap.size,5,none⟩=some (.string (str m.x.key))):=Lib.hid ⟨m6,m7,m8,m5⟩;obtain ⟨i,hi⟩:∃ i,qV qN.id ltI b.us m.x.upload=i:=⟨_,rfl⟩;obtain ⟨th,hth⟩:∃ th,qC qN.id ltI b.us m.x.upload=th:=⟨_,rfl⟩
 have hfind:∀ (W:World),Only [] w0 W→Calls Tryz.prog 69 #[.slice b.pu nu b.cu,.agg #[.int .i64 m.x.upload.node,.int .i64 m.x.upload.boot,.int .i64 m.x.upload.seq],.func (.func 70) #[] #[]] W fun e w'=>e=.returned (.tuple #[.int .i64 (i:Int),.bool th])∧Only [] W w':=fun W hW=>by
  obtain ⟨hown,hg,hrow,hat,hfpl,hnu,hno,hB,hbo,hx,hca,hnp⟩:=HH.out;have hss:jD qN.id ltI b.us:=zAM (key:=qN.id) qN.u (fun _=>rfl) hbo.us;have h:=zFp b.pu nu b.cu b.us m.x.upload W hnu (by omega) (fun h0=>by rw [← hnu];exact (hown.su.view.2.2.2.1 h0).1) (hown.su.view.2.2.1.zB hW) hss;rw [hi,hth] at h;exact h
 have HF:=Lib.hid hfind;have Hith:Hid (qV zAH.id ltI b.b.xE m.x.upload=i∧qC qN.id ltI b.us m.x.upload=th∧qV qN.id ltI b.us m.x.upload=i):=Lib.hid ⟨(zAl (key:=qN.id) qN.u (fun _=>rfl) b.us m.x.upload).trans hi,hth,hi⟩;clear z4 m5 m6 m7 m8 hi hth hfind
 go_upto_region 18 with (fail)
 clear m0;refine qY (Only []) [[(0,none)],[(90,some 0)],[(91,some 0)],[(92,some 0)],[(3,none)],[(94,some 0)],[(93,some 2),(95,some 0)],[(96,some 0)],[(89,some 0)],[(89,some 1)],[(97,some 1)],[(98,some 1)]] [(8,1),(9,0)] [none,none,none,none,none,none,none,none,some 8,some 9,none,none,none,none,none,none,none,none,none,none,none,none,none,none,none,none,none,none,none,none,none,none,none,none,none,none,none,none,none,none,none,none,none,none,none,none,none,none,none,none,none,none,none,none,none,none,none,none,none,none,none,none,none,none,none,none,none,none,none,none,none,none,none,none,none,none,none,none,none,none,none,none,none,none,none,none,none,none,none,some 89,some 90,some 91,some 92,some 93,some 94,some 95,some 96,some 97,some 98,none,none,none,none,none,none,none,none,none,none,none,none,none,none,none,none,none,none,none,none] (by kernel_rfl) rfl (by kernel_rfl) (fun _=>Only.refl _ _) (fun _ _ _ h k=>h.zC k) (Only.drew _) (by kernel_rfl) ?_
 apply zJ
 ·rintro a w hR ⟨(e0:_=_),-⟩;refine zA rfl fun K hK=>?_;go_simp;exact hK _ _ rfl (Only.refl _ _)
 apply zJ
 ·rintro a w hR ⟨(e90:_=_),-⟩;refine zA rfl fun K hK=>?_;go_simp;exact hK _ _ rfl (Only.refl _ _)
 apply zJ
 ·rintro a w hR ⟨(e91:_=_),-⟩;refine zA rfl fun K hK=>?_;go_simp;exact hK _ _ rfl (Only.refl _ _)
 apply zJ
 ·rintro a w hR ⟨(e92:_=_),-⟩;refine zA rfl fun K hK=>?_;have g4:=hR.cell Hz4.out (by simp);go_simp;exact hK _ _ rfl (Only.refl _ _)
 apply zJ
 ·rintro a w hR ⟨(e3:_=_),-⟩;refine zA rfl fun K hK=>?_;go_simp;exact hK _ _ rfl (Only.refl _ _)
 apply zJ
 ·rintro a w hR ⟨(e94:_=_),-⟩;refine zA rfl fun K hK=>?_;have g6:=hR.cell HM.out.1 (by simp);have g7:=hR.cell HM.out.2.1 (by simp);have g8:=hR.cell HM.out.2.2.1 (by simp);go_simp;exact hK _ _ rfl (Only.refl _ _)
 apply zJ
 ·rintro a w hR ⟨(e93:_=_),(e95:_=_),-⟩;refine zA rfl fun K hK=>?_;go_simp;(with_reducible refine (HF.out w (HO.out.zC hR)).mono ?_);rintro e w' ⟨rfl,o'⟩;exact hK _ _ rfl o'
 apply zJ
 ·rintro a w hR ⟨(e96:_=_),-⟩;refine zA rfl fun K hK=>?_;go_simp;exact hK _ _ rfl (Only.refl _ _)
 apply zJ
 ·rintro a w hR ⟨(e89:_=_),-⟩;refine zA rfl fun K hK=>?_;go_simp;exact hK _ _ rfl (Only.refl _ _)
 apply zJ
 ·rintro a w hR ⟨(e89:_=_),-⟩;refine zA rfl fun K hK=>?_;go_simp;exact hK _ _ rfl (Only.refl _ _)
 apply zJ
 ·rintro a w hR ⟨(e97:_=_),-⟩;refine zA rfl fun K hK=>?_;go_simp;exact hK _ _ rfl (Only.refl _ _)
 apply zJ
 ·rintro a w hR ⟨(e98:_=_),-⟩;refine zA rfl fun K hK=>?_;go_simp;exact hK _ _ rfl (Only.refl _ _)
 intro fa wa hRa hf;dsimp only [qE];obtain ⟨e8,e9,-⟩:=hf;replace e8:fa 8=_:=e8;rw [e8];replace e9:fa 9=_:=e9;rw [e9];have HOa:=Lib.hid hRa;have HRO:=Lib.hid (Hr2.out.zB hRa);have hr3:=Hrow.out.zB hRa;have q5:=hRa.cell HM.out.2.2.2 (by simp);clear hRa HF
 have hnone:∀ (P:Prop),(th=false∨∃ u,b.us[i]?=some u∧u.u.id=m.x.upload∧¬ u.u.key=m.x.key)→jA smL b.b m.x=(b.b,⟨3,[]⟩):=fun _ h=>by
  rw [zDq Hk.out,Hith.out.1,show b.b.xE=b.us.map qN.u from rfl,List.getElem?_map]
  rcases h with h | ⟨u,h1,h2,h3⟩
  ·cases hb:b.us[i]? with
   | none=>rfl
   | some u =>
    have hne:¬ u.u.id=m.x.upload:=fun e=>by
     have h9:=Hith.out.2.1;unfold qC at h9;rw [Hith.out.2.2,hb] at h9;have h10:decide (qN.id u=m.x.upload)=true:=decide_eq_true e;dsimp only at h9;rw [h10,h] at h9
     cases h9
    simp [hne]
  ·rw [h1];simp [h3]
 have Hnone:=Lib.hid (hnone True);clear hnone
 have HE1:Hid (∀ (_:jA smL b.b m.x=(b.b,⟨3,[]⟩)),jA smL b.b m.x=(b.b,⟨3,[]⟩)∧qX w0 wa B g o cur b [] cur b∧w0.heap.size+1 ∉ b.fp):=Lib.hid (fun h=>by
  obtain ⟨hown,hg,hrow,hat,hfpl,hnu,hno,hB,hbo,hx,hca,hnp⟩:=HH.out
  exact ⟨h,qX.refl hrow hat hown _ (HO.out.zC HOa.out),fun hm=>by have:=(hfpl _ hm).2;omega⟩)
 cases th with
 | false =>
  have HE0:=Lib.hid (HE1.out (Hnone.out (.inl rfl)));clear hr3
  go_upto_region 19 with (fail)
  go_quiet (fail)
  have HE2:=Lib.hid (show jA smL b.b m.x=(b.b,⟨3,[]⟩)∧qX w0 (wa.drewN nq) B g o cur b [] cur b∧w0.heap.size+1 ∉ b.fp from ⟨HE0.out.1,HE0.out.2.1.step (Only.drewN _ _),HE0.out.2.2⟩);have HRO2:=Lib.hid (HRO.out.zB (Only.drewN wa nq));clear HE0 HRO HE1 Hnone q5;have HE0:=HE2;have HRO:=HRO2;clear HE2 HRO2;go_wp2_with fail;refine (vM 3 (wa.drewN nq)).mono ?_;rintro e w9 ⟨rfl,o9⟩;unfold xM;have rO:=HRO.out.zB o9;have c0:=rO.cell (i:=0) rfl;have c1:=rO.cell (i:=1) rfl;have f0:=rO.free 0;have f1:=rO.free 1;have hrz:=rO.set2 (.int .i64 3) (.string (str []))
  have hst:=qB w9 (w0.heap.size+1) (.int .i64 3) (.string (str []));obtain ⟨wz,hwz⟩:∃ wz,wz=(w9.setCell ⟨w0.heap.size+1,0,none⟩ (.int .i64 3)).setCell ⟨w0.heap.size+1,1,none⟩ (.string (str [])):=⟨_,rfl⟩;rw [← hwz] at hrz hst;have Hrz:=Lib.hid hrz;have HE:Hid (qX w0 wz B g o cur b [] cur b):=Lib.hid ((HE0.out.2.1.step o9).zAC hst (by simp;omega) (fun z hz=>by rw [List.mem_singleton.1 hz];exact ⟨by omega,HE0.out.2.2⟩));have Hwz:=Lib.hid hwz;clear rO hrz hst hwz o9;go_wp2_with fail;rw [← Hwz.out];exact bodyPost_ret (qO rfl _ _ _ rfl Hrz.out Tryz.underlying38 jH) rfl ⟨b,cur,by rw [HE0.out.1];rfl,by rw [HE0.out.1],HE.out⟩
 | true =>
  obtain ⟨u,hu,hui⟩:=jQ Hith.out.2.1;rw [Hith.out.2.2] at hu;obtain ⟨hown,hg,hrow,hat,hfpl,hnu,hno,hB,hbo,hx,hca,hnp⟩:=HH.out;have hilt:i < nu:=(by have:=(List.getElem?_eq_some_iff.1 hu).1;omega);obtain ⟨gu,-,hpu,-,-⟩:=hown.su.rowOf (by omega);have hsu:zN w0 B 54 5 (.slice (some ⟨gu,0,none⟩) b.us.length b.cu) b.us.length (b.us.flatMap zG):=(by have h:=hown.su;rw [hpu] at h;exact h);obtain ⟨rest,hrw,hrl,hnc,hcm,hgb,-⟩:=hsu.row;have hra:=jZ (rest:=rest) zT hu;have y3:=hra.cell (hrw.zB (HO.out.zC HOa.out)) (r:=3) rfl
  have z4:=Hat.out.cell hr3 (r:=4) rfl;rw [hpu] at z4;have hii:(i:Int) < (nu:Int):=(by omega);have hkk:=jV u.u.key m.x.key;have huo:=hbo.up u.u (by show u.u∈b.us.map qN.u;exact List.mem_map_of_mem (List.mem_of_getElem? hu))
  have hinb:∀ (_:u.u.key=m.x.key),jA smL b.b m.x=vU smL b.b i u.u m.x:=fun hk=>by
   rw [zDq Hk.out,Hith.out.1,show b.b.xE=b.us.map qN.u from rfl,List.getElem?_map,hu];show (if u.u.id=m.x.upload∧u.u.key=m.x.key then _ else _)=_;rw [if_pos ⟨hui,hk⟩]
  have hupl:∀ W,Only [] w0 W→Calls Tryz.prog 101 #[.pointer (some ⟨g,o,none⟩),.int .i64 (i:Int),lmV m] W (zGb b u m g o i B cur W):=fun W hW=>by
   rcases Hk.out with hk | hk | hk
   ·exact zGq b u m g o i B cur W (hrow.zB hW) hat (hown.zB hW) hg hu (Nat.le_trans hB hW.size) huo (by omega) hk
   ·exact zHC b u m g o i B cur W (hrow.zB hW) hat (hown.zB hW) hg hu (Nat.le_trans hB hW.size) huo (by omega) hk (hca.zB hW) (zCG (hx.prt hk).1 (hx.prt hk).2) hbo
   ·exact zGn b u m g o i B cur W (hrow.zB hW) hat (hown.zB hW) hg hu (Nat.le_trans hB hW.size) huo (by omega) hk
  rw [show lmV m=.agg #[.int .i64 kd,.int .i64 m.x.id.node,.int .i64 m.x.id.boot,.int .i64 m.x.id.seq,.string (str m.x.bucket),.string (str m.x.key),.int .i64 m.x.upload.node,.int .i64 m.x.upload.boot,.int .i64 m.x.upload.seq,.int .i64 m.x.piece.blob.node,.int .i64 m.x.piece.blob.boot,.int .i64 m.x.piece.blob.seq,.int .i64 m.x.piece.size,.string (str m.x.piece.etag),.int .i64 m.x.part,.slice m.p np m.c,.int .i64 m.x.time,.int .i64 m.x.days] by unfold lmV;rw [hnp,Hkd.out]] at hupl;have HU:=Lib.hid hupl;have Hinb:=Lib.hid hinb;have Hu:=Lib.hid (show b.us[i]?=some u∧u.u.id=m.x.upload from ⟨hu,hui⟩)
  clear hu hui hilt hpu hsu hrw hrl hnc hcm hgb hra hr3 huo hinb hupl;clear hown hg hrow hat hfpl hnu hno hB hbo hx hca hnp
  go_upto_region 19 with (fail)
  by_cases hkey:u.u.key=m.x.key
  ·rw [decide_eq_true hkey] at hkk;have Hkey:=Lib.hid hkey;clear hkey
   go_quiet (fail)
   have hOq:Only [] wa (wa.drewN nq):=Only.drewN _ _;obtain ⟨wd,hwd⟩:∃ wd,wd=wa.drewN nq:=⟨_,rfl⟩;rw [← hwd] at hOq;have HOd:=Lib.hid ((HO.out.zC HOa.out).zC hOq);have HROd:=Lib.hid (HRO.out.zB hOq);have Hr1d:=Lib.hid (Hr1.out.zB (HOa.out.zC hOq));have Hload:=Lib.hid (Hr1d.out.yM (P:=Tryz.prog) Tryz.underlying36 vK);have Hwd:=Lib.hid hwd;have hup:=HU.out wd HOd.out;have Hup:=Lib.hid hup;clear hOq hwd z4 y3 q5 hkk hup HU HRO HE1 Hnone;rw [← Hwd.out];clear Hwd
   go_wp2_with (first | ((with_reducible show wpList _ _ _ _ _ _);refine jG (ty:=36) (x:=.tmp 3) rfl rfl rfl Hload.out ?_))
   refine Hup.out.mono ?_;rintro e w5 ⟨b1,cur1,rfl,hb1,hres⟩;clear Hup Hload;obtain ⟨oc,hoc⟩:∃ oc,(vU smL b.b i u.u m.x).2=oc:=⟨_,rfl⟩;rw [hoc];unfold xM;obtain ⟨hown,hg,hrow,hat,hfpl,hnu,hno,hB,hbo,hx,hca,hnp⟩:=HH.out;have hsz:=HOd.out.size;have hA2w:w0.heap.size+1 < wd.heap.size:=HROd.out.lt
   have hA2:w0.heap.size+1 ∉ b1.fp:=fun hm=>by
    rcases hres.fp _ hm with h | h | h
    ·have:=(hfpl _ h).2;omega
    ·cases h
    ·omega
   have hT:=hres.base HOd.out
   have rO:=HROd.out.only hres.only (fun hm=>by
    rcases List.mem_cons.1 hm with h | h
    ·omega
    ·have:=(hfpl _ h).2;omega)
   have hin:jA smL b.b m.x=(b1.b,oc):=(by rw [Hinb.out Hkey.out,hb1,← hoc]);have c0:=rO.cell (i:=0) rfl;have c1:=rO.cell (i:=1) rfl;have f0:=rO.free 0;have f1:=rO.free 1;have hrz:=rO.set2 (.int .i64 oc.code) (.string (str oc.etag));have hst:=qB w5 (w0.heap.size+1) (.int .i64 oc.code) (.string (str oc.etag));obtain ⟨wz,hwz⟩:∃ wz,wz=(w5.setCell ⟨w0.heap.size+1,0,none⟩ (.int .i64 oc.code)).setCell ⟨w0.heap.size+1,1,none⟩ (.string (str oc.etag)):=⟨_,rfl⟩;rw [← hwz] at hrz hst;have Hrz:=Lib.hid hrz;have HE:Hid (jA smL b.b m.x=(b1.b,oc)∧qX w0 wz B g o cur b [] cur1 b1):=Lib.hid ⟨hin,hT.zAC hst (by simp;omega) (fun z hz=>by rw [List.mem_singleton.1 hz];exact ⟨by omega,hA2⟩)⟩
   have Hwz:=Lib.hid hwz;clear rO hrz hst hwz hin hA2 hA2w hT hb1 hres hoc hsz;clear hown hg hrow hat hfpl hnu hno hB hbo hx hca hnp;go_wp2_with fail;rw [← Hwz.out];exact bodyPost_ret (qO rfl _ _ _ rfl Hrz.out Tryz.underlying38 jH) rfl ⟨b1,cur1,by rw [HE.out.1];rfl,by rw [HE.out.1],HE.out.2⟩
  ·rw [decide_eq_false hkey] at hkk;have HE0:=Lib.hid (HE1.out (Hnone.out (.inr ⟨u,Hu.out.1,Hu.out.2,hkey⟩)));clear hkey
   go_quiet (fail)
   have HE2:=Lib.hid (show jA smL b.b m.x=(b.b,⟨3,[]⟩)∧qX w0 (wa.drewN nq) B g o cur b [] cur b∧w0.heap.size+1 ∉ b.fp from ⟨HE0.out.1,HE0.out.2.1.step (Only.drewN _ _),HE0.out.2.2⟩);have HRO2:=Lib.hid (HRO.out.zB (Only.drewN wa nq));clear HE0 HRO HE1 Hnone q5 z4 y3 hkk HU;have HE0:=HE2;have HRO:=HRO2;clear HE2 HRO2;go_wp2_with fail;refine (vM 3 (wa.drewN nq)).mono ?_;rintro e w9 ⟨rfl,o9⟩;unfold xM;have rO:=HRO.out.zB o9;have c0:=rO.cell (i:=0) rfl;have c1:=rO.cell (i:=1) rfl;have f0:=rO.free 0;have f1:=rO.free 1;have hrz:=rO.set2 (.int .i64 3) (.string (str []))
   have hst:=qB w9 (w0.heap.size+1) (.int .i64 3) (.string (str []));obtain ⟨wz,hwz⟩:∃ wz,wz=(w9.setCell ⟨w0.heap.size+1,0,none⟩ (.int .i64 3)).setCell ⟨w0.heap.size+1,1,none⟩ (.string (str [])):=⟨_,rfl⟩;rw [← hwz] at hrz hst;have Hrz:=Lib.hid hrz;have HE:Hid (qX w0 wz B g o cur b [] cur b):=Lib.hid ((HE0.out.2.1.step o9).zAC hst (by simp;omega) (fun z hz=>by rw [List.mem_singleton.1 hz];exact ⟨by omega,HE0.out.2.2⟩));have Hwz:=Lib.hid hwz;clear rO hrz hst hwz o9;go_wp2_with fail;rw [← Hwz.out];exact bodyPost_ret (qO rfl _ _ _ rfl Hrz.out Tryz.underlying38 jH) rfl ⟨b,cur,by rw [HE0.out.1];rfl,by rw [HE0.out.1],HE.out⟩
theorem zEh (b:LBk) (m:zS) (g o B:Nat) (cur:List Value) (w0:World) (hrow:Row w0 g 60 cur) (hat:jF o cur (zD b)) (hown:qZ w0 B b) (hg:g ∉ b.fp) (hB:B≤w0.heap.size) (hbo:yO b.b) (hx:xJ m.x) (hca:jS w0 m) (hk:m.x.kind≠1∧m.x.kind≠2∧m.x.kind≠10∧m.x.kind≠11) :
  Calls Tryz.prog 57 #[.pointer (some ⟨g,o,none⟩),lmV m] w0 (zEL b m g o B cur w0):=by
 have h1:=hx.klo;have h2:=hx.khi
 by_cases h3:m.x.kind=3
 ·exact zHT b m g o B cur w0 hrow hat hown hg hB hbo hx hca h3
 by_cases h4:m.x.kind=4
 ·exact zGm b m g o B cur w0 hrow hat hown hg hB hbo hx hca h4
 by_cases h5:m.x.kind=5
 ·exact zGv b m g o B cur w0 hrow hat hown hg hB hbo hx hca h5
 by_cases h9:m.x.kind=9
 ·exact zHV b m g o B cur w0 hrow hat hown hg hB hbo hx hca h9
 exact zHa b m g o B cur w0 hrow hat hown hg hB hbo hx hca (by omega)
end
end Go.Proofs.YtfeglnpmpgipiaaGreatDoor
