/- GrwPk, part 14: BkEdit, DelFuncW, DelObW, DelUpW, DelBkW. -/
import Derived.Test.YtfeglnpmpgipiaaGreatDoorGrwPk09
import Derived.Test.YtfeglnpmpgipiaaGreatDoorGrwPk11
import Derived.Test.YtfeglnpmpgipiaaGreatDoorGrwPk12
import Derived.Test.YtfeglnpmpgipiaaGreatDoorGrwPk13
set_option linter.unusedVariables false
set_option maxRecDepth 100000
set_option linter.unusedSimpArgs false
namespace Go.Proofs.YtfeglnpmpgipiaaGreatDoor
section
open Go.RowKit
theorem qZ.vC {w w':World} {B:Nat} {b:LBk} {os':List qG} {p':Option Addr} {c':Nat} {S new:List Nat} (h:qZ w B b) (ho:Only S w w') (hS:∀ z∈S,z∈blk b.po∨(z ∉ b.fp∧z ∉ new))
  (hso:zN w' B 48 5 (.slice p' os'.length c') os'.length (os'.flatMap zH)) (hob:∀ y∈os',y∈b.os∨(zCc w B y∧∀ z∈blk y.q,z∈new)) (hp:∀ z∈blk p',z∈blk b.po∨w.heap.size≤z)
  (hperm:∃ sub,(os'.flatMap (fun x=>blk x.q)).Perm (new ++ sub)∧sub.Sublist (b.os.flatMap (fun x=>blk x.q))) (hn:new.Nodup) (hnd:∀ z∈new,z ∉ b.fp∧z < w.heap.size) :
  qZ w' B { b with os:=os',po:=p',co:=c' }∧∀ z∈({ b with os:=os',po:=p',co:=c' }:LBk).fp,z∈b.fp∨z∈new∨w.heap.size≤z:=by
 obtain ⟨sub,h1,h2⟩:=hperm;have hnd0:=h.nd;have hlo:=h.lo;unfold LBk.fp at hnd0;have hd1:=List.nodup_append.1 hnd0
 have hap:∀ z∈blk b.pu ++ (b.os.flatMap (fun x=>blk x.q) ++ b.us.flatMap (fun x=>blk x.q)),z ∉ S:=fun z hz hm=>by
  rcases hS z hm with h3 | h3
  ·exact hd1.2.2 z h3 z hz rfl
  ·exact h3.1 (by unfold LBk.fp;exact List.mem_append_right _ hz)
 have hU:(blk b.pu ++ (sub ++ b.us.flatMap (fun x=>blk x.q))).Sublist (blk b.pu ++ (b.os.flatMap (fun x=>blk x.q) ++ b.us.flatMap (fun x=>blk x.q))):=(List.Sublist.refl _).append (h2.append (List.Sublist.refl _))
 have hin:∀ z∈os'.flatMap (fun x=>blk x.q),z∈new∨z∈b.os.flatMap (fun x=>blk x.q):=fun z hz=>by
  rcases List.mem_append.1 ((h1.mem_iff).1 hz) with h3 | h3
  ·exact .inl h3
  ·exact .inr (h2.subset h3)
 refine ⟨⟨hso,h.su.jL ho (fun z hz=>hap z (by simp [hz])),fun y hy=>?_,fun y hy=>zN.jL (h.up y hy) ho (fun z hz=>hap z (by simp only [List.mem_append,List.mem_flatMap];exact .inr (.inr ⟨y,hy,hz⟩))),?_⟩,fun z hz=>?_⟩
 ·rcases hob y hy with h3 | ⟨h3,h4⟩
  ·exact zN.jL (h.ob y h3) ho (fun z hz=>hap z (by simp only [List.mem_append,List.mem_flatMap];exact .inr (.inl ⟨y,h3,hz⟩)))
  ·exact zN.jL h3 ho (fun z hz hm=>by
    rcases hS z hm with h5 | h5
    ·exact (hnd z (h4 z hz)).1 (by unfold LBk.fp;simp [h5])
    ·exact h5.2 (h4 z hz))
 ·show (blk p' ++ (blk b.pu ++ (os'.flatMap (fun x=>blk x.q) ++ b.us.flatMap (fun x=>blk x.q)))).Nodup
  rcases zBU hp with h3 | ⟨g,h3,hg⟩
  ·refine zDJ (new:=new) (sub:=blk p' ++ (blk b.pu ++ (sub ++ b.us.flatMap (fun x=>blk x.q)))) ?_ ?_ hnd0 hn (fun z hz=>by have:=(hnd z hz).1;unfold LBk.fp at this;exact this)
   ·rw [List.perm_iff_count] at h1 ⊢;intro a;have:=h1 a;simp only [List.count_append] at this ⊢;omega
   ·rcases h3 with h3 | h3
    ·rw [h3,List.nil_append];exact hU.trans (List.sublist_append_right ..)
    ·rw [h3];exact (List.Sublist.refl _).append hU
  ·refine zDJ (new:=g :: new) (sub:=blk b.pu ++ (sub ++ b.us.flatMap (fun x=>blk x.q))) ?_ (hU.trans (List.sublist_append_right ..)) hnd0 (List.nodup_cons.2 ⟨fun hm=>by have:=(hnd g hm).2;omega,hn⟩) (fun z hz=>?_)
   ·rw [h3];rw [List.perm_iff_count] at h1 ⊢;intro a;have:=h1 a;simp only [List.count_append,List.count_cons,List.count_nil] at this ⊢;omega
   ·rcases List.mem_cons.1 hz with rfl | hz
    ·intro hm;have:=(hlo z (by unfold LBk.fp;exact hm)).2;omega
    ·have:=(hnd z hz).1;unfold LBk.fp at this;exact this
 ·have hz':z∈blk p' ++ (blk b.pu ++ (os'.flatMap (fun x=>blk x.q) ++ b.us.flatMap (fun x=>blk x.q))):=hz;unfold LBk.fp
  rcases List.mem_append.1 hz' with h3 | h3
  ·rcases hp z h3 with h4 | h4
   ·exact .inl (List.mem_append.2 (.inl h4))
   ·exact .inr (.inr h4)
  ·rcases List.mem_append.1 h3 with h3 | h3
   ·exact .inl (by simp [h3])
   ·rcases List.mem_append.1 h3 with h3 | h3
    ·rcases hin z h3 with h4 | h4
     ·exact .inr (.inl h4)
     ·exact .inl (List.mem_append.2 (.inr (List.mem_append.2 (.inr (List.mem_append.2 (.inl h4))))))
    ·exact .inl (List.mem_append.2 (.inr (List.mem_append.2 (.inr (List.mem_append.2 (.inr h3))))))
theorem qZ.xE {w w':World} {B:Nat} {b:LBk} {us':List qN} {p':Option Addr} {c':Nat} {S new:List Nat} (h:qZ w B b) (ho:Only S w w') (hS:∀ z∈S,z∈blk b.pu∨(z ∉ b.fp∧z ∉ new))
  (hsu:zN w' B 54 5 (.slice p' us'.length c') us'.length (us'.flatMap zG)) (hup:∀ y∈us',y∈b.us∨(zBY w B y∧∀ z∈blk y.q,z∈new)) (hp:∀ z∈blk p',z∈blk b.pu∨w.heap.size≤z)
  (hperm:∃ sub,(us'.flatMap (fun x=>blk x.q)).Perm (new ++ sub)∧sub.Sublist (b.us.flatMap (fun x=>blk x.q))) (hn:new.Nodup) (hnd:∀ z∈new,z ∉ b.fp∧z < w.heap.size) :
  qZ w' B { b with us:=us',pu:=p',cu:=c' }∧∀ z∈({ b with us:=us',pu:=p',cu:=c' }:LBk).fp,z∈b.fp∨z∈new∨w.heap.size≤z:=by
 obtain ⟨sub,h1,h2⟩:=hperm;have hnd0:=h.nd;have hlo:=h.lo;unfold LBk.fp at hnd0
 have hap:∀ z,(z∈blk b.po∨z∈b.os.flatMap (fun x=>blk x.q)∨z∈b.us.flatMap (fun x=>blk x.q))→z ∉ S:=fun z hz hm0=>by
  rcases hS z hm0 with hm | hm
  rotate_left
  ·exact hm.1 (by
    unfold LBk.fp;simp only [List.mem_append]
    rcases hz with hz | hz | hz
    ·exact .inl hz
    ·exact .inr (.inr (.inl hz))
    ·exact .inr (.inr (.inr hz)))
  obtain ⟨-,h5,h6⟩:=List.nodup_append.1 hnd0;obtain ⟨-,h7,h8⟩:=List.nodup_append.1 h5
  rcases hz with hz | hz | hz
  ·exact h6 z hz z (by simp [hm]) rfl
  ·exact h8 z hm z (by simp only [List.mem_append];exact .inl hz) rfl
  ·exact h8 z hm z (by simp only [List.mem_append];exact .inr hz) rfl
 have hU:(blk b.po ++ (b.os.flatMap (fun x=>blk x.q) ++ sub)).Sublist (blk b.po ++ (blk b.pu ++ (b.os.flatMap (fun x=>blk x.q) ++ b.us.flatMap (fun x=>blk x.q)))):=(List.Sublist.refl _).append (((List.Sublist.refl _).append h2).trans (List.sublist_append_right ..));have hU2:(blk b.po ++ (blk b.pu ++ (b.os.flatMap (fun x=>blk x.q) ++ sub))).Sublist (blk b.po ++ (blk b.pu ++ (b.os.flatMap (fun x=>blk x.q) ++ b.us.flatMap (fun x=>blk x.q)))):=(List.Sublist.refl _).append ((List.Sublist.refl _).append ((List.Sublist.refl _).append h2))
 have hin:∀ z∈us'.flatMap (fun x=>blk x.q),z∈new∨z∈b.us.flatMap (fun x=>blk x.q):=fun z hz=>by
  rcases List.mem_append.1 ((h1.mem_iff).1 hz) with h3 | h3
  ·exact .inl h3
  ·exact .inr (h2.subset h3)
 refine ⟨⟨h.so.jL ho (fun z hz=>hap z (.inl hz)),hsu,fun y hy=>zN.jL (h.ob y hy) ho (fun z hz=>hap z (.inr (.inl (List.mem_flatMap.2 ⟨y,hy,hz⟩)))),fun y hy=>?_,?_⟩,fun z hz=>?_⟩
 ·rcases hup y hy with h3 | ⟨h3,h4⟩
  ·exact zN.jL (h.up y h3) ho (fun z hz=>hap z (.inr (.inr (List.mem_flatMap.2 ⟨y,h3,hz⟩))))
  ·exact zN.jL h3 ho (fun z hz hm=>by
    rcases hS z hm with h5 | h5
    ·exact (hnd z (h4 z hz)).1 (by unfold LBk.fp;simp [h5])
    ·exact h5.2 (h4 z hz))
 ·show (blk b.po ++ (blk p' ++ (b.os.flatMap (fun x=>blk x.q) ++ us'.flatMap (fun x=>blk x.q)))).Nodup
  rcases zBU hp with h3 | ⟨g,h3,hg⟩
  ·refine zDJ (new:=new) (sub:=blk b.po ++ (blk p' ++ (b.os.flatMap (fun x=>blk x.q) ++ sub))) ?_ ?_ hnd0 hn (fun z hz=>by have:=(hnd z hz).1;unfold LBk.fp at this;exact this)
   ·rw [List.perm_iff_count] at h1 ⊢;intro a;have:=h1 a;simp only [List.count_append] at this ⊢;omega
   ·rcases h3 with h3 | h3
    ·rw [h3,List.nil_append];exact hU
    ·rw [h3];exact hU2
  ·refine zDJ (new:=g :: new) (sub:=blk b.po ++ (b.os.flatMap (fun x=>blk x.q) ++ sub)) ?_ hU hnd0 (List.nodup_cons.2 ⟨fun hm=>by have:=(hnd g hm).2;omega,hn⟩) (fun z hz=>?_)
   ·rw [h3];rw [List.perm_iff_count] at h1 ⊢;intro a;have:=h1 a;simp only [List.count_append,List.count_cons,List.count_nil] at this ⊢;omega
   ·rcases List.mem_cons.1 hz with rfl | hz
    ·intro hm;have:=(hlo z (by unfold LBk.fp;exact hm)).2;omega
    ·have:=(hnd z hz).1;unfold LBk.fp at this;exact this
 ·have hz':z∈blk b.po ++ (blk p' ++ (b.os.flatMap (fun x=>blk x.q) ++ us'.flatMap (fun x=>blk x.q))):=hz;unfold LBk.fp
  rcases List.mem_append.1 hz' with h3 | h3
  ·exact .inl (by simp [h3])
  ·rcases List.mem_append.1 h3 with h3 | h3
   ·rcases hp z h3 with h4 | h4
    ·exact .inl (by simp [h4])
    ·exact .inr (.inr h4)
   ·rcases List.mem_append.1 h3 with h3 | h3
    ·exact .inl (List.mem_append.2 (.inr (List.mem_append.2 (.inr (List.mem_append.2 (.inl h3))))))
    ·rcases hin z h3 with h4 | h4
     ·exact .inr (.inl h4)
     ·exact .inl (List.mem_append.2 (.inr (List.mem_append.2 (.inr (List.mem_append.2 (.inr h4))))))
theorem qA.qJ {w w':World} {B:Nat} {L:qK} {bs':List LBk} {p':Option Addr} {c':Nat} (h:qA w B L) (ho:Only (blk L.pb) w w')
  (hsb:zN w' B 60 5 (.slice p' bs'.length c') bs'.length (bs'.flatMap zD)) (hbk:∀ y∈bs',y∈L.bs∨(qZ w B y∧y.fp=[])) (hp:∀ z∈blk p',z∈blk L.pb∨w.heap.size≤z)
  (hperm:∃ sub,(bs'.flatMap LBk.fp).Perm sub∧sub.Sublist (L.bs.flatMap LBk.fp)):qA w' B { L with bs:=bs',pb:=p',cb:=c' }:=by
 obtain ⟨sub,h1,h2⟩:=hperm;have hnd0:=h.nd;have hlo:=h.lo;unfold qK.fp at hnd0;obtain ⟨-,h5,h6⟩:=List.nodup_append.1 hnd0;have hap:∀ z,(z∈blk L.pf∨z∈L.bs.flatMap LBk.fp)→z ∉ blk L.pb:=fun z hz hm=>h6 z hm z (List.mem_append.2 hz) rfl;have hU:(blk L.pf ++ sub).Sublist (blk L.pf ++ L.bs.flatMap LBk.fp):=(List.Sublist.refl _).append h2;refine ⟨hsb,h.sf.jL ho (fun z hz=>hap z (.inl hz)),fun y hy=>?_,?_⟩
 ·rcases hbk y hy with h3 | ⟨h3,h4⟩
  ·exact (h.bk y h3).only ho (fun z hz=>hap z (.inr (List.mem_flatMap.2 ⟨y,h3,hz⟩)))
  ·exact h3.only ho (fun z hz=>by rw [h4] at hz;cases hz)
 ·show (blk p' ++ (blk L.pf ++ bs'.flatMap LBk.fp)).Nodup
  rcases zBU hp with h3 | ⟨g,h3,hg⟩
  ·refine zDJ (new:=[]) (sub:=blk p' ++ (blk L.pf ++ sub)) ?_ ?_ hnd0 List.nodup_nil (fun z hz=>by cases hz)
   ·rw [List.perm_iff_count] at h1 ⊢;intro a;have:=h1 a;simp only [List.count_append,List.nil_append] at this ⊢;omega
   ·rcases h3 with h3 | h3
    ·rw [h3,List.nil_append];exact hU.trans (List.sublist_append_right ..)
    ·rw [h3];exact (List.Sublist.refl _).append hU
  ·refine zDJ (new:=[g]) (sub:=blk L.pf ++ sub) ?_ (hU.trans (List.sublist_append_right ..)) hnd0 (by simp) (fun z hz=>?_)
   ·rw [h3];rw [List.perm_iff_count] at h1 ⊢;intro a;have:=h1 a;simp only [List.count_append] at this ⊢;omega
   ·rcases List.mem_cons.1 hz with rfl | hz
    ·intro hm;have:=(hlo z (by unfold qK.fp;exact hm)).2;omega
    ·cases hz
theorem qA.zAW {w w':World} {B:Nat} {L:qK} {fs':List Cid} {p':Option Addr} {c':Nat} (h:qA w B L) (ho:Only (blk L.pf) w w')
  (hsf:zN w' B 31 3 (.slice p' fs'.length c') fs'.length (fs'.flatMap zI)) (hp:∀ z∈blk p',z∈blk L.pf∨w.heap.size≤z):qA w' B { L with fs:=fs',pf:=p',cf:=c' }:=by
 have hnd0:=h.nd;have hlo:=h.lo;unfold qK.fp at hnd0;obtain ⟨-,h5,h6⟩:=List.nodup_append.1 hnd0;obtain ⟨-,h7,h8⟩:=List.nodup_append.1 h5
 have hap:∀ z,(z∈blk L.pb∨z∈L.bs.flatMap LBk.fp)→z ∉ blk L.pf:=fun z hz hm=>by
  rcases hz with hz | hz
  ·exact h6 z hz z (List.mem_append.2 (.inl hm)) rfl
  ·exact h8 z hm z hz rfl
 refine ⟨h.sb.jL ho (fun z hz=>hap z (.inl hz)),hsf,fun y hy=>(h.bk y hy).only ho (fun z hz=>hap z (.inr (List.mem_flatMap.2 ⟨y,hy,hz⟩))),?_⟩;show (blk L.pb ++ (blk p' ++ L.bs.flatMap LBk.fp)).Nodup
 rcases zBU hp with h3 | ⟨g,h3,hg⟩
 ·rcases h3 with h3 | h3
  ·rw [h3];exact ((List.Sublist.refl _).append ((List.nil_sublist _).append (List.Sublist.refl _))).nodup hnd0
  ·rw [h3];exact hnd0
 ·refine zDJ (new:=[g]) (sub:=blk L.pb ++ L.bs.flatMap LBk.fp) ?_ ((List.Sublist.refl _).append (List.sublist_append_right ..)) hnd0 (by simp) (fun z hz=>?_)
  ·rw [h3];rw [List.perm_iff_count];intro a;simp only [List.count_append];omega
  ·rcases List.mem_cons.1 hz with rfl | hz
   ·intro hm;have:=(hlo z (by unfold qK.fp;exact hm)).2;omega
   ·cases hz
theorem qA.zJV {w w':World} {B g i:Nat} {L:qK} {b b':LBk} {rest cur':List Value} (h:qA w B L) (hpb:L.pb=some ⟨g,0,none⟩) (hb:L.bs[i]?=some b) (ho:Only (g :: b.fp) w w')
  (hl:(L.bs.flatMap zD ++ rest).length=L.cb * 5) (r:Row w' g 60 cur') (hout:Outside (i * 5) 5 (L.bs.flatMap zD ++ rest) cur') (ha:jF (i * 5) cur' (zD b')) (hb':qZ w' B b') (hfp:∀ z∈b'.fp,z∈b.fp∨w.heap.size≤z) :
  qA w' B { L with bs:=L.bs.set i b' }:=by
 have hnd0:=h.nd;have hlo:=h.lo;have hi:=(List.getElem?_eq_some_iff.1 hb).1;have hv:=h.sb.view;have hbm:=List.mem_of_getElem? hb;have hin:∀ z∈b.fp,z∈L.bs.flatMap LBk.fp:=fun z hz=>List.mem_flatMap.2 ⟨b,hbm,hz⟩;rw [show L.fp=blk L.pb ++ (blk L.pf ++ L.bs.flatMap LBk.fp) from rfl,hpb] at hnd0;have hg:blk (some (⟨g,0,none⟩:Addr))=[g]:=rfl;rw [hg] at hnd0;obtain ⟨-,h5,h6⟩:=List.nodup_append.1 hnd0;obtain ⟨-,h7,h8⟩:=List.nodup_append.1 h5;have hgB:B≤g:=(hlo g (by unfold qK.fp;rw [hpb];simp [blk])).1;have hpl:(L.bs.set i b').length=L.bs.length:=List.length_set
 refine ⟨?_,h.sf.jL ho (fun z hz hm=>?_),fun y hy=>?_,?_⟩
 ·show zN w' B 60 5 (.slice L.pb (L.bs.set i b').length L.cb) (L.bs.set i b').length ((L.bs.set i b').flatMap zD);rw [hpl,hpb];exact zN.zAz (by omega) zQ hgB rfl hi hv.2.2.2.2.1 hv.2.2.2.2.2.1 hl r hout ha
 ·rcases List.mem_cons.1 hm with rfl | hm
  ·exact h6 z (by simp) z (List.mem_append.2 (.inl hz)) rfl
  ·exact h8 z hz z (hin z hm) rfl
 ·have hy':y∈L.bs.set i b':=hy;obtain ⟨j,hj⟩:=List.mem_iff_getElem?.1 hy';rw [List.getElem?_set] at hj
  split at hj
  ·cases hj;exact hb'
  ·rename_i hne
   refine (h.bk y (List.mem_of_getElem? hj)).only ho (fun z hz hm=>?_)
   rcases List.mem_cons.1 hm with rfl | hm
   ·exact h6 z (by simp) z (List.mem_append.2 (.inr (List.mem_flatMap.2 ⟨y,List.mem_of_getElem? hj,hz⟩))) rfl
   ·exact zFq h7 hb hj hne z hm hz
 ·show (blk L.pb ++ (blk L.pf ++ (L.bs.set i b').flatMap LBk.fp)).Nodup;have hnd1:((blk L.pb ++ blk L.pf) ++ L.bs.flatMap LBk.fp).Nodup:=(by rw [List.append_assoc];exact h.nd);have:=zFn (N:=w.heap.size) hb hnd1 (fun z hz=>(hlo z (by unfold qK.fp;rw [List.append_assoc] at hz;exact hz)).2) hb'.nd hfp
  rwa [List.append_assoc] at this
theorem qZ.zJe {w w':World} {B g i:Nat} {b:LBk} {u u':qN} {rest cur':List Value} (h:qZ w B b) (hpu:b.pu=some ⟨g,0,none⟩) (hu:b.us[i]?=some u) (ho:Only (g :: blk u.q) w w')
  (hl:(b.us.flatMap zG ++ rest).length=b.cu * 5) (r:Row w' g 54 cur') (hout:Outside (i * 5) 5 (b.us.flatMap zG ++ rest) cur') (ha:jF (i * 5) cur' (zG u')) (hu':zBY w' B u') (hfp:∀ z∈blk u'.q,z∈blk u.q∨w.heap.size≤z) :
  qZ w' B { b with us:=b.us.set i u' }∧∀ z∈({ b with us:=b.us.set i u' }:LBk).fp,z∈b.fp∨w.heap.size≤z:=by
 have hnd0:=h.nd;have hlo:=h.lo;have hi:=(List.getElem?_eq_some_iff.1 hu).1;have hv:=h.su.view;have hum:=List.mem_of_getElem? hu;have hin:∀ z∈blk u.q,z∈b.us.flatMap (fun x=>blk x.q):=fun z hz=>List.mem_flatMap.2 ⟨u,hum,hz⟩;rw [show b.fp=blk b.po ++ (blk b.pu ++ (b.os.flatMap (fun x=>blk x.q) ++ b.us.flatMap (fun x=>blk x.q))) from rfl,hpu] at hnd0;have hg:blk (some (⟨g,0,none⟩:Addr))=[g]:=rfl;rw [hg] at hnd0;obtain ⟨-,h5,h6⟩:=List.nodup_append.1 hnd0;obtain ⟨-,h7,h8⟩:=List.nodup_append.1 h5;obtain ⟨-,h9,h10⟩:=List.nodup_append.1 h7
 have hgfp:g∈b.fp:=(by unfold LBk.fp;rw [hpu];simp [blk]);have hgB:B≤g:=(hlo g hgfp).1;have hpl:(b.us.set i u').length=b.us.length:=List.length_set;have hmemU:∀ z,z∈b.us.flatMap (fun x=>blk x.q)→z∈b.fp:=fun z hz=>(by unfold LBk.fp;simp only [List.mem_append];exact .inr (.inr (.inr hz)));refine ⟨⟨h.so.jL ho (fun z hz hm=>?_),?_,fun y hy=>zN.jL (h.ob y hy) ho (fun z hz hm=>?_),fun y hy=>?_,?_⟩,fun z hz=>?_⟩
 ·rcases List.mem_cons.1 hm with rfl | hm
  ·exact h6 z hz z (by simp) rfl
  ·exact h6 z hz z (List.mem_append.2 (.inr (List.mem_append.2 (.inr (hin z hm))))) rfl
 ·show zN w' B 54 5 (.slice b.pu (b.us.set i u').length b.cu) (b.us.set i u').length ((b.us.set i u').flatMap zG);rw [hpl,hpu];exact zN.zAz (by omega) zT hgB rfl hi hv.2.2.2.2.1 hv.2.2.2.2.2.1 hl r hout ha
 ·rcases List.mem_cons.1 hm with rfl | hm
  ·exact h8 z (by simp) z (List.mem_append.2 (.inl (List.mem_flatMap.2 ⟨y,hy,hz⟩))) rfl
  ·exact h10 z (List.mem_flatMap.2 ⟨y,hy,hz⟩) z (hin z hm) rfl
 ·have hy':y∈b.us.set i u':=hy;obtain ⟨j,hj⟩:=List.mem_iff_getElem?.1 hy';rw [List.getElem?_set] at hj
  split at hj
  ·cases hj;exact hu'
  ·rename_i hne
   refine zN.jL (h.up y (List.mem_of_getElem? hj)) ho (fun z hz hm=>?_)
   rcases List.mem_cons.1 hm with rfl | hm
   ·exact h8 z (by simp) z (List.mem_append.2 (.inr (List.mem_flatMap.2 ⟨y,List.mem_of_getElem? hj,hz⟩))) rfl
   ·exact zFq (F:=fun x:qN=>blk x.q) h9 hu hj hne z hm hz
 ·show (blk b.po ++ (blk b.pu ++ (b.os.flatMap (fun x=>blk x.q) ++ (b.us.set i u').flatMap (fun x=>blk x.q)))).Nodup;have hnd1:((blk b.po ++ (blk b.pu ++ b.os.flatMap (fun x=>blk x.q))) ++ b.us.flatMap (fun x=>blk x.q)).Nodup:=(by rw [List.append_assoc,List.append_assoc];exact h.nd);have:=zFn (N:=w.heap.size) hu hnd1 (fun z hz=>(hlo z (by unfold LBk.fp;rw [List.append_assoc,List.append_assoc] at hz;exact hz)).2) (yU u'.q) hfp
  rwa [List.append_assoc,List.append_assoc] at this
 ·have hz':z∈blk b.po ++ (blk b.pu ++ (b.os.flatMap (fun x=>blk x.q) ++ (b.us.set i u').flatMap (fun x=>blk x.q))):=hz;unfold LBk.fp;simp only [List.mem_append] at hz' ⊢
  rcases hz' with h1 | h1 | h1 | h1
  ·exact .inl (.inl h1)
  ·exact .inl (.inr (.inl h1))
  ·exact .inl (.inr (.inr (.inl h1)))
  ·obtain ⟨y,hy,hzy⟩:=List.mem_flatMap.1 h1;obtain ⟨j,hj⟩:=List.mem_iff_getElem?.1 hy;rw [List.getElem?_set] at hj
   split at hj
   ·cases hj
    rcases hfp z hzy with h2 | h2
    ·exact .inl (.inr (.inr (.inr (hin z h2))))
    ·exact .inr h2
   ·exact .inl (.inr (.inr (.inr (List.mem_flatMap.2 ⟨y,List.mem_of_getElem? hj,hzy⟩))))
end
section
open Go.RowKit
theorem zCz {α:Type} {dl:α→Bool} {xs:List α} {j:Nat} (h:∀ x∈xs.take j,dl x=false) {x:α} (hx:xs[j]?=some x) (hd:dl x=true):xs.findIdx dl=j:=by
 obtain ⟨hj,hxe⟩:=List.getElem?_eq_some_iff.1 hx;refine (List.findIdx_eq hj).2 ⟨by rw [hxe];exact hd,fun i hi=>?_⟩;exact h _ (List.mem_take_iff_getElem.2 ⟨i,by omega,rfl⟩)
theorem zCV {α:Type} {dl:α→Bool} {xs:List α} (h:∀ x∈xs,dl x=false):xs.findIdx dl=xs.length:=List.findIdx_eq_length.2 h
set_option maxHeartbeats 8000000 in
theorem zHZ (p:Option Addr) (n c:Nat) (xs:List qG) (dl:qG→Bool) (pb pn:Value) (w0:World) (hn:xs.length=n) (hnb:n≤1000000) (hx:Rd w0 p (xs.flatMap zH)) (hdel:∀ (x:qG) (W:World),Only (blk p) w0 W→Calls Tryz.prog 91 #[loV x,pb,pn] W fun e w'=>e=.returned (.bool (dl x))∧Only [] W w') :
  Calls Tryz.prog 128 #[.slice p n c,.func (.func 91) #[] #[pb,pn]] w0 fun e' w'=>e'=.returned (.int .i64 (if xs.findIdx dl < n then ((xs.findIdx dl:Nat):Int) else -1))∧Only [] w0 w':=by
 generalize hV:(if xs.findIdx dl < n then ((xs.findIdx dl:Nat):Int) else -1)=V;have HV:=Lib.hid hV;have Hn:=Lib.hid hn;have Hx:=Lib.hid hx;have Hd:=Lib.hid hdel;clear hV hn hx hdel
 go_enter Tryz.func128,Tryz.ntmps128
 go_wp2_with fail
 go_loopw [8] (fun a wl=>∃ i:Nat,a=.int .i64 (i:Int)∧i≤n∧Hid (∀ x∈xs.take i,dl x=false)∧Hid (Only [] w0 wl)) (fun a _=>n - (intOf a).toNat)
 case atStart=>exact ⟨0,rfl,Nat.zero_le _,Lib.hid (fun x hx=>by simp at hx),Lib.hid (Only.refl _ _)⟩
 case round =>
  obtain ⟨i,rfl,hi,HI,HO⟩:=hrel
  by_cases hlt:i < n
  ·skip
   obtain ⟨x,hx⟩:∃ x,xs[i]?=some x:=⟨_,List.getElem?_eq_getElem (by rw [Hn.out];assumption)⟩;have hrd:=Hx.out.zB HO.out;have hne:xs.flatMap zH≠[]:=fun e'=>(by have:=flat_get zH 5 zO xs _ x 0 hx (by omega);rw [e'] at this;cases this);obtain ⟨bq,off,rfl,-⟩:=hrd.lt hne;have d0:=zP zO hrd hx (r:=0) rfl;have d1:=zP zO hrd hx (r:=1) rfl;have d2:=zP zO hrd hx (r:=2) rfl;have d3:=zP zO hrd hx (r:=3) rfl;have d4:=zP zO hrd hx (r:=4) rfl;rw [Addr.add_lit,← Nat.add_assoc] at d0 d1 d2 d3 d4
   rw [Nat.add_zero] at d0;clear hrd hne;have hby:=Hd.out x wr (HO.out.mono (by simp));unfold loV at hby;have Hxx:=Lib.hid hx;obtain ⟨d,hd⟩:∃ d,dl x=d:=⟨_,rfl⟩;rw [hd] at hby;have Hdd:=Lib.hid hd;clear hd hx
   cases d with
   | true =>
    have hVi:V=(i:Int):=(by rw [← HV.out,zCz HI.out Hxx.out Hdd.out,if_pos hlt]);have HVi:=Lib.hid hVi;clear hVi;go_wp2_with fail;refine hby.mono ?_;clear hby d0 d1 d2 d3 d4;rintro e w' ⟨rfl,o'⟩;have HO2:=Lib.hid (HO.out.zC o');clear o';go_wp2_with fail
    go_ret
    exact ⟨by rw [HVi.out];rfl,HO2.out⟩
   | false =>
    have HI2:Hid (∀ x∈xs.take (i+1),dl x=false):=Lib.hid (fun y hy=>by
     rw [List.take_add_one,Hxx.out] at hy
     rcases List.mem_append.1 hy with h | h
     ·exact HI.out y h
     ·simp at h;rw [h];exact Hdd.out)
    go_wp2_with fail;refine hby.mono ?_;clear hby d0 d1 d2 d3 d4;rintro e w' ⟨rfl,o'⟩;have HO2:=Lib.hid (HO.out.zC o');clear o';go_wp2_with fail;refine ⟨⟨i+1,by go_num,by omega,HI2,HO2⟩,?_⟩
    simp [intOf];omega
  ·obtain rfl:i=n:=(by omega);have HVi:Hid (V = -1):=Lib.hid (by rw [← HV.out,zCV (fun x hx=>HI.out x (by rw [List.take_of_length_le (by rw [Hn.out];exact Nat.le_refl _)];exact hx)),Hn.out,if_neg (by omega)]);go_wp2_with fail
   go_ret
   exact ⟨by rw [HVi.out];rfl,HO.out⟩
structure DfI (w0:World) (xs:List qG) (dl:qG→Bool) (base g n c:Nat) (ys:List qG) (i j:Nat) (wl:World):Prop where
 len:ys.length=n
 pre:ys.take i=(xs.take j).filter (fun x=>!dl x)
 post:ys.drop j=xs.drop j
 lt:i < j
 le:j≤n
 own:zN wl base 48 5 (.slice (some ⟨g,0,none⟩) n c) n (ys.flatMap zH)
 only:Only [g] w0 wl
theorem DfI.skip {w0 wl wl':World} {xs ys:List qG} {dl:qG→Bool} {base g n c i j:Nat} {x:qG} (h:DfI w0 xs dl base g n c ys i j wl) (hx:xs[j]?=some x) (hd:dl x=true) (hj:j < n) (ho:Only [] wl wl'):DfI w0 xs dl base g n c ys i (j+1) wl' :=
 ⟨h.len,by rw [List.take_add_one,hx,List.filter_append,← h.pre];simp [hd],by rw [← List.drop_drop,h.post,List.drop_drop],by have:=h.lt;omega,by omega,h.own.zB ho,h.only.trans (ho.mono (by simp)) (fun _ h _=>h)⟩
theorem DfI.keep {w0 wl wl':World} {xs ys:List qG} {dl:qG→Bool} {base g n c i j:Nat} {x:qG} (h:DfI w0 xs dl base g n c ys i j wl) (hx:xs[j]?=some x) (hd:dl x=false) (hj:j < n) (ho:Only [g] wl wl')
  (hown:zN wl' base 48 5 (.slice (some ⟨g,0,none⟩) n c) n ((ys.set i x).flatMap zH)):DfI w0 xs dl base g n c (ys.set i x) (i+1) (j+1) wl' :=
 ⟨by rw [List.length_set];exact h.len,by
  have hi:i < ys.length:=by rw [h.len];have:=h.lt;have:=h.le;omega
  rw [List.take_add_one,List.getElem?_set_self hi,List.take_set_of_le (Nat.le_refl _),h.pre,List.take_add_one,hx,List.filter_append];simp [hd],by
  rw [List.drop_set_of_lt (by have:=h.lt;omega),← List.drop_drop,h.post,List.drop_drop],by have:=h.lt;omega,by omega,hown,h.only.trans ho (fun _ h _=>h)⟩
set_option maxHeartbeats 8000000 in
theorem zEr (p:Option Addr) (n c base:Nat) (xs:List qG) (dl:qG→Bool) (pb pn:Value) (w0:World) (hn:xs.length=n) (hnb:n≤1000000) (hown:zN w0 base 48 5 (.slice p n c) n (xs.flatMap zH)) (hdel:∀ (x:qG) (W:World),Only (blk p) w0 W→Calls Tryz.prog 91 #[loV x,pb,pn] W fun e w'=>e=.returned (.bool (dl x))∧Only [] W w') :
  Calls Tryz.prog 90 #[.slice p n c,.func (.func 91) #[] #[pb,pn]] w0 fun e' w'=>e'=.returned (.slice p (xs.filter (fun x=>!dl x)).length c)∧zN w' base 48 5 (.slice p (xs.filter (fun x=>!dl x)).length c) (xs.filter (fun x=>!dl x)).length ((xs.filter (fun x=>!dl x)).flatMap zH)∧Only (blk p) w0 w':=by
 have hidx:=zHZ p n c xs dl pb pn w0 hn hnb hown.view.2.2.1 hdel;generalize hYS:xs.filter (fun x=>!dl x)=YS
 by_cases hI:xs.findIdx dl < n
 ·rw [if_pos hI] at hidx;obtain ⟨i0,hi0⟩:∃ i0,xs.findIdx dl=i0:=⟨_,rfl⟩;rw [hi0] at hidx hI;obtain ⟨g,-,rfl,-,-⟩:=hown.rowOf (by omega);obtain ⟨x0,hx0⟩:∃ x,xs[i0]?=some x:=⟨_,List.getElem?_eq_getElem (by omega)⟩
  have hx0d:dl x0=true:=by
   obtain ⟨hj,hxe⟩:=List.getElem?_eq_some_iff.1 hx0;have:=((List.findIdx_eq hj).1 hi0).1
   rwa [hxe] at this
  have hpre:xs.take i0=(xs.take i0).filter (fun x=>!dl x):=(List.filter_eq_self.2 fun x hx=>by
   obtain ⟨j,hj,rfl⟩:=List.mem_take_iff_getElem.1 hx;have:=List.not_of_lt_findIdx (show j < xs.findIdx dl by rw [hi0];omega)
   simp [this]).symm
  have HS:∀ w1,Only [] w0 w1→Hid (DfI w0 xs dl base g n c xs i0 (i0+1) w1):=fun w1 o1=>Lib.hid ⟨hn,by rw [List.take_add_one,hx0,List.filter_append,← hpre];simp [hx0d],rfl,by omega,by omega,hown.zB o1,o1.mono (by simp)⟩;have Hi:=Lib.hid hidx;have Hd:=Lib.hid hdel;have HY:=Lib.hid hYS;have Hn:=Lib.hid hn;have hi0n:¬ ((i0:Int) = -1):=(by omega);have hi0q:((i0:Int) == -1)=false:=beq_eq_false_iff_ne.2 hi0n;clear hidx hdel hYS hn hown hpre hx0d hx0 hi0
  go_enter Tryz.func90,Tryz.ntmps90
  go_wp2_with fail;refine Hi.out.mono ?_;rintro e1 w1 ⟨rfl,o1⟩;have HS1:=HS w1 o1;clear o1 HS Hi;go_wp2_with fail
  go_loopw [5,6] (fun a b wl=>∃ (i j:Nat) (ys:List qG),a=.int .i64 (i:Int)∧b=.int .i64 (j:Int)∧i < j∧j≤n∧Hid (DfI w0 xs dl base g n c ys i j wl)) (fun _ b _=>n - (intOf b).toNat)
  case atStart=>exact ⟨i0,i0+1,xs,rfl,by go_num,by omega,by omega,HS1⟩
  case round =>
   clear HS1;obtain ⟨i,j,ys,rfl,rfl,hij,hjn,HI⟩:=hrel
   by_cases hlt:j < n
   ·obtain ⟨rest,hrow,hlen,hnc,hcm,hgb,-⟩:=HI.out.own.row;obtain ⟨x,hx⟩:∃ x,xs[j]?=some x:=⟨_,List.getElem?_eq_getElem (by rw [Hn.out];exact hlt)⟩
    have hyx:ys[j]?=some x:=by
     have h1:(ys.drop j)[0]?=(xs.drop j)[0]?:=(by rw [HI.out.post]);rw [List.getElem?_drop,List.getElem?_drop,Nat.add_zero] at h1;rw [h1,hx]
    obtain ⟨y,hy⟩:∃ y,ys[i]?=some y:=⟨_,List.getElem?_eq_getElem (by rw [HI.out.len];omega)⟩;have hraj:=jZ (rest:=rest) zO hyx;have d0:=hraj.cell hrow (r:=0) rfl;have d1:=hraj.cell hrow (r:=1) rfl;have d2:=hraj.cell hrow (r:=2) rfl;have d3:=hraj.cell hrow (r:=3) rfl;have d4:=hraj.cell hrow (r:=4) rfl;rw [Nat.add_zero] at d0;obtain ⟨wt,hwt⟩:∃ wt,wt=wr.alloc (.cells #[.string (str x.o.key),.int .i64 x.o.size,.string (str x.o.etag),.int .i64 x.o.time,.slice x.q x.o.pcs.length x.c] 48):=⟨_,rfl⟩;have ot:Only [] wr wt:=by rw [hwt];exact Only.alloc _ _
    have rt:Row wt wr.heap.size 48 [.string (str x.o.key),.int .i64 x.o.size,.string (str x.o.etag),.int .i64 x.o.time,.slice x.q x.o.pcs.length x.c]:=(by rw [hwt];exact Row.zV _ _ _ _ rfl);have hby:=Hd.out x wt (HI.out.only.trans (ot.mono (by simp)) (fun _ h _=>h));unfold loV at hby;obtain ⟨d,hd⟩:∃ d,dl x=d:=⟨_,rfl⟩;rw [hd] at hby;have Hx:=Lib.hid hx;have Hdd:=Lib.hid hd;have a0:=rt.cell (i:=0) rfl;have a1:=rt.cell (i:=1) rfl;have a2:=rt.cell (i:=2) rfl;have a3:=rt.cell (i:=3) rfl;have a4:=rt.cell (i:=4) rfl;have HF:Hid (jF (i * 5) (ys.flatMap zH ++ rest) (zH y)∧Row wr g 48 (ys.flatMap zH ++ rest)∧(ys.flatMap zH ++ rest).length=c * 5∧n≤c∧c≤9223372036854775807∧base≤g∧Only [] wr wt∧Row wt wr.heap.size 48 [.string (str x.o.key),.int .i64 x.o.size,.string (str x.o.etag),.int .i64 x.o.time,.slice x.q x.o.pcs.length x.c]∧g < wr.heap.size):=Lib.hid ⟨jZ zO hy,hrow,hlen,hnc,hcm,hgb,ot,rt,hrow.lt⟩
    have Hy:=Lib.hid hy;have Hwt:=Lib.hid hwt;rw [hwt] at a0 a1 a2 a3 a4;have hji:(j:Int) < (n:Int):=(by omega);have hii:(i:Int) < (n:Int):=(by omega);clear hrow hlen hnc hcm hgb hx hyx hy hraj ot rt hwt hd;go_wp2_with fail;rw [← Hwt.out];refine hby.mono ?_;clear hby d0 d1 d2 d3 d4 a0 a1 a2 a3 a4;rintro e w' ⟨rfl,o'⟩
    cases d with
    | true =>
     have HI2:=Lib.hid (HI.out.skip Hx.out Hdd.out hlt (HF.out.2.2.2.2.2.2.1.zC o'));clear o' HF HI;go_wp2_with fail;refine ⟨⟨i,j+1,ys,rfl,by go_num,by omega,by omega,HI2⟩,?_⟩
     simp [intOf];omega
    | false =>
     obtain ⟨hra,hrow,hlen,hnc,hcm,hgb,ot,rt,hgl⟩:=HF.out;have r1:=hrow.zB (ot.zC o');have rx:=rt.zB o';have x0:=hra.cell r1 (r:=0) rfl;have x1:=hra.cell r1 (r:=1) rfl;have x2:=hra.cell r1 (r:=2) rfl;have x3:=hra.cell r1 (r:=3) rfl;have x4:=hra.cell r1 (r:=4) rfl;rw [Nat.add_zero] at x0;have y0:=r1.free (i * 5);have y1:=r1.free (i * 5+1);have y2:=r1.free (i * 5+2);have y3:=r1.free (i * 5+3);have y4:=r1.free (i * 5+4);have b0:=rx.cell (i:=0) rfl;have b1:=rx.cell (i:=1) rfl;have b2:=rx.cell (i:=2) rfl;have b3:=rx.cell (i:=3) rfl
     have b4:=rx.cell (i:=4) rfl;obtain ⟨wz,hwz⟩:∃ wz,wz=(((((w'.setCell ⟨g,i * 5,none⟩ (.string (str x.o.key))).setCell ⟨g,i * 5+1,none⟩ (.int .i64 x.o.size)).setCell ⟨g,i * 5+2,none⟩ (.string (str x.o.etag))).setCell ⟨g,i * 5+3,none⟩ (.int .i64 x.o.time)).setCell ⟨g,i * 5+4,none⟩ (.slice x.q x.o.pcs.length x.c)):=⟨_,rfl⟩;have ozz:Only [g] w' wz:=by rw [hwz];exact (((((Only.setCell _ ⟨g,i * 5,none⟩ _).trans (Only.setCell _ ⟨g,i * 5+1,none⟩ _) (fun _ h _=>h)).trans (Only.setCell _ ⟨g,i * 5+2,none⟩ _) (fun _ h _=>h)).trans (Only.setCell _ ⟨g,i * 5+3,none⟩ _) (fun _ h _=>h)).trans (Only.setCell _ ⟨g,i * 5+4,none⟩ _) (fun _ h _=>h))
     have hra2:=(((((hra.set (i:=0) (.string (str x.o.key)) (by simp only [List.length_set,zO];omega)).set (i:=1) (.int .i64 x.o.size) (by simp only [List.length_set,zO];omega)).set (i:=2) (.string (str x.o.etag)) (by simp only [List.length_set,zO];omega)).set (i:=3) (.int .i64 x.o.time) (by simp only [List.length_set,zO];omega)).set (i:=4) (.slice x.q x.o.pcs.length x.c) (by simp only [List.length_set,zO];omega));have hrz:=(((((r1.setCell (i * 5) (.string (str x.o.key))).setCell (i * 5+1) (.int .i64 x.o.size)).setCell (i * 5+2) (.string (str x.o.etag))).setCell (i * 5+3) (.int .i64 x.o.time)).setCell (i * 5+4) (.slice x.q x.o.pcs.length x.c))
     rw [← hwz] at hrz;have hE:=zN.zAz (y:=x) (by omega) zO hgb HI.out.len (by omega) hnc hcm hlen hrz (((((Outside.set (i * 5) 5 _ (i:=i * 5) (.string (str x.o.key)) (by omega) (by omega)).trans (Outside.set (i * 5) 5 _ (i:=i * 5+1) (.int .i64 x.o.size) (by omega) (by omega))).trans (Outside.set (i * 5) 5 _ (i:=i * 5+2) (.string (str x.o.etag)) (by omega) (by omega))).trans (Outside.set (i * 5) 5 _ (i:=i * 5+3) (.int .i64 x.o.time) (by omega) (by omega))).trans (Outside.set (i * 5) 5 _ (i:=i * 5+4) (.slice x.q x.o.pcs.length x.c) (by omega) (by omega))) hra2;have HI2:=Lib.hid (HI.out.keep Hx.out Hdd.out hlt (((ot.zC o').mono (by simp)).trans ozz (fun _ h _=>h)) hE)
     have Hz:=Lib.hid hwz;clear hra hrow hlen hnc hcm hgb ot rt hgl r1 rx hwz ozz hra2 hrz hE o' HF HI;go_wp2_with fail;rw [← Hz.out];refine ⟨⟨i+1,j+1,ys.set i x,by go_num,by go_num,by omega,by omega,HI2⟩,?_⟩
     simp [intOf];omega
   ·obtain rfl:j=n:=(by omega);obtain ⟨rest,hrow,hlen,hnc,hcm,hgb,hA⟩:=HI.out.own.row;have hpre:=HI.out.pre;rw [show xs.take j=xs from List.take_of_length_le (by rw [Hn.out];exact Nat.le_refl _),HY.out] at hpre;have hYl:YS.length=i:=(by rw [← hpre,List.length_take,HI.out.len];omega);obtain ⟨ii,hii,hz0,hs1,hs2⟩:=info_partsK Tryz.infoLO;have hmul:i * 5+(j - i) * 5=j * 5:=(by rw [← Nat.add_mul];congr 1;omega);have hcj:=Nat.mul_le_mul_right 5 hnc;have hcl:=fun (ty:TypeId) (c2:Nat)=>zER (P:=Tryz.prog) (ty:=ty) (o:=i * 5) (n:=j - i) (c:=c2) (z:=(.agg #[.string ⟨#[]⟩,.int .i64 0,.string ⟨#[]⟩,.int .i64 0,.slice none 0 0]:Value)) wr Tryz.underlying57 (fun w=>by unfold zeroValue typeInfo;simp [hii,hz0]) (by intro v hv;simp [Value.cells] at hv;rcases hv with rfl | rfl | rfl | rfl | rfl <;> rfl) hrow (by omega) (by rw [show (.agg #[.string ⟨#[]⟩,.int .i64 0,.string ⟨#[]⟩,.int .i64 0,.slice none 0 0]:Value).cells.size=5 from rfl,hlen];omega)
    rw [show (.agg #[.string ⟨#[]⟩,.int .i64 0,.string ⟨#[]⟩,.int .i64 0,.slice none 0 0]:Value).cells.size=5 from rfl] at hcl;obtain ⟨ZN,hZN⟩:∃ ZN,ZN=(Builtin.zeroCells (.agg #[.string ⟨#[]⟩,.int .i64 0,.string ⟨#[]⟩,.int .i64 0,.slice none 0 0]:Value).cells (j - i)).toList:=⟨_,rfl⟩;have hZl:ZN.length=(j - i) * 5:=(by rw [hZN];simp [Builtin.zeroCells,Value.cells]);rw [← hZN] at hcl;obtain ⟨L,hL⟩:∃ L,L=ys.flatMap zH ++ rest:=⟨_,rfl⟩;rw [← hL] at hcl hrow hlen;obtain ⟨w4,hw4⟩:∃ w4,w4=wr.setRow g (L.take (i * 5) ++ ZN ++ L.drop (i * 5+(j - i) * 5)).toArray:=⟨_,rfl⟩
    have o4:Only [g] wr w4:=(by rw [hw4];exact Only.setRow _ _ _);have r4:=hrow.setRow (L.take (i * 5) ++ ZN ++ L.drop (i * 5+(j - i) * 5));rw [← hw4] at r4 hcl;have htk:(L.take (i * 5)).length=i * 5:=by rw [List.length_take,hlen];omega
    have HF:Hid (zN w4 base 48 5 (.slice (some ⟨g,0,none⟩) i c) i (YS.flatMap zH)∧Only (blk (some (⟨g,0,none⟩:Addr))) w0 w4):=Lib.hid ⟨zN.ofRow r4 hgb (by omega) hcm (by rw [List.length_append,List.length_append,htk,hZl,List.length_drop,hlen];omega) (by
     rw [List.append_assoc,List.take_left' htk,hL,List.take_append_of_le_length (by rw [hA];omega),yI zH 5 zO,hpre]),HI.out.only.trans o4 (fun _ h _=>h)⟩
    have Hcl:=Lib.hid hcl;have HYl:=Lib.hid hYl;have hij2:(i:Int)≤(j:Int):=(by omega);have hic:(i:Int)≤(c:Int):=(by omega);have hci:¬ c=i:=(by omega);clear hrow hlen hnc hcm hgb hA hpre hYl hii hz0 hs1 hs2 hmul hcj hcl hZN hZl hL o4 r4 htk hw4 HI
    go_upto_region 12 with (fail)
    rw [Hcl.out];go_wp2_with fail
    go_ret
    rw [HYl.out];exact ⟨rfl,HF.out⟩
 ·have hall:∀ x∈xs,dl x=false:=fun x hx=>by
   have h1:xs.findIdx dl=xs.length:=(by have:=List.findIdx_le_length (p:=dl) (xs:=xs);omega);exact List.findIdx_eq_length.1 h1 x hx
  have hfl:YS=xs:=(by rw [← hYS];exact List.filter_eq_self.2 fun x hx=>by simp [hall x hx]);have hYl:YS.length=n:=(by rw [hfl,hn]);rw [if_neg hI] at hidx;rw [hYl];have HE:∀ w1,Only [] w0 w1→Hid (zN w1 base 48 5 (.slice p n c) n (YS.flatMap zH)∧Only (blk p) w0 w1):=fun w1 o1=>Lib.hid ⟨by rw [hfl];exact hown.zB o1,o1.mono (by simp)⟩;clear hdel hown hall hfl hYl hYS hI hn
  go_enter Tryz.func90,Tryz.ntmps90
  go_wp2_with fail;refine hidx.mono ?_;rintro e1 w1 ⟨rfl,o1⟩;have HE1:=HE w1 o1;clear HE o1 hidx;go_wp2_with fail
  go_ret
  exact ⟨rfl,HE1.out⟩
end
section
open Go.RowKit
set_option maxHeartbeats 8000000 in
theorem zHX (p:Option Addr) (d c:Nat) (xs:List qG) (i base:Nat) (w:World) (hown:zN w base 48 5 (.slice p (d+1) c) (d+1) (xs.flatMap zH)) (hl:xs.length=d+1) (hin:i≤d) (hnb:d≤1000000) :
  Calls Tryz.prog 99 #[.slice p (d+1) c,.int .i64 (i:Int),.int .i64 ((i:Int)+1)] w fun e' w'=>e'=.returned (.slice p d c)∧zN w' base 48 5 (.slice p d c) d ((xs.eraseIdx i).flatMap zH)∧Only (blk p) w w':=by
 obtain ⟨g,-,rfl,-,-⟩:=hown.rowOf (by omega);obtain ⟨rest,hrow,hlen,hnc,hcm,hgb,-⟩:=hown.row;obtain ⟨L,hL⟩:∃ L,L=xs.flatMap zH ++ rest:=⟨_,rfl⟩;obtain ⟨B,hB⟩:∃ B,B=(xs.drop (i+1)).flatMap zH:=⟨_,rfl⟩;rw [← hL] at hrow hlen;obtain ⟨ii,hii,hz0,hs1,hs2⟩:=info_partsK Tryz.infoLO;obtain ⟨Z,hZ⟩:∃ Z,Z=(Builtin.zeroCells (.agg #[.string ⟨#[]⟩,.int .i64 0,.string ⟨#[]⟩,.int .i64 0,.slice none 0 0]:Value).cells 1).toList:=⟨_,rfl⟩;have hZl:Z.length=5:=(by rw [hZ];simp [Builtin.zeroCells,Value.cells]);have hdr:=zFu (m:=d - i) (c:=c) (Z:=Z) zO (by rw [hl];omega) hL hB (by omega) hlen hZl
 rw [show i+(d - i)=d by omega] at hdr;obtain ⟨lB,hfit,hfit2,hl2,ht2,hsrc⟩:=hdr;have h1B:∀ v∈B,v.oneCell'=true:=fun v hv=>by rw [hB] at hv;exact vD zH xY hv
 obtain ⟨A,hA,hsrcA⟩:∃ A:Addr,(if c=i+1 then some (⟨g,0,none⟩:Addr) else some ⟨g,(i+1) * 5,none⟩)=some A∧∀ W:World,Row W g 48 L→∀ j v,B[j]?=some v→W.cell? (A.add j)=some v:=by
  by_cases hc:c=i+1
  ·refine ⟨_,if_pos hc,fun W r j v hj=>?_⟩;have:=(List.getElem?_eq_some_iff.1 hj).1;have e0:d - i=0:=(by omega);rw [lB,e0,Nat.zero_mul] at this;omega
  ·refine ⟨_,if_neg hc,fun W r j v hj=>?_⟩;rw [Addr.add_lit];exact r.cell (hsrc j v hj)
 have happ:=fun (W:World) (r:Row W g 48 L) (ty:TypeId) (c2:Nat)=>zDL (P:=Tryz.prog) (ty:=ty) (i:=i) (c:=c) (c2:=c2) W Tryz.underlying57 Tryz.infoLO r lB (hsrcA W r) h1B (by omega) hfit;rw [show i+(d - i)=d by omega] at happ;have hcl:=fun (W:World) (r:Row W g 48 (L.take (i * 5) ++ B ++ L.drop (i * 5+B.length))) (ty:TypeId) (c2:Nat)=>zER (P:=Tryz.prog) (ty:=ty) (o:=d * 5) (n:=1) (c:=c2) (z:=.agg #[.string ⟨#[]⟩,.int .i64 0,.string ⟨#[]⟩,.int .i64 0,.slice none 0 0]) W Tryz.underlying57 (fun w=>by unfold zeroValue typeInfo;simp [hii,hz0]) (by intro v hv;simp [Value.cells] at hv;rcases hv with rfl | rfl | rfl | rfl | rfl <;> rfl) r (by omega) (by rw [show (.agg #[.string ⟨#[]⟩,.int .i64 0,.string ⟨#[]⟩,.int .i64 0,.slice none 0 0]:Value).cells.size=5 from rfl,Nat.one_mul];exact hfit2)
 rw [show (.agg #[.string ⟨#[]⟩,.int .i64 0,.string ⟨#[]⟩,.int .i64 0,.slice none 0 0]:Value).cells.size=5 from rfl,Nat.one_mul,← hZ] at hcl;have Happ:=Lib.hid happ;have Hcl:=Lib.hid hcl;have Hrow:=Lib.hid hrow;have HE:Hid ((((L.take (i * 5) ++ B ++ L.drop (i * 5+B.length))).take (d * 5) ++ Z ++ ((L.take (i * 5) ++ B ++ L.drop (i * 5+B.length))).drop (d * 5+5)).length=c * 5∧(((L.take (i * 5) ++ B ++ L.drop (i * 5+B.length))).take (d * 5) ++ Z ++ ((L.take (i * 5) ++ B ++ L.drop (i * 5+B.length))).drop (d * 5+5)).take (d * 5)=(xs.eraseIdx i).flatMap zH∧base≤g∧d≤c∧c≤9223372036854775807):=Lib.hid ⟨hl2,ht2,hgb,by omega,hcm⟩
 have hq0:((i:Int) == (i:Int)+1)=false:=beq_eq_false_iff_ne.2 (by omega);have hq1:¬ ((i:Int)=(i:Int)+1):=(by omega);have hid:(i:Int)≤(d:Int):=(by omega);have hdc:(d:Int)+1≤(c:Int):=(by omega);have hic:(i:Int)≤(c:Int):=(by omega);have hic1:(i:Int)+1≤(c:Int):=(by omega);have hdc1:(d:Int)≤(c:Int):=(by omega);have hi01:(0:Int)≤(i:Int)+1:=(by omega);have htn:((i:Int)+1).toNat=i+1:=(by omega);have htd:((d:Int)+1).toNat=d+1:=(by omega);have hsub:d+1 - (i+1)=d - i:=(by omega);have hsub1:d+1 - d=1:=by omega
 have hcd:¬ c=d:=(by omega);clear hown hrow hlen hL hB hii hz0 hs1 hs2 hZ hZl lB hfit hfit2 hl2 ht2 hsrc h1B hsrcA happ hcl hgb hcm hl
 go_enter Tryz.func99,Tryz.ntmps99
 go_upto_region 5 with (fail)
 have hRr:∀ x,(Only [g]) x x:=fun x=>Only.refl _ _;have hRt:∀ x b e,(Only [g]) x b→(Only [g]) b e→(Only [g]) x e:=fun _ _ _ h k=>h.trans k (fun _ h _=>h);have hRd:(Only [g]) w w.drew:=(Only.drew _).mono (by simp)
 have hRs:∀ j w,zZ [(6,Only [g])] j w w:=zZ.refl (by
  intro x hx w;simp only [List.mem_cons,List.not_mem_nil,or_false] at hx
  rcases hx with rfl
  exact Only.refl _ _)
 have hC0:∀ d∈[6],(fun (_:Nat) (a:World)=>Row a g 48 L) d w.drew:=fun _ _=>Hrow.out.zB (Only.drew _);refine zU (Only [g]) (zZ [(6,Only [g])]) (fun (_:Nat) (a:World)=>Row a g 48 L) [6] [[(0,none)],[(1,none)],[(20,some 1),(21,some 0)],[(0,none)],[(2,none)],[(23,some 1),(24,some 0)],[(22,some 3),(25,some 0)],[(26,some 0)]] [(0,0)] [] [some 0,none,none,none,none,none,none,none,none,none,none,none,none,none,none,none,none,none,none,none,some 20,some 21,some 22,some 23,some 24,some 25,some 26,none,none,none,none,none,none] (by kernel_rfl) rfl (by kernel_rfl) hRr hRt hRs hRd hC0 (by kernel_rfl) (by kernel_rfl) ?_
 apply zF
 ·rintro a w hR hC ⟨(e0:_=_),-⟩;refine zA rfl fun K hK=>?_;go_simp;exact hK _ _ rfl ⟨hRr _,hRs _ _,fun _ _ _ _ h=>h⟩
 apply zF
 ·rintro a w hR hC ⟨(e1:_=_),-⟩;refine zA rfl fun K hK=>?_;go_simp;exact hK _ _ rfl ⟨hRr _,hRs _ _,fun _ _ _ _ h=>h⟩
 apply zF
 ·rintro a w hR hC ⟨(e20:_=_),(e21:_=_),-⟩;refine zA rfl fun K hK=>?_;go_simp;exact hK _ _ rfl ⟨hRr _,hRs _ _,fun _ _ _ _ h=>h⟩
 apply zF
 ·rintro a w hR hC ⟨(e0:_=_),-⟩;refine zA rfl fun K hK=>?_;go_simp;exact hK _ _ rfl ⟨hRr _,hRs _ _,fun _ _ _ _ h=>h⟩
 apply zF
 ·rintro a w hR hC ⟨(e2:_=_),-⟩;refine zA rfl fun K hK=>?_;go_simp;exact hK _ _ rfl ⟨hRr _,hRs _ _,fun _ _ _ _ h=>h⟩
 apply zF
 ·rintro a w hR hC ⟨(e23:_=_),(e24:_=_),-⟩;refine zA rfl fun K hK=>?_;go_simp;exact hK _ _ rfl ⟨hRr _,hRs _ _,fun _ _ _ _ h=>h⟩
 refine ⟨zAj (some ⟨g,0,none⟩) d c g 48 (L.take (i * 5) ++ B ++ L.drop (i * 5+B.length)),zL zAj.stable (by intro x hx hk;simp only [List.mem_cons,List.not_mem_nil,or_false] at hx;rcases hx with rfl;exact Bool.noConfusion (hk.symm.trans (by kernel_rfl:_=true))),fun a w hR hC hf=>?_,?_⟩
 ·obtain ⟨e22,e25,-⟩:=hf;replace e22:a.tmps.getD 22 undef=_:=e22;replace e25:a.tmps.getD 25 undef=_:=e25;refine zA rfl fun K hK=>?_;have rz:Row w g 48 L:=hC 6 (by simp) (by kernel_rfl);have hst:=Only.setRow w g ((L.take (i * 5) ++ B ++ L.drop (i * 5+B.length))).toArray;refine vF (s:=.tmp 22) (x:=.tmp 25) rfl e22 e25 (Happ.out w rz _ _) ?_;exact hK _ _ ⟨rfl,rz.setRow _⟩ ⟨hst,hst,fun i hi hne ha hc=>absurd hi (by simp;omega)⟩
 refine ⟨zAj (some ⟨g,0,none⟩) d c g 48 (L.take (i * 5) ++ B ++ L.drop (i * 5+B.length)),zL zAj.stable (by intro x hx hk;simp only [List.mem_cons,List.not_mem_nil,or_false] at hx;rcases hx with rfl;exact Bool.noConfusion (hk.symm.trans (by kernel_rfl:_=true))),fun a w hR hC hf=>?_,?_⟩
 ·obtain ⟨e26,-⟩:=hf;replace e26:zAj (some ⟨g,0,none⟩) d c g 48 (L.take (i * 5) ++ B ++ L.drop (i * 5+B.length)) (a.tmps.getD 26 undef) w:=e26;refine zA rfl fun K hK=>?_;generalize hv26:a.tmps.getD 26 undef=v26 at e26;go_simp;exact hK _ _ e26 ⟨hRr _,hRs _ _,fun _ _ _ _ h=>h⟩
 intro f5 w5 hR5 hf hl5;dsimp only [qE];obtain ⟨e0,-⟩:=hf;replace e0:zAj (some ⟨g,0,none⟩) d c g 48 (L.take (i * 5) ++ B ++ L.drop (i * 5+B.length)) (f5 0) w5:=e0;obtain ⟨e0,r1⟩:=e0;rw [e0];obtain ⟨w4,hw4⟩:∃ w4,w4=w5.setRow g (((L.take (i * 5) ++ B ++ L.drop (i * 5+B.length))).take (d * 5) ++ Z ++ ((L.take (i * 5) ++ B ++ L.drop (i * 5+B.length))).drop (d * 5+5)).toArray:=⟨_,rfl⟩;have H2:=fun ty c2=>Hcl.out w5 r1 ty c2;have o4:Only [g] w5 w4:=(by rw [hw4];exact Only.setRow _ _ _);have r4:=r1.setRow (((L.take (i * 5) ++ B ++ L.drop (i * 5+B.length))).take (d * 5) ++ Z ++ ((L.take (i * 5) ++ B ++ L.drop (i * 5+B.length))).drop (d * 5+5))
 rw [← hw4] at r4 H2;have HF:Hid (zN w4 base 48 5 (.slice (some ⟨g,0,none⟩) d c) d ((xs.eraseIdx i).flatMap zH)∧Only (blk (some (⟨g,0,none⟩:Addr))) w w4):=Lib.hid ⟨zN.ofRow r4 HE.out.2.2.1 HE.out.2.2.2.1 HE.out.2.2.2.2 HE.out.1 HE.out.2.1,hR5.trans o4 (fun _ h _=>h)⟩;have H2h:=Lib.hid H2;clear e0 r1 H2 o4 r4 hw4 HE Hcl Happ Hrow hRr hRt hRd hRs hC0 hR5
 go_upto_region 7 with (fail)
 rw [H2h.out];go_wp2_with fail
 go_ret
 exact ⟨rfl,HF.out⟩
end
section
open Go.RowKit
set_option maxHeartbeats 8000000 in
theorem zEK (p:Option Addr) (d c:Nat) (xs:List qN) (i base:Nat) (w:World) (hown:zN w base 54 5 (.slice p (d+1) c) (d+1) (xs.flatMap zG)) (hl:xs.length=d+1) (hin:i≤d) (hnb:d≤1000000) :
  Calls Tryz.prog 137 #[.slice p (d+1) c,.int .i64 (i:Int),.int .i64 ((i:Int)+1)] w fun e' w'=>e'=.returned (.slice p d c)∧zN w' base 54 5 (.slice p d c) d ((xs.eraseIdx i).flatMap zG)∧Only (blk p) w w':=by
 obtain ⟨g,-,rfl,-,-⟩:=hown.rowOf (by omega);obtain ⟨rest,hrow,hlen,hnc,hcm,hgb,-⟩:=hown.row;obtain ⟨L,hL⟩:∃ L,L=xs.flatMap zG ++ rest:=⟨_,rfl⟩;obtain ⟨B,hB⟩:∃ B,B=(xs.drop (i+1)).flatMap zG:=⟨_,rfl⟩;rw [← hL] at hrow hlen;obtain ⟨ii,hii,hz0,hs1,hs2⟩:=info_partsK Tryz.infoLU;obtain ⟨Z,hZ⟩:∃ Z,Z=(Builtin.zeroCells (.agg #[.int .i64 0,.int .i64 0,.int .i64 0,.string ⟨#[]⟩,.slice none 0 0]:Value).cells 1).toList:=⟨_,rfl⟩;have hZl:Z.length=5:=(by rw [hZ];simp [Builtin.zeroCells,Value.cells]);have hdr:=zFu (m:=d - i) (c:=c) (Z:=Z) zT (by rw [hl];omega) hL hB (by omega) hlen hZl
 rw [show i+(d - i)=d by omega] at hdr;obtain ⟨lB,hfit,hfit2,hl2,ht2,hsrc⟩:=hdr;have h1B:∀ v∈B,v.oneCell'=true:=fun v hv=>by rw [hB] at hv;exact vD zG xX hv
 obtain ⟨A,hA,hsrcA⟩:∃ A:Addr,(if c=i+1 then some (⟨g,0,none⟩:Addr) else some ⟨g,(i+1) * 5,none⟩)=some A∧∀ W:World,Row W g 54 L→∀ j v,B[j]?=some v→W.cell? (A.add j)=some v:=by
  by_cases hc:c=i+1
  ·refine ⟨_,if_pos hc,fun W r j v hj=>?_⟩;have:=(List.getElem?_eq_some_iff.1 hj).1;have e0:d - i=0:=(by omega);rw [lB,e0,Nat.zero_mul] at this;omega
  ·refine ⟨_,if_neg hc,fun W r j v hj=>?_⟩;rw [Addr.add_lit];exact r.cell (hsrc j v hj)
 have happ:=fun (W:World) (r:Row W g 54 L) (ty:TypeId) (c2:Nat)=>zDL (P:=Tryz.prog) (ty:=ty) (i:=i) (c:=c) (c2:=c2) W Tryz.underlying58 Tryz.infoLU r lB (hsrcA W r) h1B (by omega) hfit;rw [show i+(d - i)=d by omega] at happ;have hcl:=fun (W:World) (r:Row W g 54 (L.take (i * 5) ++ B ++ L.drop (i * 5+B.length))) (ty:TypeId) (c2:Nat)=>zER (P:=Tryz.prog) (ty:=ty) (o:=d * 5) (n:=1) (c:=c2) (z:=.agg #[.int .i64 0,.int .i64 0,.int .i64 0,.string ⟨#[]⟩,.slice none 0 0]) W Tryz.underlying58 (fun w=>by unfold zeroValue typeInfo;simp [hii,hz0]) (by intro v hv;simp [Value.cells] at hv;rcases hv with rfl | rfl | rfl | rfl | rfl <;> rfl) r (by omega) (by rw [show (.agg #[.int .i64 0,.int .i64 0,.int .i64 0,.string ⟨#[]⟩,.slice none 0 0]:Value).cells.size=5 from rfl,Nat.one_mul];exact hfit2)
 rw [show (.agg #[.int .i64 0,.int .i64 0,.int .i64 0,.string ⟨#[]⟩,.slice none 0 0]:Value).cells.size=5 from rfl,Nat.one_mul,← hZ] at hcl;have Happ:=Lib.hid happ;have Hcl:=Lib.hid hcl;have Hrow:=Lib.hid hrow;have HE:Hid ((((L.take (i * 5) ++ B ++ L.drop (i * 5+B.length))).take (d * 5) ++ Z ++ ((L.take (i * 5) ++ B ++ L.drop (i * 5+B.length))).drop (d * 5+5)).length=c * 5∧(((L.take (i * 5) ++ B ++ L.drop (i * 5+B.length))).take (d * 5) ++ Z ++ ((L.take (i * 5) ++ B ++ L.drop (i * 5+B.length))).drop (d * 5+5)).take (d * 5)=(xs.eraseIdx i).flatMap zG∧base≤g∧d≤c∧c≤9223372036854775807):=Lib.hid ⟨hl2,ht2,hgb,by omega,hcm⟩
 have hq0:((i:Int) == (i:Int)+1)=false:=beq_eq_false_iff_ne.2 (by omega);have hq1:¬ ((i:Int)=(i:Int)+1):=(by omega);have hid:(i:Int)≤(d:Int):=(by omega);have hdc:(d:Int)+1≤(c:Int):=(by omega);have hic:(i:Int)≤(c:Int):=(by omega);have hic1:(i:Int)+1≤(c:Int):=(by omega);have hdc1:(d:Int)≤(c:Int):=(by omega);have hi01:(0:Int)≤(i:Int)+1:=(by omega);have htn:((i:Int)+1).toNat=i+1:=(by omega);have htd:((d:Int)+1).toNat=d+1:=(by omega);have hsub:d+1 - (i+1)=d - i:=(by omega);have hsub1:d+1 - d=1:=by omega
 have hcd:¬ c=d:=(by omega);clear hown hrow hlen hL hB hii hz0 hs1 hs2 hZ hZl lB hfit hfit2 hl2 ht2 hsrc h1B hsrcA happ hcl hgb hcm hl
 go_enter Tryz.func137,Tryz.ntmps137
 go_upto_region 5 with (fail)
 have hRr:∀ x,(Only [g]) x x:=fun x=>Only.refl _ _;have hRt:∀ x b e,(Only [g]) x b→(Only [g]) b e→(Only [g]) x e:=fun _ _ _ h k=>h.trans k (fun _ h _=>h);have hRd:(Only [g]) w w.drew:=(Only.drew _).mono (by simp)
 have hRs:∀ j w,zZ [(6,Only [g])] j w w:=zZ.refl (by
  intro x hx w;simp only [List.mem_cons,List.not_mem_nil,or_false] at hx
  rcases hx with rfl
  exact Only.refl _ _)
 have hC0:∀ d∈[6],(fun (_:Nat) (a:World)=>Row a g 54 L) d w.drew:=fun _ _=>Hrow.out.zB (Only.drew _);refine zU (Only [g]) (zZ [(6,Only [g])]) (fun (_:Nat) (a:World)=>Row a g 54 L) [6] [[(0,none)],[(1,none)],[(20,some 1),(21,some 0)],[(0,none)],[(2,none)],[(23,some 1),(24,some 0)],[(22,some 3),(25,some 0)],[(26,some 0)]] [(0,0)] [] [some 0,none,none,none,none,none,none,none,none,none,none,none,none,none,none,none,none,none,none,none,some 20,some 21,some 22,some 23,some 24,some 25,some 26,none,none,none,none,none,none] (by kernel_rfl) rfl (by kernel_rfl) hRr hRt hRs hRd hC0 (by kernel_rfl) (by kernel_rfl) ?_
 apply zF
 ·rintro a w hR hC ⟨(e0:_=_),-⟩;refine zA rfl fun K hK=>?_;go_simp;exact hK _ _ rfl ⟨hRr _,hRs _ _,fun _ _ _ _ h=>h⟩
 apply zF
 ·rintro a w hR hC ⟨(e1:_=_),-⟩;refine zA rfl fun K hK=>?_;go_simp;exact hK _ _ rfl ⟨hRr _,hRs _ _,fun _ _ _ _ h=>h⟩
 apply zF
 ·rintro a w hR hC ⟨(e20:_=_),(e21:_=_),-⟩;refine zA rfl fun K hK=>?_;go_simp;exact hK _ _ rfl ⟨hRr _,hRs _ _,fun _ _ _ _ h=>h⟩
 apply zF
 ·rintro a w hR hC ⟨(e0:_=_),-⟩;refine zA rfl fun K hK=>?_;go_simp;exact hK _ _ rfl ⟨hRr _,hRs _ _,fun _ _ _ _ h=>h⟩
 apply zF
 ·rintro a w hR hC ⟨(e2:_=_),-⟩;refine zA rfl fun K hK=>?_;go_simp;exact hK _ _ rfl ⟨hRr _,hRs _ _,fun _ _ _ _ h=>h⟩
 apply zF
 ·rintro a w hR hC ⟨(e23:_=_),(e24:_=_),-⟩;refine zA rfl fun K hK=>?_;go_simp;exact hK _ _ rfl ⟨hRr _,hRs _ _,fun _ _ _ _ h=>h⟩
 refine ⟨zAj (some ⟨g,0,none⟩) d c g 54 (L.take (i * 5) ++ B ++ L.drop (i * 5+B.length)),zL zAj.stable (by intro x hx hk;simp only [List.mem_cons,List.not_mem_nil,or_false] at hx;rcases hx with rfl;exact Bool.noConfusion (hk.symm.trans (by kernel_rfl:_=true))),fun a w hR hC hf=>?_,?_⟩
 ·obtain ⟨e22,e25,-⟩:=hf;replace e22:a.tmps.getD 22 undef=_:=e22;replace e25:a.tmps.getD 25 undef=_:=e25;refine zA rfl fun K hK=>?_;have rz:Row w g 54 L:=hC 6 (by simp) (by kernel_rfl);have hst:=Only.setRow w g ((L.take (i * 5) ++ B ++ L.drop (i * 5+B.length))).toArray;refine vF (s:=.tmp 22) (x:=.tmp 25) rfl e22 e25 (Happ.out w rz _ _) ?_;exact hK _ _ ⟨rfl,rz.setRow _⟩ ⟨hst,hst,fun i hi hne ha hc=>absurd hi (by simp;omega)⟩
 refine ⟨zAj (some ⟨g,0,none⟩) d c g 54 (L.take (i * 5) ++ B ++ L.drop (i * 5+B.length)),zL zAj.stable (by intro x hx hk;simp only [List.mem_cons,List.not_mem_nil,or_false] at hx;rcases hx with rfl;exact Bool.noConfusion (hk.symm.trans (by kernel_rfl:_=true))),fun a w hR hC hf=>?_,?_⟩
 ·obtain ⟨e26,-⟩:=hf;replace e26:zAj (some ⟨g,0,none⟩) d c g 54 (L.take (i * 5) ++ B ++ L.drop (i * 5+B.length)) (a.tmps.getD 26 undef) w:=e26;refine zA rfl fun K hK=>?_;generalize hv26:a.tmps.getD 26 undef=v26 at e26;go_simp;exact hK _ _ e26 ⟨hRr _,hRs _ _,fun _ _ _ _ h=>h⟩
 intro f5 w5 hR5 hf hl5;dsimp only [qE];obtain ⟨e0,-⟩:=hf;replace e0:zAj (some ⟨g,0,none⟩) d c g 54 (L.take (i * 5) ++ B ++ L.drop (i * 5+B.length)) (f5 0) w5:=e0;obtain ⟨e0,r1⟩:=e0;rw [e0];obtain ⟨w4,hw4⟩:∃ w4,w4=w5.setRow g (((L.take (i * 5) ++ B ++ L.drop (i * 5+B.length))).take (d * 5) ++ Z ++ ((L.take (i * 5) ++ B ++ L.drop (i * 5+B.length))).drop (d * 5+5)).toArray:=⟨_,rfl⟩;have H2:=fun ty c2=>Hcl.out w5 r1 ty c2;have o4:Only [g] w5 w4:=(by rw [hw4];exact Only.setRow _ _ _);have r4:=r1.setRow (((L.take (i * 5) ++ B ++ L.drop (i * 5+B.length))).take (d * 5) ++ Z ++ ((L.take (i * 5) ++ B ++ L.drop (i * 5+B.length))).drop (d * 5+5))
 rw [← hw4] at r4 H2;have HF:Hid (zN w4 base 54 5 (.slice (some ⟨g,0,none⟩) d c) d ((xs.eraseIdx i).flatMap zG)∧Only (blk (some (⟨g,0,none⟩:Addr))) w w4):=Lib.hid ⟨zN.ofRow r4 HE.out.2.2.1 HE.out.2.2.2.1 HE.out.2.2.2.2 HE.out.1 HE.out.2.1,hR5.trans o4 (fun _ h _=>h)⟩;have H2h:=Lib.hid H2;clear e0 r1 H2 o4 r4 hw4 HE Hcl Happ Hrow hRr hRt hRd hRs hC0 hR5
 go_upto_region 7 with (fail)
 rw [H2h.out];go_wp2_with fail
 go_ret
 exact ⟨rfl,HF.out⟩
end
section
open Go.RowKit
set_option maxHeartbeats 8000000 in
theorem zGy (p:Option Addr) (d c:Nat) (xs:List LBk) (i base:Nat) (w:World) (hown:zN w base 60 5 (.slice p (d+1) c) (d+1) (xs.flatMap zD)) (hl:xs.length=d+1) (hin:i≤d) (hnb:d≤1000000) :
  Calls Tryz.prog 56 #[.slice p (d+1) c,.int .i64 (i:Int),.int .i64 ((i:Int)+1)] w fun e' w'=>e'=.returned (.slice p d c)∧zN w' base 60 5 (.slice p d c) d ((xs.eraseIdx i).flatMap zD)∧Only (blk p) w w':=by
 obtain ⟨g,-,rfl,-,-⟩:=hown.rowOf (by omega);obtain ⟨rest,hrow,hlen,hnc,hcm,hgb,-⟩:=hown.row;obtain ⟨L,hL⟩:∃ L,L=xs.flatMap zD ++ rest:=⟨_,rfl⟩;obtain ⟨B,hB⟩:∃ B,B=(xs.drop (i+1)).flatMap zD:=⟨_,rfl⟩;rw [← hL] at hrow hlen;obtain ⟨ii,hii,hz0,hs1,hs2⟩:=info_partsK Tryz.infoLB;obtain ⟨Z,hZ⟩:∃ Z,Z=(Builtin.zeroCells (.agg #[.string ⟨#[]⟩,.int .i64 0,.int .i64 0,.slice none 0 0,.slice none 0 0]:Value).cells 1).toList:=⟨_,rfl⟩;have hZl:Z.length=5:=(by rw [hZ];simp [Builtin.zeroCells,Value.cells]);have hdr:=zFu (m:=d - i) (c:=c) (Z:=Z) zQ (by rw [hl];omega) hL hB (by omega) hlen hZl
 rw [show i+(d - i)=d by omega] at hdr;obtain ⟨lB,hfit,hfit2,hl2,ht2,hsrc⟩:=hdr;have h1B:∀ v∈B,v.oneCell'=true:=fun v hv=>by rw [hB] at hv;exact vD zD xP hv
 obtain ⟨A,hA,hsrcA⟩:∃ A:Addr,(if c=i+1 then some (⟨g,0,none⟩:Addr) else some ⟨g,(i+1) * 5,none⟩)=some A∧∀ W:World,Row W g 60 L→∀ j v,B[j]?=some v→W.cell? (A.add j)=some v:=by
  by_cases hc:c=i+1
  ·refine ⟨_,if_pos hc,fun W r j v hj=>?_⟩;have:=(List.getElem?_eq_some_iff.1 hj).1;have e0:d - i=0:=(by omega);rw [lB,e0,Nat.zero_mul] at this;omega
  ·refine ⟨_,if_neg hc,fun W r j v hj=>?_⟩;rw [Addr.add_lit];exact r.cell (hsrc j v hj)
 have happ:=fun (W:World) (r:Row W g 60 L) (ty:TypeId) (c2:Nat)=>zDL (P:=Tryz.prog) (ty:=ty) (i:=i) (c:=c) (c2:=c2) W Tryz.underlying26 Tryz.infoLB r lB (hsrcA W r) h1B (by omega) hfit;rw [show i+(d - i)=d by omega] at happ;have hcl:=fun (W:World) (r:Row W g 60 (L.take (i * 5) ++ B ++ L.drop (i * 5+B.length))) (ty:TypeId) (c2:Nat)=>zER (P:=Tryz.prog) (ty:=ty) (o:=d * 5) (n:=1) (c:=c2) (z:=.agg #[.string ⟨#[]⟩,.int .i64 0,.int .i64 0,.slice none 0 0,.slice none 0 0]) W Tryz.underlying26 (fun w=>by unfold zeroValue typeInfo;simp [hii,hz0]) (by intro v hv;simp [Value.cells] at hv;rcases hv with rfl | rfl | rfl | rfl | rfl <;> rfl) r (by omega) (by rw [show (.agg #[.string ⟨#[]⟩,.int .i64 0,.int .i64 0,.slice none 0 0,.slice none 0 0]:Value).cells.size=5 from rfl,Nat.one_mul];exact hfit2)
 rw [show (.agg #[.string ⟨#[]⟩,.int .i64 0,.int .i64 0,.slice none 0 0,.slice none 0 0]:Value).cells.size=5 from rfl,Nat.one_mul,← hZ] at hcl;have Happ:=Lib.hid happ;have Hcl:=Lib.hid hcl;have Hrow:=Lib.hid hrow;have HE:Hid ((((L.take (i * 5) ++ B ++ L.drop (i * 5+B.length))).take (d * 5) ++ Z ++ ((L.take (i * 5) ++ B ++ L.drop (i * 5+B.length))).drop (d * 5+5)).length=c * 5∧(((L.take (i * 5) ++ B ++ L.drop (i * 5+B.length))).take (d * 5) ++ Z ++ ((L.take (i * 5) ++ B ++ L.drop (i * 5+B.length))).drop (d * 5+5)).take (d * 5)=(xs.eraseIdx i).flatMap zD∧base≤g∧d≤c∧c≤9223372036854775807):=Lib.hid ⟨hl2,ht2,hgb,by omega,hcm⟩
 have hq0:((i:Int) == (i:Int)+1)=false:=beq_eq_false_iff_ne.2 (by omega);have hq1:¬ ((i:Int)=(i:Int)+1):=(by omega);have hid:(i:Int)≤(d:Int):=(by omega);have hdc:(d:Int)+1≤(c:Int):=(by omega);have hic:(i:Int)≤(c:Int):=(by omega);have hic1:(i:Int)+1≤(c:Int):=(by omega);have hdc1:(d:Int)≤(c:Int):=(by omega);have hi01:(0:Int)≤(i:Int)+1:=(by omega);have htn:((i:Int)+1).toNat=i+1:=(by omega);have htd:((d:Int)+1).toNat=d+1:=(by omega);have hsub:d+1 - (i+1)=d - i:=(by omega);have hsub1:d+1 - d=1:=by omega
 have hcd:¬ c=d:=(by omega);clear hown hrow hlen hL hB hii hz0 hs1 hs2 hZ hZl lB hfit hfit2 hl2 ht2 hsrc h1B hsrcA happ hcl hgb hcm hl
 go_enter Tryz.func56,Tryz.ntmps56
 go_upto_region 5 with (fail)
 have hRr:∀ x,(Only [g]) x x:=fun x=>Only.refl _ _;have hRt:∀ x b e,(Only [g]) x b→(Only [g]) b e→(Only [g]) x e:=fun _ _ _ h k=>h.trans k (fun _ h _=>h);have hRd:(Only [g]) w w.drew:=(Only.drew _).mono (by simp)
 have hRs:∀ j w,zZ [(6,Only [g])] j w w:=zZ.refl (by
  intro x hx w;simp only [List.mem_cons,List.not_mem_nil,or_false] at hx
  rcases hx with rfl
  exact Only.refl _ _)
 have hC0:∀ d∈[6],(fun (_:Nat) (a:World)=>Row a g 60 L) d w.drew:=fun _ _=>Hrow.out.zB (Only.drew _);refine zU (Only [g]) (zZ [(6,Only [g])]) (fun (_:Nat) (a:World)=>Row a g 60 L) [6] [[(0,none)],[(1,none)],[(20,some 1),(21,some 0)],[(0,none)],[(2,none)],[(23,some 1),(24,some 0)],[(22,some 3),(25,some 0)],[(26,some 0)]] [(0,0)] [] [some 0,none,none,none,none,none,none,none,none,none,none,none,none,none,none,none,none,none,none,none,some 20,some 21,some 22,some 23,some 24,some 25,some 26,none,none,none,none,none,none] (by kernel_rfl) rfl (by kernel_rfl) hRr hRt hRs hRd hC0 (by kernel_rfl) (by kernel_rfl) ?_
 apply zF
 ·rintro a w hR hC ⟨(e0:_=_),-⟩;refine zA rfl fun K hK=>?_;go_simp;exact hK _ _ rfl ⟨hRr _,hRs _ _,fun _ _ _ _ h=>h⟩
 apply zF
 ·rintro a w hR hC ⟨(e1:_=_),-⟩;refine zA rfl fun K hK=>?_;go_simp;exact hK _ _ rfl ⟨hRr _,hRs _ _,fun _ _ _ _ h=>h⟩
 apply zF
 ·rintro a w hR hC ⟨(e20:_=_),(e21:_=_),-⟩;refine zA rfl fun K hK=>?_;go_simp;exact hK _ _ rfl ⟨hRr _,hRs _ _,fun _ _ _ _ h=>h⟩
 apply zF
 ·rintro a w hR hC ⟨(e0:_=_),-⟩;refine zA rfl fun K hK=>?_;go_simp;exact hK _ _ rfl ⟨hRr _,hRs _ _,fun _ _ _ _ h=>h⟩
 apply zF
 ·rintro a w hR hC ⟨(e2:_=_),-⟩;refine zA rfl fun K hK=>?_;go_simp;exact hK _ _ rfl ⟨hRr _,hRs _ _,fun _ _ _ _ h=>h⟩
 apply zF
 ·rintro a w hR hC ⟨(e23:_=_),(e24:_=_),-⟩;refine zA rfl fun K hK=>?_;go_simp;exact hK _ _ rfl ⟨hRr _,hRs _ _,fun _ _ _ _ h=>h⟩
 refine ⟨zAj (some ⟨g,0,none⟩) d c g 60 (L.take (i * 5) ++ B ++ L.drop (i * 5+B.length)),zL zAj.stable (by intro x hx hk;simp only [List.mem_cons,List.not_mem_nil,or_false] at hx;rcases hx with rfl;exact Bool.noConfusion (hk.symm.trans (by kernel_rfl:_=true))),fun a w hR hC hf=>?_,?_⟩
 ·obtain ⟨e22,e25,-⟩:=hf;replace e22:a.tmps.getD 22 undef=_:=e22;replace e25:a.tmps.getD 25 undef=_:=e25;refine zA rfl fun K hK=>?_;have rz:Row w g 60 L:=hC 6 (by simp) (by kernel_rfl);have hst:=Only.setRow w g ((L.take (i * 5) ++ B ++ L.drop (i * 5+B.length))).toArray;refine vF (s:=.tmp 22) (x:=.tmp 25) rfl e22 e25 (Happ.out w rz _ _) ?_;exact hK _ _ ⟨rfl,rz.setRow _⟩ ⟨hst,hst,fun i hi hne ha hc=>absurd hi (by simp;omega)⟩
 refine ⟨zAj (some ⟨g,0,none⟩) d c g 60 (L.take (i * 5) ++ B ++ L.drop (i * 5+B.length)),zL zAj.stable (by intro x hx hk;simp only [List.mem_cons,List.not_mem_nil,or_false] at hx;rcases hx with rfl;exact Bool.noConfusion (hk.symm.trans (by kernel_rfl:_=true))),fun a w hR hC hf=>?_,?_⟩
 ·obtain ⟨e26,-⟩:=hf;replace e26:zAj (some ⟨g,0,none⟩) d c g 60 (L.take (i * 5) ++ B ++ L.drop (i * 5+B.length)) (a.tmps.getD 26 undef) w:=e26;refine zA rfl fun K hK=>?_;generalize hv26:a.tmps.getD 26 undef=v26 at e26;go_simp;exact hK _ _ e26 ⟨hRr _,hRs _ _,fun _ _ _ _ h=>h⟩
 intro f5 w5 hR5 hf hl5;dsimp only [qE];obtain ⟨e0,-⟩:=hf;replace e0:zAj (some ⟨g,0,none⟩) d c g 60 (L.take (i * 5) ++ B ++ L.drop (i * 5+B.length)) (f5 0) w5:=e0;obtain ⟨e0,r1⟩:=e0;rw [e0];obtain ⟨w4,hw4⟩:∃ w4,w4=w5.setRow g (((L.take (i * 5) ++ B ++ L.drop (i * 5+B.length))).take (d * 5) ++ Z ++ ((L.take (i * 5) ++ B ++ L.drop (i * 5+B.length))).drop (d * 5+5)).toArray:=⟨_,rfl⟩;have H2:=fun ty c2=>Hcl.out w5 r1 ty c2;have o4:Only [g] w5 w4:=(by rw [hw4];exact Only.setRow _ _ _);have r4:=r1.setRow (((L.take (i * 5) ++ B ++ L.drop (i * 5+B.length))).take (d * 5) ++ Z ++ ((L.take (i * 5) ++ B ++ L.drop (i * 5+B.length))).drop (d * 5+5))
 rw [← hw4] at r4 H2;have HF:Hid (zN w4 base 60 5 (.slice (some ⟨g,0,none⟩) d c) d ((xs.eraseIdx i).flatMap zD)∧Only (blk (some (⟨g,0,none⟩:Addr))) w w4):=Lib.hid ⟨zN.ofRow r4 HE.out.2.2.1 HE.out.2.2.2.1 HE.out.2.2.2.2 HE.out.1 HE.out.2.1,hR5.trans o4 (fun _ h _=>h)⟩;have H2h:=Lib.hid H2;clear e0 r1 H2 o4 r4 hw4 HE Hcl Happ Hrow hRr hRt hRd hRs hC0 hR5
 go_upto_region 7 with (fail)
 rw [H2h.out];go_wp2_with fail
 go_ret
 exact ⟨rfl,HF.out⟩
end
end Go.Proofs.YtfeglnpmpgipiaaGreatDoor
