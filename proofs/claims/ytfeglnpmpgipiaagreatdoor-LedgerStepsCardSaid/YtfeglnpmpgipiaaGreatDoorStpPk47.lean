/- StpPk, part 47: LawStepsW. -/
import Derived.Test.YtfeglnpmpgipiaaGreatDoorLdgPk22
import Derived.Test.YtfeglnpmpgipiaaGreatDoorLdgPk42
import Derived.Test.YtfeglnpmpgipiaaGreatDoorStpPk44
import Derived.Test.YtfeglnpmpgipiaaGreatDoorLdgPk46
set_option linter.unusedVariables false
set_option maxRecDepth 100000
set_option linter.unusedSimpArgs false
namespace Go.Proofs.YtfeglnpmpgipiaaGreatDoor
section
open Go.RowKit
theorem zIa {xs:List Cmd} {x:Cmd} (h:x∈xs):zAH xs x.id < xs.length:=List.findIdx_lt_length_of_exists ⟨x,h,by simp⟩
theorem zFO {xs:List Cmd} {d:Cid} (h:zAH xs d < xs.length) (ys:List Cmd):zAH (xs ++ ys) d=zAH xs d:=by
 unfold zAH at h ⊢;rw [List.findIdx_append,if_pos h]
theorem zFX (xs ys:List Cmd):zAU xs (xs ++ ys)=true:=by unfold zAU;simp
set_option maxHeartbeats 16000000 in
theorem zEo (p:Option Addr) (n c:Nat) (ms:List zT) (p2:Option Addr) (n2 c2:Nat) (ms2:List zT) (v:Int) (w0:World) (hn:ms.length=n) (hnb:n * 184≤140737488355328) (hx:Rd w0 p (ms.flatMap zJ)) (hms:zCT w0 ms) (hn2:ms2.length=n2) (hnb2:n2 * 184≤140737488355328) (hx2:Rd w0 p2 (ms2.flatMap zJ)) (hms2:zCT w0 ms2) :
  Calls Tryz.prog 13 #[.slice p n c,.slice p2 n2 c2,.int .i64 v] w0 fun e w'=>e=.returned (.bool true)∧Only [] w0 w':=by
 have H1:=Lib.hid (show ms.length=n∧Rd w0 p (ms.flatMap zJ)∧zCT w0 ms from ⟨hn,hx,hms⟩);have H2:=Lib.hid (show ms2.length=n2∧Rd w0 p2 (ms2.flatMap zJ)∧zCT w0 ms2 from ⟨hn2,hx2,hms2⟩);clear hn hx hms hn2 hx2 hms2
 go_enter Tryz.func13,Tryz.ntmps13
 go_wp2_with fail;refine (zCS w0).mono ?_;rintro e wa ⟨rfl,oa⟩;have HOa:=Lib.hid oa;clear oa;go_wp2_with fail;refine (zCg p n c ms wa H1.out.1 hnb (H1.out.2.1.zB HOa.out) ⟨fun x h=>(H1.out.2.2.ca x h).zB HOa.out,H1.out.2.2.sh⟩).mono ?_;rintro e wb ⟨q,mm,k,fs,rfl,hfl,hrd,hq0,hmk,hk63,hfm,hmem,ob⟩;have HOb:=Lib.hid (HOa.out.zC ob);have HF0:Hid (fs.length=mm∧Rd wb q (fs.flatMap zJ)∧(q=none→mm=0∧k=0)∧(∀ x∈fs,jP w0 x∧x.x.parts.length≤16)∧zCW fs):=Lib.hid ⟨hfl,hrd,hq0,fun x hx=>⟨H1.out.2.2.ca x (hmem x hx),(hfm.ok x hx).2⟩,fun x hx=>(hfm.ok x hx).1⟩
 obtain ⟨b1,hb1⟩:∃ b,decide (mm≤400)=b:=⟨_,rfl⟩;rw [hb1];have HB1:=Lib.hid hb1;clear HOa ob hfl hrd hq0 hfm hmem H1 hb1;go_wp2_with fail;refine (zCg p2 n2 c2 ms2 wb H2.out.1 hnb2 (H2.out.2.1.zB HOb.out) ⟨fun x h=>(H2.out.2.2.ca x h).zB HOb.out,H2.out.2.2.sh⟩).mono ?_;rintro e wc ⟨q2,m2,k2,fs2,rfl,hfl2,hrd2,hq02,-,-,hfm2,hmem2,oc⟩;have HOc:=Lib.hid (HOb.out.zC oc);have HF:Hid (fs.length=mm∧Rd wc q (fs.flatMap zJ)∧(q=none→mm=0∧k=0)∧(∀ x∈fs,jP w0 x∧x.x.parts.length≤16)∧zCW fs):=Lib.hid ⟨HF0.out.1,HF0.out.2.1.zB oc,HF0.out.2.2⟩
 have HG:Hid (fs2.length=m2∧Rd wc q2 (fs2.flatMap zJ)∧(q2=none→m2=0∧k2=0)∧(∀ x∈fs2,jP w0 x∧x.x.parts.length≤16)∧zCW fs2):=Lib.hid ⟨hfl2,hrd2,hq02,fun x hx=>⟨H2.out.2.2.ca x (hmem2 x hx),(hfm2.ok x hx).2⟩,fun x hx=>(hfm2.ok x hx).1⟩;obtain ⟨b2,hb2⟩:∃ b,decide (m2≤400)=b:=⟨_,rfl⟩;rw [hb2];have HB2:=Lib.hid hb2;clear HOb oc hfl2 hrd2 hq02 hfm2 hmem2 H2 HF0 hb2
 cases b1 with
 | false =>
  go_wp2_with fail
  go_ret
  exact ⟨rfl,HOc.out⟩
 | true =>
 cases b2 with
 | false =>
  go_wp2_with fail
  go_ret
  exact ⟨rfl,HOc.out⟩
 | true =>
 have hle:mm≤400:=of_decide_eq_true HB1.out;have hle2:m2≤400:=of_decide_eq_true HB2.out;clear HB1 HB2
 by_cases h150:mm+m2≤150
 rotate_left
 ·have hi1:(150:Int) < (mm:Int)+(m2:Int):=(by omega);go_wp2_with fail
  go_ret
  exact ⟨rfl,HOc.out⟩
 have hi1:¬ ((150:Int) < (mm:Int)+(m2:Int)):=(by omega);have hcp:=zFd q mm k fs wc HF.out.1 (by omega) HF.out.2.1 (fun m hm=>⟨(HF.out.2.2.2.1 m hm).1.zB HOc.out,by have:=(HF.out.2.2.2.1 m hm).2;omega⟩);have Hcp:=Lib.hid hcp;clear hcp;go_wp2_with fail;refine Hcp.out.mono ?_;rintro e wd ⟨q3,k3,cs,rfl,hmap,hout,hown⟩;obtain ⟨xs,hxs⟩:∃ xs,fs.map zT.x=xs:=⟨_,rfl⟩;obtain ⟨ys,hys⟩:∃ ys,fs2.map zT.x=ys:=⟨_,rfl⟩;have hxl:xs.length=mm:=(by rw [← hxs,List.length_map];exact HF.out.1);have hod:Only [] w0 wd:=HOc.out.zC hout.2.2
 obtain ⟨qa,ka,w3,hr,howna,h3⟩:=xP (P:=Tryz.prog) (bytes:=184) (c:=k2) (q:=q2) (m:=m2) (news:=fs2.flatMap zJ) (t:=22) (ty:=22) wd Tryz.underlying22 Tryz.infoCm rfl (by omega) hout.1 (HG.out.2.1.zB hout.2.2) (by rw [qQ zJ 18 jG,HG.out.1]) HG.out.2.2.1 (fun u hu=>xU zJ vC hu) (by omega) (by omega) hout.2.2.size;obtain ⟨na,hna⟩:∃ na,mm+m2=na:=⟨_,rfl⟩;rw [hna] at hr howna;rw [← List.flatMap_append] at howna;have hbl:∀ z∈blk q3,wc.heap.size≤z:=fun z hz=>(hout.blk z hz).1;have ho3:Only [] wc w3:=hout.2.2.zX h3 hbl
 have h03:Only [] w0 w3:=HOc.out.zC ho3;have hty:∀ z∈blk q3,Ty wd z 36:=zQ.ty hout.1
 have HA:Hid ((cs ++ fs2).length=na∧Rd w3 qa ((cs ++ fs2).flatMap zJ)∧(qa=none→na=0∧ka=0)∧(∀ x∈cs ++ fs2,jP w3 x∧x.x.parts.length≤16)∧zCW (cs ++ fs2)∧(cs ++ fs2).map zT.x=xs ++ ys∧na≤ka∧ka≤9223372036854775807):=Lib.hid ⟨by rw [List.length_append,hout.2.1,HG.out.1];exact hna,howna.view.2.2.1,howna.view.2.2.2.1,fun x hx=>by
  rcases List.mem_append.1 hx with h | h
  ·refine ⟨((hown x h).zDW h3 hty).at,?_⟩;have h9:x.x∈fs.map zT.x:=(by rw [← hmap];exact List.mem_map_of_mem h);obtain ⟨y,hy,e⟩:=List.mem_map.1 h9;rw [← e];exact (HF.out.2.2.2.1 y hy).2
  ·exact ⟨(HG.out.2.2.2.1 x h).1.zB h03,(HG.out.2.2.2.1 x h).2⟩,fun x hx=>by
  rcases List.mem_append.1 hx with h | h
  ·have h9:x.x∈fs.map zT.x:=(by rw [← hmap];exact List.mem_map_of_mem h);obtain ⟨y,hy,e⟩:=List.mem_map.1 h9;rw [← e];exact HF.out.2.2.2.2 y hy
  ·exact HG.out.2.2.2.2 x h,by rw [List.map_append,hmap,hxs,hys],howna.view.2.2.2.2.1,howna.view.2.2.2.2.2.1⟩
 obtain ⟨zs,has⟩:∃ zs,cs ++ fs2=zs:=⟨_,rfl⟩;rw [has] at HA;have HL:Hid (fs.length=mm∧Rd w3 q (fs.flatMap zJ)∧(q=none→mm=0∧k=0)∧(∀ x∈fs,jP w3 x∧x.x.parts.length≤16)∧zCW fs∧fs.map zT.x=xs):=Lib.hid ⟨HF.out.1,HF.out.2.1.zB ho3,HF.out.2.2.1,fun x hx=>⟨(HF.out.2.2.2.1 x hx).1.zB h03,(HF.out.2.2.2.1 x hx).2⟩,HF.out.2.2.2.2,hxs⟩;have HO3:=Lib.hid h03;have Hxl:=Lib.hid hxl;have Hap:=Lib.hid hr;have hmn:mm≤na:=(by omega);have hna8:na≤800:=(by omega);have Hna:=Lib.hid hna;clear hmap hout hown hys hod hr howna hna hbl ho3 h03 hty has hxs hxl h3 HF HG HOc Hcp
 have HBg:Hid (∀ w,Only [] w3 w→Calls Tryz.prog 35 #[.slice q mm k,.slice qa na ka] w fun e w'=>e=.returned (.bool true)∧Only [] w w'):=Lib.hid (fun w hw=>by
  have h9:=vK w q qa mm na k ka fs zs HL.out.1 HA.out.1 (by omega) HA.out.2.2.2.2.2.2.1 HA.out.2.2.2.2.2.2.2 (HL.out.2.1.zB hw) (HA.out.2.1.zB hw) (fun m hm=>⟨(HL.out.2.2.2.1 m hm).1.zB hw,by have:=(HL.out.2.2.2.1 m hm).2;omega⟩) (fun m hm=>(HA.out.2.2.2.1 m hm).1.zB hw)
  rwa [HL.out.2.2.2.2.2,HA.out.2.2.2.2.2.1,zFX] at h9)
 have HAt:Hid (∀ w (u:Nat),u≤mm→Only [] w3 w→Calls Tryz.prog 32 #[.slice qa na ka,.int .i64 (u:Int)] w fun e w'=>∃ L,e=.returned (lcV L)∧yL w' L∧xB L.cat∧L.cat=vF (xs.take u)∧Only [] w w'):=Lib.hid (fun w u hu hw=>by
  have h9:=zID qa na ka zs (u:Int) w HA.out.1 HA.out.2.2.2.2.2.2.1 HA.out.2.2.1 HA.out.2.2.2.2.2.2.2 (HA.out.2.1.zB hw) (fun m hm=>(HA.out.2.2.2.1 m hm).1.zB hw) HA.out.2.2.2.2.1;rw [HA.out.2.2.2.2.2.1,zDy (show u≤na by omega),List.take_append_of_le_length (by rw [Hxl.out];exact hu)] at h9;refine h9.mono ?_;rintro e w' ⟨L,rfl,k1,k2,k3,k4⟩
  exact ⟨L,rfl,k1.at,k2,k3,k4⟩)
 have HAl:Hid (∀ w (u:Nat),u≤mm→Only [] w3 w→Calls Tryz.prog 32 #[.slice q mm k,.int .i64 (u:Int)] w fun e w'=>∃ L,e=.returned (lcV L)∧yL w' L∧xB L.cat∧L.cat=vF (xs.take u)∧Only [] w w'):=Lib.hid (fun w u hu hw=>by
  have h9:=zID q mm k fs (u:Int) w HL.out.1 hmk HL.out.2.2.1 hk63 (HL.out.2.1.zB hw) (fun m hm=>(HL.out.2.2.2.1 m hm).1.zB hw) HL.out.2.2.2.2.1;rw [HL.out.2.2.2.2.2,zDy hu] at h9;refine h9.mono ?_;rintro e w' ⟨L,rfl,k1,k2,k3,k4⟩
  exact ⟨L,rfl,k1.at,k2,k3,k4⟩)
 have HFo:Hid (∀ w,Only [] w3 w→Calls Tryz.prog 31 #[.slice q mm k] w fun e w'=>∃ L,e=.returned (lcV L)∧yL w' L∧xB L.cat∧L.cat=vF (xs.take mm)∧Only [] w w'):=Lib.hid (fun w hw=>by
  have h9:=zBu q mm k fs w HL.out.1 (by omega) (HL.out.2.1.zB hw) (fun m hm=>(HL.out.2.2.2.1 m hm).1.zB hw) HL.out.2.2.2.2.1;refine h9.mono ?_;rintro e w' ⟨L,rfl,k1,k2,k3,k4⟩
  exact ⟨L,rfl,k1.at,k2,by rw [k3,HL.out.2.2.2.2.2,List.take_of_length_le (by rw [Hxl.out];exact Nat.le_refl _)],k4⟩)
 have HSm:Hid (∀ w L1 L2,yL w L1→yL w L2→xB L1.cat→L1.cat=L2.cat→Calls Tryz.prog 18 #[lcV L1,lcV L2] w fun e w'=>e=.returned (.bool true)∧Only [] w w'):=Lib.hid (fun w L1 L2 h1 h2 h3 h4=>by
  have h9:=zFj L1 L2 w h1 h2 (zBL h3)
  rwa [decide_eq_true h4] at h9)
 go_wp2_with (first | (at_builtin;refine qO (s:=.tmp 47) (x:=.tmp 48) rfl rfl rfl rfl Hap.out ?_))
 have h1:=HBg.out w3 (Only.refl _ _);refine h1.mono ?_;clear h1 Hap;rintro e w4 ⟨rfl,o4⟩;have O4:=Lib.hid o4;have h1:=HAt.out w4 mm (Nat.le_refl _) o4;clear o4;go_wp2_with fail;refine h1.mono ?_;clear h1;rintro e w5 ⟨L5,rfl,c5,k5,e5,o5⟩;have O5:=Lib.hid (O4.out.zC o5);have H5:=Lib.hid (show yL w5 L5∧xB L5.cat∧L5.cat=vF (xs.take mm) from ⟨c5,k5,e5⟩);have h1:=HFo.out w5 O5.out;clear c5 k5 e5 o5 O4;go_wp2_with fail;refine h1.mono ?_;clear h1;rintro e w6 ⟨L6,rfl,c6,k6,e6,o6⟩;have O6:=Lib.hid (O5.out.zC o6);have h1:=HSm.out w6 L5 L6 (H5.out.1.zB o6) c6 H5.out.2.1 (by rw [H5.out.2.2,e6])
 clear c6 k6 e6 o6 O5;go_wp2_with fail;refine h1.mono ?_;clear h1;rintro e w7 ⟨rfl,o7⟩;have O7:=Lib.hid (O6.out.zC o7);clear o7 O6 H5;obtain ⟨r,hr⟩:∃ r,v.tmod ((mm:Int)+1)=r:=⟨_,rfl⟩;have hr1:=Int.tmod_lt_of_pos v (show (0:Int) < (mm:Int)+1 by omega);have hr2:=Int.tmod_lt_of_pos (-v) (show (0:Int) < (mm:Int)+1 by omega);rw [Int.neg_tmod] at hr2;rw [hr] at hr1 hr2
 obtain ⟨K,hK,hKn⟩:∃ K:Nat,(r+(mm:Int)+1).tmod ((mm:Int)+1)=(K:Int)∧K≤mm:=by
  have c1:=Int.tmod_nonneg ((mm:Int)+1) (show 0≤r+(mm:Int)+1 by omega);have c2:=Int.tmod_lt_of_pos (r+(mm:Int)+1) (show (0:Int) < (mm:Int)+1 by omega);exact ⟨((r+(mm:Int)+1).tmod ((mm:Int)+1)).toNat,by omega,by omega⟩
 have hz1:¬ ((mm:Int)+1=0):=(by omega);have hz2:((mm:Int)+1 == 0)=false:=beq_eq_false_iff_ne.2 hz1;have h1:=HAt.out w7 K hKn O7.out;go_wp2_with fail;refine h1.mono ?_;clear h1 hr hK hr1 hr2 hz1 hz2;rintro e w8 ⟨L5,rfl,c5,k5,e5,o5⟩;have O8:=Lib.hid (O7.out.zC o5);have H5:=Lib.hid (show yL w8 L5∧xB L5.cat∧L5.cat=vF (xs.take K) from ⟨c5,k5,e5⟩);have h1:=HAl.out w8 K hKn O8.out;clear c5 k5 e5 o5 O7;go_wp2_with fail;refine h1.mono ?_;clear h1;rintro e w9 ⟨L6,rfl,c6,k6,e6,o6⟩;have O9:=Lib.hid (O8.out.zC o6);have h1:=HSm.out w9 L5 L6 (H5.out.1.zB o6) c6 H5.out.2.1 (by rw [H5.out.2.2,e6])
 clear c6 k6 e6 o6 O8;go_wp2_with fail;refine h1.mono ?_;clear h1;rintro e w10 ⟨rfl,o7⟩;have O10:=Lib.hid (O9.out.zC o7);clear o7 O9 H5 HBg HAt HAl HFo HSm hKn;go_wp2_with fail
 go_loopw [87] (fun a wl=>∃ i:Nat,a=.int .i64 (i:Int)∧i≤mm∧Hid (Only [] w3 wl)) (fun a _=>mm - (intOf a).toNat)
 case atStart=>exact ⟨0,rfl,Nat.zero_le _,O10⟩
 case round =>
  clear O10;obtain ⟨i,rfl,hi,HO⟩:=hrel
  by_cases hlt:i < mm
  ·obtain ⟨x,hx⟩:∃ x,fs[i]?=some x:=⟨_,List.getElem?_eq_getElem (by rw [HL.out.1];exact hlt)⟩;have hxm:=List.mem_of_getElem? hx;have hrx:=HL.out.2.1.zB HO.out;have hnx:fs.flatMap zJ≠[]:=fun e'=>(by have:=flat_get zJ 18 jG fs _ x 0 hx (by omega);rw [e'] at this;cases this);obtain ⟨bp,op,hq,-⟩:=hrx.lt hnx;obtain ⟨dx,hdx⟩:∃ d,x.x.id=d:=⟨_,rfl⟩
   have hid1:zAH xs dx < mm:=by
    have h9:=zIa (xs:=xs) (x:=x.x) (by rw [← HL.out.2.2.2.2.2];exact List.mem_map_of_mem hxm)
    rwa [hdx,Hxl.out] at h9
   obtain ⟨ix,hix⟩:∃ ix,zAH xs dx=ix:=⟨_,rfl⟩;have hix2:zAH (xs ++ ys) dx=ix:=(by rw [zFO (by rw [Hxl.out];exact hid1),hix]);rw [hix] at hid1;obtain ⟨oR,hoR⟩:∃ o,(zFD (xs.take (ix+1))).2=o:=⟨_,rfl⟩;have hoR2:(zFD ((xs ++ ys).take (ix+1))).2=oR:=by rw [List.take_append_of_le_length (by rw [Hxl.out];omega)];exact hoR
   have HC1:Hid (∀ w,Only [] w3 w→Calls Tryz.prog 33 #[.slice q mm k,idV dx] w fun e w'=>e=.returned (.tuple #[xN oR,.nilIface])∧Only [] w w'):=Lib.hid (fun w hw=>by
    have h9:=zBy q mm k fs dx w HL.out.1 hmk hk63 (HL.out.2.1.zB hw) (fun m hm=>(HL.out.2.2.2.1 m hm).1.zB hw) HL.out.2.2.2.2.1 (by rw [HL.out.2.2.2.2.2,hix];exact hid1)
    rwa [HL.out.2.2.2.2.2,hix,hoR] at h9)
   have HC2:Hid (∀ w,Only [] w3 w→Calls Tryz.prog 33 #[.slice qa na ka,idV dx] w fun e w'=>e=.returned (.tuple #[xN oR,.nilIface])∧Only [] w w'):=Lib.hid (fun w hw=>by
    have h9:=zBy qa na ka zs dx w HA.out.1 HA.out.2.2.2.2.2.2.1 HA.out.2.2.2.2.2.2.2 (HA.out.2.1.zB hw) (fun m hm=>(HA.out.2.2.2.1 m hm).1.zB hw) HA.out.2.2.2.2.1 (by rw [HA.out.2.2.2.2.2.1,hix2];omega)
    rwa [HA.out.2.2.2.2.2.1,hix2,hoR2] at h9)
   have HC3:Hid (∀ w,Only [] w3 w→Calls Tryz.prog 45 #[.slice q mm k,idV dx] w fun e w'=>e=.returned (.tuple #[.int .i64 ((ix+1:Nat):Int),.nilIface])∧Only [] w w'):=Lib.hid (fun w hw=>by
    have h9:=zBM q mm k fs dx w HL.out.1 (by omega) (HL.out.2.1.zB hw) (by rw [HL.out.2.2.2.2.2,hix];exact hid1)
    rwa [HL.out.2.2.2.2.2,hix] at h9)
   have HC4:Hid (∀ w,Only [] w3 w→Calls Tryz.prog 45 #[.slice qa na ka,idV dx] w fun e w'=>e=.returned (.tuple #[.int .i64 ((ix+1:Nat):Int),.nilIface])∧Only [] w w'):=Lib.hid (fun w hw=>by
    have h9:=zBM qa na ka zs dx w HA.out.1 (by omega) (HA.out.2.1.zB hw) (by rw [HA.out.2.2.2.2.2.1,hix2];omega)
    rwa [HA.out.2.2.2.2.2.1,hix2] at h9)
   obtain ⟨sx,hsx⟩:∃ s:Int,((ix+1:Nat):Int)=s:=⟨_,rfl⟩;rw [hsx] at HC3 HC4;have Hq:=Lib.hid hq;have hld:(Instr.loadAt 36 (.pointer (some ⟨bp,op+i * 18,none⟩))).run Tryz.prog wr=.ok (lmV x) wr:=(by rw [hq] at hrx;exact vN hrx hx);obtain ⟨VX,hVX⟩:∃ v,lmV x=v:=⟨_,rfl⟩;rw [hVX] at hld;have HVX:=Lib.hid hVX;have Hld:=Lib.hid hld;have Hdx:=Lib.hid hdx;clear hx hxm hrx hnx hdx hid1 hix hix2 hoR hoR2 hsx hld hVX;clear hq;obtain rfl:=Hq.out;obtain ⟨wx,hwx⟩:∃ wx,wx=wr.alloc (.cells #[.int .i64 0,.int .i64 0,.int .i64 0,.int .i64 0,.string ⟨#[]⟩,.string ⟨#[]⟩,.int .i64 0,.int .i64 0,.int .i64 0,.int .i64 0,.int .i64 0,.int .i64 0,.int .i64 0,.string ⟨#[]⟩,.int .i64 0,.slice none 0 0,.int .i64 0,.int .i64 0] 36):=⟨_,rfl⟩
   have owx:Only [] wr wx:=(by rw [hwx];exact Only.alloc _ _);have rwx:Row wx wr.heap.size 36 [.int .i64 0,.int .i64 0,.int .i64 0,.int .i64 0,.string ⟨#[]⟩,.string ⟨#[]⟩,.int .i64 0,.int .i64 0,.int .i64 0,.int .i64 0,.int .i64 0,.int .i64 0,.int .i64 0,.string ⟨#[]⟩,.int .i64 0,.slice none 0 0,.int .i64 0,.int .i64 0]:=by rw [hwx];exact Row.zV _ _ _ _ rfl
   have st1:(Instr.storeAt 36 (.pointer (some ⟨wr.heap.size,0,none⟩)) VX).run Tryz.prog wx=.ok () (wx.setRow wr.heap.size (zJ x).toArray):=by
    rw [← HVX.out];exact rwx.storeAt (P:=Tryz.prog) (us:=zJ x) vO rfl (vC x)
   have rw11':=rwx.setRow (zJ x);have ow11':=Only.setRow wx wr.heap.size (zJ x).toArray;obtain ⟨w11,hw11⟩:∃ w11,w11=wx.setRow wr.heap.size (zJ x).toArray:=⟨_,rfl⟩;rw [← hw11] at st1 rw11' ow11';rw [hwx] at st1;have ow11:Only [] wr w11:=owx.zX ow11' (by simp);have Rw11:=Lib.hid rw11';have Ow11:=Lib.hid ow11;have Hst1:=Lib.hid st1;clear hwx owx rwx st1 rw11' ow11' hw11 ow11
   go_upto_region 16 with (first | ((with_reducible show wpList _ _ _ _ _ _);refine jL (ty:=36) (x:=.tmp 89) rfl rfl rfl Hld.out ?_) | ((with_reducible show wpList _ _ _ _ _ _);refine jR (ty:=36) (x:=.tmp 11) (y:=.tmp 90) rfl rfl rfl rfl Hst1.out ?_))
   have OW:=Lib.hid (HO.out.zC Ow11.out);have rW:=Rw11.out;have b1:=rW.cell (i:=1) rfl;have b2:=rW.cell (i:=2) rfl;have b3:=rW.cell (i:=3) rfl;rw [Hdx.out] at b1 b2 b3;have HB:Hid (∀ w,Only [] w11 w→w.cell? ⟨wr.heap.size,1,none⟩=some (.int .i64 dx.node)∧w.cell? ⟨wr.heap.size,2,none⟩=some (.int .i64 dx.boot)∧w.cell? ⟨wr.heap.size,3,none⟩=some (.int .i64 dx.seq)):=Lib.hid (fun w hw=>⟨hw.cell b1 (by simp),hw.cell b2 (by simp),hw.cell b3 (by simp)⟩);have h1:=HC1.out w11 OW.out;unfold idV at h1;have H1:=Lib.hid h1;clear h1 rW Hst1 Hld HO Rw11 Ow11
   go_wp2_with fail;refine H1.out.mono ?_;rintro e w12 ⟨rfl,o12⟩;rw [show xN oR=.agg #[.int .i64 oR.code,.string (str oR.etag)] from rfl];clear H1 b1 b2 b3
   go_upto_region 17 with (fail)
   obtain ⟨w13,hw13⟩:∃ w13,w13=w12.alloc (.cells #[.int .i64 oR.code,.string (str oR.etag)] 38):=⟨_,rfl⟩;have oa:Only [] w12 w13:=(by rw [hw13];exact Only.alloc _ _);have sa:w13.heap.size=w12.heap.size+1:=(by rw [hw13];simp);have ra:Row w13 w12.heap.size 38 [.int .i64 oR.code,.string (str oR.etag)]:=(by rw [hw13];exact Row.zV _ _ _ _ rfl);rw [← hw13];have OW13:=Lib.hid (OW.out.zC (o12.zC oa));have OB13:=Lib.hid (o12.zC oa);have RA:=Lib.hid ra;obtain ⟨b1,b2,b3⟩:=HB.out w13 OB13.out;have h1:=HC2.out w13 OW13.out;unfold idV at h1;have H1:=Lib.hid h1
   clear h1 hw13 oa sa ra o12 OW;go_wp2_with fail;refine H1.out.mono ?_;rintro e w14 ⟨rfl,o14⟩;rw [show xN oR=.agg #[.int .i64 oR.code,.string (str oR.etag)] from rfl];clear H1 b1 b2 b3
   go_upto_region 18 with (fail)
   obtain ⟨w15,hw15⟩:∃ w15,w15=w14.alloc (.cells #[.int .i64 oR.code,.string (str oR.etag)] 38):=⟨_,rfl⟩;have oa:Only [] w14 w15:=(by rw [hw15];exact Only.alloc _ _);have sa:w15.heap.size=w14.heap.size+1:=(by rw [hw15];simp);have ra:Row w15 w14.heap.size 38 [.int .i64 oR.code,.string (str oR.etag)]:=(by rw [hw15];exact Row.zV _ _ _ _ rfl);rw [← hw15];have OW15:=Lib.hid (OW13.out.zC (o14.zC oa));have OB15:=Lib.hid (OB13.out.zC (o14.zC oa));have RB:=Lib.hid (RA.out.zB (o14.zC oa));have RC:=Lib.hid ra;obtain ⟨b1,b2,b3⟩:=HB.out w15 OB15.out
   have h1:=HC3.out w15 OW15.out;unfold idV at h1;have H1:=Lib.hid h1;clear h1 hw15 oa sa ra o14 OW13 OB13 RA;go_wp2_with fail;refine H1.out.mono ?_;rintro e w16 ⟨rfl,o16⟩;have OW16:=Lib.hid (OW15.out.zC o16);have OB16:=Lib.hid (OB15.out.zC o16);have RB2:=Lib.hid (RB.out.zB o16);have RC2:=Lib.hid (RC.out.zB o16);clear H1 b1 b2 b3;obtain ⟨b1,b2,b3⟩:=HB.out w16 OB16.out;have h1:=HC4.out w16 OW16.out;unfold idV at h1;have H1:=Lib.hid h1;clear h1 o16 OW15 OB15 RB RC;go_wp2_with fail;refine H1.out.mono ?_;rintro e w17 ⟨rfl,o17⟩;have OW17:=Lib.hid (OW16.out.zC o17)
   have rb:=RB2.out.zB o17;have rc:=RC2.out.zB o17;have p0:=rb.cell (i:=0) rfl;have p1:=rb.cell (i:=1) rfl;have q0:=rc.cell (i:=0) rfl;have q1:=rc.cell (i:=1) rfl;have hq:=fun w=>zJk 9998 oR oR w;unfold xN at hq;simp only [decide_eq_true (rfl:oR=oR)] at hq;clear H1 b1 b2 b3 rb rc o17 OW16 OB16 RB2 RC2 HB HC1 HC2 HC3 HC4;go_wp2_with fail;refine ⟨⟨i+1,by go_num,by omega,OW17⟩,?_⟩
   simp [intOf];omega
  ·obtain rfl:i=mm:=(by omega);go_wp2_with fail
   go_ret
   exact ⟨rfl,HO3.out.zC HO.out⟩
end
end Go.Proofs.YtfeglnpmpgipiaaGreatDoor
