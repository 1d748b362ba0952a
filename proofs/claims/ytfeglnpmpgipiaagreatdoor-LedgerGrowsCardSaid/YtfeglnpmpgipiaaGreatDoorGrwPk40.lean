/- GrwPk, part 40: InForm10W. -/
import Derived.Test.YtfeglnpmpgipiaaGreatDoorGrwPk39
set_option linter.unusedVariables false
set_option maxRecDepth 100000
set_option linter.unusedSimpArgs false
namespace Go.Proofs.YtfeglnpmpgipiaaGreatDoor
section
open Go.RowKit
theorem zBq {m z z':zS} {b b':Bool} (hid:zAq m.x.id.node m.x.id.boot m.x.id.seq) (hm:zJA m z b) (hs:Sw m z z' b b') (ht:zIJ m z') (hb:b'=true):xJ m.x∧m.x.parts.length≤16:=by
 have hb0:=hs.ok hb;have hz:z.x.parts=[]:=(by have:=hm.zz;exact congrArg (fun c:zS=>c.x.parts) this);have hpl:m.x.kind≠7→m.x.parts.length=0:=fun h=>(by rw [← ht.parts,hs.pl h,hz];rfl);refine ⟨⟨hs.klo,hs.khi,hid.1,hid.2.1,hm.bk hb0 (hs.bk.symm.trans ht.bucket),hm.ky hb0 (hs.ky.symm.trans ht.key),hs.pc hb,hs.part hb,fun h=>(hs.prt hb h).1,fun h=>(hs.prt hb h).2,ht.tt.1,ht.tt.2,ht.dd.1,ht.dd.2⟩,?_⟩
 by_cases h7:m.x.kind=7
 ·exact zCG (hs.prt hb h7).2.1 (hs.prt hb h7).2.2
 ·have:=hpl h7;omega
set_option maxHeartbeats 16000000 in
theorem zEc (m:zS) (w0:World) (hm:jS w0 m) (hs:zBn m) :
  Calls Tryz.prog 21 #[lmV m] w0 fun e w'=>∃ v,e=.returned (.bool v)∧(v=true→xJ m.x∧m.x.parts.length≤16)∧Only [] w0 w':=by
 go_enter Tryz.func21,Tryz.ntmps21
 refine zFw _ m w0 ?_ ?_
 ·intro a w' h1 h2 h3;exact bodyPost_ret (results_tmp rfl _ _ _) h2 ⟨false,by rw [Array.getD_eq_getD_getElem?] at h1;simp only [Array.getD_eq_getD_getElem?];rw [h1],fun h=>absurd h (by decide),h3⟩
 ·intro u9 u10 u11 u12 u13 u14 u15 u16 u17 X Z w1 hne rX rZ o1 hzl hid;refine zFd _ m X Z w1 hne rX rZ hs ?_;intro v5 v6 v18 v19 v20 v21 v22 v23 v24 v25 v26 v27 v28 v29 v30 v31 v32 v33 v34 v35 v36 v37 v38 v39 v40 v41 v42 v43 v44 v45 v46 v47 v48 v49 v50 b z w2 rX2 rZ2 o2 mid
  have hend:∀ (a:Act) (v:Bool) (w w':World),a.tmps.getD 2 undef=.bool v→a.defers=[]→(v=true→xJ m.x∧m.x.parts.length≤16)→Only [Z] w2 w→Only [] w w' →
    bodyPost Tryz.prog Tryz.f21 (fun e w'=>∃ v,e=.returned (.bool v)∧(v=true→xJ m.x∧m.x.parts.length≤16)∧Only [] w0 w') .ret a w':=by
   intro a v w w' h1 h2 h3 h4 h5;refine bodyPost_ret (results_tmp rfl _ _ _) h2 ⟨v,by rw [Array.getD_eq_getD_getElem?] at h1;simp only [Array.getD_eq_getD_getElem?];rw [h1],h3,?_⟩;exact (o1.zY (o2.trans (h4.zC h5) (fun i hi _=>hi)) (by simp;exact hzl))
  have hsw:m.x.kind=3∨m.x.kind=6∨m.x.kind=7∨(m.x.kind≠3∧m.x.kind≠6∧m.x.kind≠7):=by omega
  have hpz:m.x.parts≠[]→∀ z∈blk m.p,z≠Z:=fun hne2 z hz e=>by
   obtain ⟨b1,off,hp,hb⟩:=hm.1.lt (fun e2=>hne2 (by simpa [jU] using e2));rw [hp] at hz
   simp [blk] at hz
   omega
  have hm2:jS w2 m:=by
   by_cases hpe:m.x.parts=[]
   ·exact ⟨.inl (by rw [hpe];rfl),hm.2⟩
   ·exact (hm.zB o1).only o2 (fun z hz hc=>hpz hpe z hz (by simpa using hc))
  rcases hsw with hk | hk | hk | hk
  ·refine zGo zAO m z X Z b w2 hne rX2 rZ2 hs hk ?_;intro s7 s8 s51 s52 s53 s54 s55 s56 s57 s58 s59 s60 s61 s62 s63 s64 s65 s66 s67 s68 s69 s70 s71 s72 s73 s74 s75 s76 s77 s78 s79 s80 s81 s82 s83 s84 s85 s86 s87 s88 s89 s90 s91 s92 s93 s94 s95 s96 s97 s98 s99 s100 s101 s102 s103 s104 s105 s106 s107 s108 s109 s110 s111 s112 s113 s114 s115 s116 s117 s118 s119 s120 s121 s122 s123 s124 s125 s126 s127 s128 s129 s130 s131 s132 s133 s134 s135 s136 s137 s138 s139 s140 s141 s142 s143 s144 s145 s146 s147 s148 s149 s150 s151 s152 s153 s154 s155 s156 s157 s158 s159 s160 s161 s162 s163 s164 s165 s166 s167 s168 s169 s170 s171 s172 s173 s174 s175 s176 s177 s178 s179 s180 b' z' w3 rX3 rZ3 o3 sw
   refine zAY X Z m z' b' w3 rX3 rZ3 ?_;intro a v w4 h1 h2 h3 h4;exact hend a v w3 w4 h1 h2 (fun hv=>zBq hid mid sw (h3 hv).2 (h3 hv).1) o3 h4
  ·refine zHA zAO m z X Z b w2 hne rX2 rZ2 hs hk ?_;intro s7 s8 s51 s52 s53 s54 s55 s56 s57 s58 s59 s60 s61 s62 s63 s64 s65 s66 s67 s68 s69 s70 s71 s72 s73 s74 s75 s76 s77 s78 s79 s80 s81 s82 s83 s84 s85 s86 s87 s88 s89 s90 s91 s92 s93 s94 s95 s96 s97 s98 s99 s100 s101 s102 s103 s104 s105 s106 s107 s108 s109 s110 s111 s112 s113 s114 s115 s116 s117 s118 s119 s120 s121 s122 s123 s124 s125 s126 s127 s128 s129 s130 s131 s132 s133 s134 s135 s136 s137 s138 s139 s140 s141 s142 s143 s144 s145 s146 s147 s148 s149 s150 s151 s152 s153 s154 s155 s156 s157 s158 s159 s160 s161 s162 s163 s164 s165 s166 s167 s168 s169 s170 s171 s172 s173 s174 s175 s176 s177 s178 s179 s180 b' z' w3 rX3 rZ3 o3 sw
   refine zAY X Z m z' b' w3 rX3 rZ3 ?_;intro a v w4 h1 h2 h3 h4;exact hend a v w3 w4 h1 h2 (fun hv=>zBq hid mid sw (h3 hv).2 (h3 hv).1) o3 h4
  ·refine zHU zAO m z X Z b w2 hne rX2 rZ2 hs hm2 hpz hk ?_;intro s7 s8 s51 s52 s53 s54 s55 s56 s57 s58 s59 s60 s61 s62 s63 s64 s65 s66 s67 s68 s69 s70 s71 s72 s73 s74 s75 s76 s77 s78 s79 s80 s81 s82 s83 s84 s85 s86 s87 s88 s89 s90 s91 s92 s93 s94 s95 s96 s97 s98 s99 s100 s101 s102 s103 s104 s105 s106 s107 s108 s109 s110 s111 s112 s113 s114 s115 s116 s117 s118 s119 s120 s121 s122 s123 s124 s125 s126 s127 s128 s129 s130 s131 s132 s133 s134 s135 s136 s137 s138 s139 s140 s141 s142 s143 s144 s145 s146 s147 s148 s149 s150 s151 s152 s153 s154 s155 s156 s157 s158 s159 s160 s161 s162 s163 s164 s165 s166 s167 s168 s169 s170 s171 s172 s173 s174 s175 s176 s177 s178 s179 s180 b' z' w3 rX3 rZ3 o3 sw
   refine zAY X Z m z' b' w3 rX3 rZ3 ?_;intro a v w4 h1 h2 h3 h4;exact hend a v w3 w4 h1 h2 (fun hv=>zBq hid mid sw (h3 hv).2 (h3 hv).1) o3 h4
  ·refine zGh zAO m z X Z b w2 hne rX2 rZ2 hk ?_ ?_
   ·intro a w4 h1 h2 h4;exact hend a false w2 w4 h1 h2 (fun h=>absurd h (by decide)) (Only.refl _ _) h4
   intro s7 s8 s51 s52 s53 s54 s55 s56 s57 s58 s59 s60 s61 s62 s63 s64 s65 s66 s67 s68 s69 s70 s71 s72 s73 s74 s75 s76 s77 s78 s79 s80 s81 s82 s83 s84 s85 s86 s87 s88 s89 s90 s91 s92 s93 s94 s95 s96 s97 s98 s99 s100 s101 s102 s103 s104 s105 s106 s107 s108 s109 s110 s111 s112 s113 s114 s115 s116 s117 s118 s119 s120 s121 s122 s123 s124 s125 s126 s127 s128 s129 s130 s131 s132 s133 s134 s135 s136 s137 s138 s139 s140 s141 s142 s143 s144 s145 s146 s147 s148 s149 s150 s151 s152 s153 s154 s155 s156 s157 s158 s159 s160 s161 s162 s163 s164 s165 s166 s167 s168 s169 s170 s171 s172 s173 s174 s175 s176 s177 s178 s179 s180 b' z' w3 rX3 rZ3 o3 sw
   refine zAY X Z m z' b' w3 rX3 rZ3 ?_;intro a v w4 h1 h2 h3 h4;exact hend a v w3 w4 h1 h2 (fun hv=>zBq hid mid sw (h3 hv).2 (h3 hv).1) o3 h4
end
end Go.Proofs.YtfeglnpmpgipiaaGreatDoor
