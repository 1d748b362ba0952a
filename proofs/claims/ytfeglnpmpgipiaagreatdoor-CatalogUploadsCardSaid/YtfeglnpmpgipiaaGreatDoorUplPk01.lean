/- UplPk: LawUplE. -/
import Derived.Test.YtfeglnpmpgipiaaGreatDoorUplPk00
import Derived.Test.YtfeglnpmpgipiaaGreatDoorCatPk41
import Derived.Test.YtfeglnpmpgipiaaGreatDoorUplPk05
import Derived.Test.YtfeglnpmpgipiaaGreatDoorCatPk28
import Derived.Test.YtfeglnpmpgipiaaGreatDoorCatPk45
import Derived.Test.YtfeglnpmpgipiaaGreatDoorCatPk40
import Derived.Test.YtfeglnpmpgipiaaGreatDoorCatPk06
import Derived.Test.YtfeglnpmpgipiaaGreatDoorCatPk02
import Derived.Test.YtfeglnpmpgipiaaGreatDoorCatPk13
set_option linter.unusedVariables false
set_option maxRecDepth 100000
set_option linter.unusedSimpArgs false
section
set_option linter.unusedVariables false
set_option linter.unusedSimpArgs false
set_option maxRecDepth 100000
namespace Go.Proofs.YtfeglnpmpgipiaaGreatDoor
open Go.RowKit
def stC (m:LCmd):LCmd:=⟨⟨5,m.x.id,m.x.bucket,m.x.key,⟨0,0,0⟩,⟨⟨0,0,0⟩,0,[]⟩,0,[],0,0⟩,none,0⟩
def abC (m:LCmd):LCmd:=⟨⟨8,m.x.id,m.x.bucket,m.x.key,m.x.id,⟨⟨0,0,0⟩,0,[]⟩,0,[],0,0⟩,none,0⟩
def paC (m:LCmd) (i k:Int):LCmd:=⟨⟨m.x.kind,⟨m.x.id.node,m.x.id.boot,i⟩,m.x.bucket,m.x.key,m.x.id,⟨⟨m.x.id.node,m.x.id.boot,i⟩,m.x.piece.size,m.x.piece.etag⟩,k,m.x.parts,m.x.time,m.x.days⟩,m.p,m.c⟩
theorem stC_v (m:LCmd):lmV (stC m)=.agg #[.int .i64 5,.int .i64 m.x.id.node,.int .i64 m.x.id.boot,.int .i64 m.x.id.seq,.string (str m.x.bucket),.string (str m.x.key),.int .i64 0,.int .i64 0,.int .i64 0,.int .i64 0,.int .i64 0,.int .i64 0,.int .i64 0,.string ⟨#[]⟩,.int .i64 0,.slice none 0 0,.int .i64 0,.int .i64 0]:=rfl
theorem abC_v (m:LCmd):lmV (abC m)=.agg #[.int .i64 8,.int .i64 m.x.id.node,.int .i64 m.x.id.boot,.int .i64 m.x.id.seq,.string (str m.x.bucket),.string (str m.x.key),.int .i64 m.x.id.node,.int .i64 m.x.id.boot,.int .i64 m.x.id.seq,.int .i64 0,.int .i64 0,.int .i64 0,.int .i64 0,.string ⟨#[]⟩,.int .i64 0,.slice none 0 0,.int .i64 0,.int .i64 0]:=rfl
theorem stC_ok {m:LCmd} (h:CmdOk m.x):CmdOk (stC m).x :=
 ⟨by simp [stC],by simp [stC],h.nlo,h.nhi,h.buck,h.key,fun e=>by simp [stC] at e,fun e=>by simp [stC] at e,fun e=>by simp [stC] at e,fun e=>by simp [stC] at e,by simp [stC],by simp [stC],by simp [stC],by simp [stC]⟩
theorem abC_ok {m:LCmd} (h:CmdOk m.x):CmdOk (abC m).x :=
 ⟨by simp [abC],by simp [abC],h.nlo,h.nhi,h.buck,h.key,fun e=>by simp [abC] at e,fun e=>by simp [abC] at e,fun e=>by simp [abC] at e,fun e=>by simp [abC] at e,by simp [abC],by simp [abC],by simp [abC],by simp [abC]⟩
theorem paC_ok {m:LCmd} (h:CmdOk m.x) (h6:m.x.kind=6) (i:Int) {k:Int} (hk:1≤k∧k≤16):CmdOk (paC m i k).x :=
 ⟨h.klo,h.khi,h.nlo,h.nhi,h.buck,h.key,(fun _=>⟨(h.pc (.inr h6)).lo,(h.pc (.inr h6)).hi,(h.pc (.inr h6)).et⟩),(fun _=>hk),(fun (e:m.x.kind=7)=>absurd (h6.symm.trans e) (by decide)),(fun (e:m.x.kind=7)=>absurd (h6.symm.trans e) (by decide)),h.tlo,h.thi,h.dlo,h.dhi⟩
theorem stC_at (m:LCmd) (w:World):CmAt w (stC m):=⟨.inl rfl,fun _=>⟨rfl,rfl⟩,Nat.le_refl _⟩
theorem abC_at (m:LCmd) (w:World):CmAt w (abC m):=⟨.inl rfl,fun _=>⟨rfl,rfl⟩,Nat.le_refl _⟩
noncomputable def uplB:Code:=(Tryz.f6.body).getD .skip
set_option maxHeartbeats 16000000 in
theorem uplEnd {K:Act→World→Prop} {c0 c1 c2 c3 c5 c6 c7 c9 c10 c11 c12 c13 c14 c15 c16 c20 c21 c22 c23 c24 c25 c26 c27 c28 c29 c30 c31 c32 c33 c34 c35 c36 c37 c38 c39 c40 c41 c42 c43 c44 c45 c46 c47 c48 c49 c50 c51 c52 c53 c54 c55 c56 c57 c58 c59 c60 c61 c62 c63 c64 c65 c66 c67 c68 c69 c70 c71 c72 c73 c74 c75 c76 c77 c78 c79 c80 c81 c82 c83 c84 c85 c86 c87 c88 c89 c90 c91 c92 c93 c94 c95 c96 c97 c98 c99 c100 c101 c102 c103 c104 c105 c106 c107 c108 c109 c110 c111 c112 c113 c114 c115 c116 c117 c118 c119 c120 c121 c122 c123 c124 c125 c126 c127 c128 c129 c130 c131 c132 c133 c134 c135 c136 c137 c138 c139 c140 c141 c142 c143 c144 c145 c146 c147 c148 c149 c150 c151 c152 c153 c154 c155 c156 c157 c158 c159 c160 c161 c162 c163 c164 c165 c166 c167 c168 c169 c170 c171 c172 c173 c174 c175 c176 c177 c178 c179 c180 c181 c182 c183 c184 c185 c186 c187 c188 c189 c190 c191 c192 c193 c194 c195 c196 c197 c198 c199 c200 c201 c202 c203 c204 c205 c206 c207 c208 c209 c210 c211 c212 c213 c214:Value} {w0 w3 w6 w10:World} {m:LCmd} {L:LCat} {b:CBuck} {x:LObj} {X XA D nb nf kx np:Nat} {pb:Option Addr} {th:Bool}
  (hK:∀ a w,(sndN 14 uplB).wp Tryz.prog (bodyPost Tryz.prog Tryz.f6 fun e w'=>e=.returned (.bool true)∧Only [] w0 w') a w→K a w) (HO10:Hid (Only [] w0 w10)) (HO610:Hid (Only [] w6 w10)) (HI:Hid (∃ L6 ps,Row w10 D 29 (lcCells L6)∧CatOwn w10 w6.heap.size L6∧D ∉ L6.fp∧CatOk L6.cat∧L6.cat=upC L.cat b m.x.bucket m.x.id m.x.key ps)) (HXB:Hid (Row w6 XA 48 [.string (str x.o.key),.int .i64 x.o.size,.string (str x.o.etag),.int .i64 x.o.time,.slice x.q kx x.c]))
  (HXO:Hid (x.o=(findO L.cat m.x.bucket m.x.key).getD zObj∧ObAt w6 x∧loV x=.agg #[.string (str x.o.key),.int .i64 x.o.size,.string (str x.o.etag),.int .i64 x.o.time,.slice x.q kx x.c]∧(findO L.cat m.x.bucket m.x.key).isSome=th))
  (HRX6:Hid (Row w6 X 29 [.slice pb nb L.cb,.slice L.pf nf L.cf])) (HRM6:Hid (Row w6 w0.heap.size 36 [.int .i64 m.x.kind,.int .i64 m.x.id.node,.int .i64 m.x.id.boot,.int .i64 m.x.id.seq,.string (str m.x.bucket),.string (str m.x.key),.int .i64 m.x.upload.node,.int .i64 m.x.upload.boot,.int .i64 m.x.upload.seq,.int .i64 m.x.piece.blob.node,.int .i64 m.x.piece.blob.boot,.int .i64 m.x.piece.blob.seq,.int .i64 m.x.piece.size,.string (str m.x.piece.etag),.int .i64 m.x.part,.slice m.p np m.c,.int .i64 m.x.time,.int .i64 m.x.days])) (HA6:Hid (CatAt w6 L)) (HA3:Hid (CatOwn w3 (X+1) L∧CatOk L.cat)) (HLV:Hid (lcV L=.agg #[.slice pb nb L.cb,.slice L.pf nf L.cf]))
  (Hok:Hid (CmdOk m.x∧m.x.parts.length≤16∧m.x.kind=6)) (HB:Hid (atL CBuck.name lt L.cat.bucks m.x.bucket=some b∧∀ u∈b.upls,u.id≠m.x.id)) :
  (fstC (sndN 13 uplB)).wp Tryz.prog (Exit.then K (bodyPost Tryz.prog Tryz.f6 fun e w'=>e=.returned (.bool true)∧Only [] w0 w')) ⟨(c0 :: c1 :: c2 :: c3 :: .pointer (some ⟨w0.heap.size,0,none⟩) :: c5 :: c6 :: c7 :: .pointer (some ⟨X,0,none⟩) :: c9 :: c10 :: c11 :: c12 :: c13 :: c14 :: c15 :: c16 :: .pointer (some ⟨XA,0,none⟩) :: .bool th :: .pointer (some ⟨D,0,none⟩) :: c20 :: c21 :: c22 :: c23 :: c24 :: c25 :: c26 :: c27 :: c28 :: c29 :: c30 :: c31 :: c32 :: c33 :: c34 :: c35 :: c36 :: c37 :: c38 :: c39 :: c40 :: c41 :: c42 :: c43 :: c44 :: c45 :: c46 :: c47 :: c48 :: c49 :: c50 :: c51 :: c52 :: c53 :: c54 :: c55 :: c56 :: c57 :: c58 :: c59 :: c60 :: c61 :: c62 :: c63 :: c64 :: c65 :: c66 :: c67 :: c68 :: c69 :: c70 :: c71 :: c72 :: c73 :: c74 :: c75 :: c76 :: c77 :: c78 :: c79 :: c80 :: c81 :: c82 :: c83 :: c84 :: c85 :: c86 :: c87 :: c88 :: c89 :: c90 :: c91 :: c92 :: c93 :: c94 :: c95 :: c96 :: c97 :: c98 :: c99 :: c100 :: c101 :: c102 :: c103 :: c104 :: c105 :: c106 :: c107 :: c108 :: c109 :: c110 :: c111 :: c112 :: c113 :: c114 :: c115 :: c116 :: c117 :: c118 :: c119 :: c120 :: c121 :: c122 :: c123 :: c124 :: c125 :: c126 :: c127 :: c128 :: c129 :: c130 :: c131 :: c132 :: c133 :: c134 :: c135 :: c136 :: c137 :: c138 :: c139 :: c140 :: c141 :: c142 :: c143 :: c144 :: c145 :: c146 :: c147 :: c148 :: c149 :: c150 :: c151 :: c152 :: c153 :: c154 :: c155 :: c156 :: c157 :: c158 :: c159 :: c160 :: c161 :: c162 :: c163 :: c164 :: c165 :: c166 :: c167 :: c168 :: c169 :: c170 :: c171 :: c172 :: c173 :: c174 :: c175 :: c176 :: c177 :: c178 :: c179 :: c180 :: c181 :: c182 :: c183 :: c184 :: c185 :: c186 :: c187 :: c188 :: c189 :: c190 :: c191 :: c192 :: c193 :: c194 :: c195 :: c196 :: c197 :: c198 :: c199 :: c200 :: c201 :: c202 :: c203 :: c204 :: c205 :: c206 :: c207 :: c208 :: c209 :: c210 :: c211 :: c212 :: c213 :: c214 :: []).toArray,[]⟩ w10:=by
 conv at hK=>intro a w;arg 1;arg 2;whnf
 obtain ⟨L6,ps,hrow6,hown6,hD6,hok6,hcat6⟩:=HI.out;have hO610:=HO610.out;obtain ⟨nb6,hnb6⟩:∃ k,L6.bs.length=k:=⟨_,rfl⟩;obtain ⟨nf6,hnf6⟩:∃ k,L6.fs.length=k:=⟨_,rfl⟩;have hLV6:lcV L6=.agg #[.slice L6.pb nb6 L6.cb,.slice L6.pf nf6 L6.cf]:=(by unfold lcV;rw [hnb6,hnf6]);have hrD:Row w10 D 29 [.slice L6.pb nb6 L6.cb,.slice L6.pf nf6 L6.cf]:=(by rw [← hnb6,← hnf6];exact hrow6);have HrD:=Lib.hid hrD;have HRM10:=Lib.hid (HRM6.out.only0 hO610);have a0:=hrD.cell (i:=0) rfl;have a1:=hrD.cell (i:=1) rfl;have b4:=HRM10.out.cell (i:=4) rfl;have b5:=HRM10.out.cell (i:=5) rfl
 have hfo:findO L6.cat m.x.bucket m.x.key=findO L.cat m.x.bucket m.x.key:=(by rw [hcat6];exact upC_findO HA3.out.2 HB.out.1 _ _ _ _);have hob:=catObject_any L6 m.x.bucket m.x.key w10 hown6.at hok6;rw [hLV6] at hob;have Hob:=Lib.hid hob;have HL6:Hid (CatOwn w10 w6.heap.size L6∧CatOk L6.cat∧L6.cat=upC L.cat b m.x.bucket m.x.id m.x.key ps∧findO L6.cat m.x.bucket m.x.key=findO L.cat m.x.bucket m.x.key):=Lib.hid ⟨hown6,hok6,hcat6,hfo⟩;have HLV6:=Lib.hid hLV6;clear HI hO610 hrow6 hown6 hD6 hok6 hcat6 hfo hob hrD hLV6 hnb6 hnf6
 conv=>arg 2;whnf
 go_wp2_with fail;refine Hob.out.mono ?_;rintro e w11 ⟨y,rfl,hyo,hyown,o11⟩;obtain ⟨ky,hky⟩:∃ k,y.o.pcs.length=k:=⟨_,rfl⟩;have hyV:loV y=.agg #[.string (str y.o.key),.int .i64 y.o.size,.string (str y.o.etag),.int .i64 y.o.time,.slice y.q ky y.c]:=(by unfold loV;rw [hky]);rw [hyV,HL6.out.2.2.2,HXO.out.2.2.2];rw [HL6.out.2.2.2] at hyo;have Hyo:=Lib.hid hyo;clear hyo;clear Hob hky a0 a1 b4 b5
 go_upto_region 41 with (fail)
 obtain ⟨w12,hw12⟩:∃ w12,w12=w11.alloc (.cells #[.string (str y.o.key),.int .i64 y.o.size,.string (str y.o.etag),.int .i64 y.o.time,.slice y.q ky y.c] 48):=⟨_,rfl⟩;have o12:Only [] w11 w12:=(by rw [hw12];exact Only.alloc _ _);have s12:w12.heap.size=w11.heap.size+1:=(by rw [hw12];simp);have r12:Row w12 w11.heap.size 48 [.string (str y.o.key),.int .i64 y.o.size,.string (str y.o.etag),.int .i64 y.o.time,.slice y.q ky y.c]:=(by rw [hw12];exact Row.newOf _ _ _ _ rfl);rw [← hw12];have hyo:=Hyo.out;have o1012:=o11.trans0 o12;have HYB:=Lib.hid r12;have HYO:Hid (y.o=(findO L.cat m.x.bucket m.x.key).getD zObj∧ObAt w12 y∧loV y=.agg #[.string (str y.o.key),.int .i64 y.o.size,.string (str y.o.etag),.int .i64 y.o.time,.slice y.q ky y.c]):=Lib.hid ⟨hyo,.own (OwnK.only0 hyown o12),hyV⟩
 have HRM12:=Lib.hid (HRM10.out.only0 o1012);have HrD12:=Lib.hid (HrD.out.only0 o1012);have hap:=catApply_any L6 (abC m) w12 (HL6.out.1.only0 o1012).at HL6.out.2.1 (abC_ok Hok.out.1) (abC_at m w12);rw [HLV6.out,abC_v] at hap;have HAp:=Lib.hid hap;have Ho1012:=Lib.hid o1012;have a0:=HrD12.out.cell (i:=0) rfl;have a1:=HrD12.out.cell (i:=1) rfl;have b1:=HRM12.out.cell (i:=1) rfl;have b2:=HRM12.out.cell (i:=2) rfl;have b3:=HRM12.out.cell (i:=3) rfl;have b4:=HRM12.out.cell (i:=4) rfl;have b5:=HRM12.out.cell (i:=5) rfl;clear hw12 o11 o12 s12 r12 o1012 hap hyo hyown hyV
 go_wp2_with fail;refine HAp.out.mono ?_;rintro e w13 ⟨L8,oc8,rfl,hown8,happ8,o13⟩;have hupa:=upC_abort smL HA3.out.2 (p:=(abC m).x) rfl HB.out.1 HB.out.2 ps;have hc6:L6.cat=upC L.cat b (abC m).x.bucket (abC m).x.upload (abC m).x.key ps:=HL6.out.2.2.1;rw [hc6,hupa] at happ8;obtain ⟨hcat8,hoc8⟩:=Prod.mk.inj happ8;subst hoc8;obtain ⟨nb8,hnb8⟩:∃ k,L8.bs.length=k:=⟨_,rfl⟩;obtain ⟨nf8,hnf8⟩:∃ k,L8.fs.length=k:=⟨_,rfl⟩;have hLV8:lcV L8=.agg #[.slice L8.pb nb8 L8.cb,.slice L8.pf nf8 L8.cf]:=(by unfold lcV;rw [hnb8,hnf8]);rw [hLV8,show oucV ⟨0,[]⟩=.agg #[.int .i64 0,.string ⟨#[]⟩] from rfl]
 clear HAp a0 a1 b1 b2 b3 b4 b5 hupa hc6 happ8
 go_upto_region 42 with (fail)
 obtain ⟨w14,hw14⟩:∃ w14,w14=w13.alloc (.cells #[.slice L8.pb nb8 L8.cb,.slice L8.pf nf8 L8.cf] 29):=⟨_,rfl⟩;have o14:Only [] w13 w14:=(by rw [hw14];exact Only.alloc _ _);have s14:w14.heap.size=w13.heap.size+1:=(by rw [hw14];simp);have r14:Row w14 w13.heap.size 29 [.slice L8.pb nb8 L8.cb,.slice L8.pf nf8 L8.cf]:=(by rw [hw14];exact Row.newOf _ _ _ _ rfl);obtain ⟨w15,hw15⟩:∃ w15,w15=w14.alloc (.cells #[.int .i64 0,.string ⟨#[]⟩] 38):=⟨_,rfl⟩;have o15:Only [] w14 w15:=(by rw [hw15];exact Only.alloc _ _);have r15:Row w15 (w13.heap.size+1) 38 [.int .i64 0,.string ⟨#[]⟩]:=by rw [← s14,hw15];exact Row.newOf _ _ _ _ rfl
 rw [← hw14,← hw15];have o1215:=o13.trans0 (o14.trans0 o15);have o615:=HO610.out.trans0 (Ho1012.out.trans0 o1215);have HO15:=Lib.hid (HO10.out.trans0 (Ho1012.out.trans0 o1215))
 have hS1:=sameOb_any x y w15 (HXO.out.2.1.only0 o615) (HYO.out.2.1.only0 o1215) (by
  rw [HXO.out.1]
  cases hfx:findO L.cat m.x.bucket m.x.key with
  | none=>simp [zObj]
  | some ob =>
   unfold findO findB at hfx;rw [HB.out.1] at hfx;have h1:=(atL_iff linB HA3.out.2.bs).1 HB.out.1;have h2:=(atL_iff linB (HA3.out.2.bk b h1.1).os).1 hfx;have:=((HA3.out.2.bk b h1.1).ob ob h2.1).len
   simp;omega)
 rw [decide_eq_true (show x.o=y.o from HXO.out.1.trans HYO.out.1.symm),HXO.out.2.2.1,HYO.out.2.2] at hS1
 have hown8b:=(hown8.only0 (o14.trans0 o15)).at
 have HS2:Hid (∀ w,Only [] w15 w→Calls Tryz.prog 18 #[.agg #[.slice pb nb L.cb,.slice L.pf nf L.cf],.agg #[.slice L8.pb nb8 L8.cb,.slice L8.pf nf8 L8.cf]] w fun e w'=>e=.returned (.bool true)∧Only [] w w'):=Lib.hid (fun w hw=>by
  have h9:=sameCt_any L L8 w (HA6.out.only0 (o615.trans0 hw)) (hown8b.only0 hw) (small_of HA3.out.2);rw [decide_eq_true hcat8.symm,HLV.out,hLV8] at h9
  exact h9)
 have HS1:=Lib.hid hS1;have HE:Hid (∀ w,Only [] w15 w→Row w X 29 [.slice pb nb L.cb,.slice L.pf nf L.cf]∧Row w w13.heap.size 29 [.slice L8.pb nb8 L8.cb,.slice L8.pf nf8 L8.cf]∧Row w (w13.heap.size+1) 38 [.int .i64 0,.string ⟨#[]⟩]):=Lib.hid (fun w hw=>⟨HRX6.out.only0 (o615.trans0 hw),r14.only0 (o15.trans0 hw),r15.only0 hw⟩);have hxb:=HXB.out.only0 o615;have hyb:=HYB.out.only0 o1215;have p0:=hxb.cell (i:=0) rfl;have p1:=hxb.cell (i:=1) rfl;have p2:=hxb.cell (i:=2) rfl;have p3:=hxb.cell (i:=3) rfl;have p4:=hxb.cell (i:=4) rfl;have q0:=hyb.cell (i:=0) rfl
 have q1:=hyb.cell (i:=1) rfl;have q2:=hyb.cell (i:=2) rfl;have q3:=hyb.cell (i:=3) rfl;have q4:=hyb.cell (i:=4) rfl;clear hw14 hw15 o13 o14 o15 s14 r14 r15 o1215 o615 hS1 hown8b hcat8 hLV8 hnb8 hnf8 hxb hyb hown8;have hthq:(th == th)=true:=(by cases th <;> rfl);go_wp2_with fail;refine HS1.out.mono ?_;rintro e w16 ⟨rfl,o16⟩;have hE:=HE.out w16 o16;have hS2:=HS2.out w16 o16;have HS3:=Lib.hid hS2;have HO16:=Lib.hid (HO15.out.trans0 o16);have c0:=hE.1.cell (i:=0) rfl;have c1:=hE.1.cell (i:=1) rfl;have d0:=hE.2.1.cell (i:=0) rfl;have d1:=hE.2.1.cell (i:=1) rfl
 have g0:=hE.2.2.cell (i:=0) rfl;clear HS1 HS2 HE hE hS2 o16 p0 p1 p2 p3 p4 q0 q1 q2 q3 q4;go_wp2_with fail;refine HS3.out.mono ?_;rintro e w17 ⟨rfl,o17⟩;have HO17:=Lib.hid (HO16.out.trans0 o17);clear HS3 o17;go_wp2_with fail
 go_ret
 exact ⟨rfl,HO17.out⟩
end Go.Proofs.YtfeglnpmpgipiaaGreatDoor
end
