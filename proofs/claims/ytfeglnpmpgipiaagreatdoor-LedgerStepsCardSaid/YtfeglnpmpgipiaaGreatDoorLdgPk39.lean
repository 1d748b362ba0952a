/- LdgPk, part 39: InForm10L, InForm10C, InForm10W, SameBkW. -/
import Derived.Test.YtfeglnpmpgipiaaGreatDoorLdgPk14
import Derived.Test.YtfeglnpmpgipiaaGreatDoorLdgPk37
set_option linter.unusedVariables false
set_option maxRecDepth 100000
set_option linter.unusedSimpArgs false
namespace Go.Proofs.YtfeglnpmpgipiaaGreatDoor
section
open Go.RowKit
set_option maxHeartbeats 16000000 in
theorem zHI {Q:Exit→Act→World→Prop} {c0 c2 c5 c6 c7 c8 c9 c10 c11 c12 c13 c14 c15 c16 c17 c18 c19 c20 c21 c22 c23 c24 c25 c26 c27 c28 c29 c30 c31 c32 c33 c34 c35 c36 c37 c38 c39 c40 c41 c42 c43 c44 c45 c46 c47 c48 c49 c50 c51 c52 c53 c54 c55 c56 c57 c58 c59 c60 c61 c62 c63 c64 c65 c66 c67 c68 c69 c70 c71 c72 c73 c74 c75 c76 c77 c78 c79 c80 c81 c82 c83 c84 c85 c86 c87 c88 c89 c90 c91 c92 c93 c94 c95 c96 c97 c98 c99 c100 c101 c102 c103 c104 c105 c106 c107 c108 c109 c110 c111 c112 c113 c114 c115 c116 c117 c118 c119 c120 c121 c122 c123 c124 c125 c126 c127 c128 c129 c130 c131 c132 c133 c134 c135 c136 c137 c138 c139 c140 c141 c142 c143 c144 c145 c146 c147 c148 c149 c150 c151 c152 c153 c154 c155 c156 c157 c158 c159 c160 c161 c162 c163 c164 c165 c166 c167 c168 c169 c170 c171 c172 c173 c174 c175 c176 c177 c178 c179 c180 c181 c182 c183 c184 c185 c186 c187 c188 c189 c190 c191 c192 c193 c194 c195 c196 c197 c198 c199 c200 c201 c202 c203 c204 c205 c206 c207 c208 c209 c210 c211 c212 c213 c214 c215 c216 c217 c218 c219 c220 c221 c222 c223 c224 c225 c226 c227 c228 c229 c230 c231 c232 c233 c234 c235 c236 c237 c238 c239 c240 c241 c242 c243 c244 c245 c246 c247 c248 c249 c250 c251 c252 c253 c254:Value} (Y:Code) (m z:zT) (X Z:Nat) (b:Bool) (w0:World) (hne:X≠Z) (rX:Row w0 X 36 (zJ m)) (rZ:Row w0 Z 36 (zJ z)) (hs:zBx m) (hk:m.x.kind=3)
  (hexit:∀ (u7 u8 u51 u52 u53 u54 u55 u56 u57 u58 u59 u60 u61 u62 u63 u64 u65 u66 u67 u68 u69 u70 u71 u72 u73 u74 u75 u76 u77 u78 u79 u80 u81 u82 u83 u84 u85 u86 u87 u88 u89 u90 u91 u92 u93 u94 u95 u96 u97 u98 u99 u100 u101 u102 u103 u104 u105 u106 u107 u108 u109 u110 u111 u112 u113 u114 u115 u116 u117 u118 u119 u120 u121 u122 u123 u124 u125 u126 u127 u128 u129 u130 u131 u132 u133 u134 u135 u136 u137 u138 u139 u140 u141 u142 u143 u144 u145 u146 u147 u148 u149 u150 u151 u152 u153 u154 u155 u156 u157 u158 u159 u160 u161 u162 u163 u164 u165 u166 u167 u168 u169 u170 u171 u172 u173 u174 u175 u176 u177 u178 u179 u180:Value) (b':Bool) (z':zT) (w':World),Row w' X 36 (zJ m)→Row w' Z 36 (zJ z')→Only [Z] w0 w'→Sw m z z' b b'→Y.wp Tryz.prog Q ⟨(c0 :: .pointer (some ⟨X,0,none⟩) :: c2 :: .pointer (some ⟨Z,0,none⟩) :: .bool b' :: c5 :: c6 :: u7 :: u8 :: c9 :: c10 :: c11 :: c12 :: c13 :: c14 :: c15 :: c16 :: c17 :: c18 :: c19 :: c20 :: c21 :: c22 :: c23 :: c24 :: c25 :: c26 :: c27 :: c28 :: c29 :: c30 :: c31 :: c32 :: c33 :: c34 :: c35 :: c36 :: c37 :: c38 :: c39 :: c40 :: c41 :: c42 :: c43 :: c44 :: c45 :: c46 :: c47 :: c48 :: c49 :: c50 :: u51 :: u52 :: u53 :: u54 :: u55 :: u56 :: u57 :: u58 :: u59 :: u60 :: u61 :: u62 :: u63 :: u64 :: u65 :: u66 :: u67 :: u68 :: u69 :: u70 :: u71 :: u72 :: u73 :: u74 :: u75 :: u76 :: u77 :: u78 :: u79 :: u80 :: u81 :: u82 :: u83 :: u84 :: u85 :: u86 :: u87 :: u88 :: u89 :: u90 :: u91 :: u92 :: u93 :: u94 :: u95 :: u96 :: u97 :: u98 :: u99 :: u100 :: u101 :: u102 :: u103 :: u104 :: u105 :: u106 :: u107 :: u108 :: u109 :: u110 :: u111 :: u112 :: u113 :: u114 :: u115 :: u116 :: u117 :: u118 :: u119 :: u120 :: u121 :: u122 :: u123 :: u124 :: u125 :: u126 :: u127 :: u128 :: u129 :: u130 :: u131 :: u132 :: u133 :: u134 :: u135 :: u136 :: u137 :: u138 :: u139 :: u140 :: u141 :: u142 :: u143 :: u144 :: u145 :: u146 :: u147 :: u148 :: u149 :: u150 :: u151 :: u152 :: u153 :: u154 :: u155 :: u156 :: u157 :: u158 :: u159 :: u160 :: u161 :: u162 :: u163 :: u164 :: u165 :: u166 :: u167 :: u168 :: u169 :: u170 :: u171 :: u172 :: u173 :: u174 :: u175 :: u176 :: u177 :: u178 :: u179 :: u180 :: c181 :: c182 :: c183 :: c184 :: c185 :: c186 :: c187 :: c188 :: c189 :: c190 :: c191 :: c192 :: c193 :: c194 :: c195 :: c196 :: c197 :: c198 :: c199 :: c200 :: c201 :: c202 :: c203 :: c204 :: c205 :: c206 :: c207 :: c208 :: c209 :: c210 :: c211 :: c212 :: c213 :: c214 :: c215 :: c216 :: c217 :: c218 :: c219 :: c220 :: c221 :: c222 :: c223 :: c224 :: c225 :: c226 :: c227 :: c228 :: c229 :: c230 :: c231 :: c232 :: c233 :: c234 :: c235 :: c236 :: c237 :: c238 :: c239 :: c240 :: c241 :: c242 :: c243 :: c244 :: c245 :: c246 :: c247 :: c248 :: c249 :: c250 :: c251 :: c252 :: c253 :: c254 :: []).toArray,[]⟩ w') :
  Code.wp Tryz.prog (Code.seq (yC 8) Y) Q ⟨(c0 :: .pointer (some ⟨X,0,none⟩) :: c2 :: .pointer (some ⟨Z,0,none⟩) :: .bool b :: c5 :: c6 :: c7 :: c8 :: c9 :: c10 :: c11 :: c12 :: c13 :: c14 :: c15 :: c16 :: c17 :: c18 :: c19 :: c20 :: c21 :: c22 :: c23 :: c24 :: c25 :: c26 :: c27 :: c28 :: c29 :: c30 :: c31 :: c32 :: c33 :: c34 :: c35 :: c36 :: c37 :: c38 :: c39 :: c40 :: c41 :: c42 :: c43 :: c44 :: c45 :: c46 :: c47 :: c48 :: c49 :: c50 :: c51 :: c52 :: c53 :: c54 :: c55 :: c56 :: c57 :: c58 :: c59 :: c60 :: c61 :: c62 :: c63 :: c64 :: c65 :: c66 :: c67 :: c68 :: c69 :: c70 :: c71 :: c72 :: c73 :: c74 :: c75 :: c76 :: c77 :: c78 :: c79 :: c80 :: c81 :: c82 :: c83 :: c84 :: c85 :: c86 :: c87 :: c88 :: c89 :: c90 :: c91 :: c92 :: c93 :: c94 :: c95 :: c96 :: c97 :: c98 :: c99 :: c100 :: c101 :: c102 :: c103 :: c104 :: c105 :: c106 :: c107 :: c108 :: c109 :: c110 :: c111 :: c112 :: c113 :: c114 :: c115 :: c116 :: c117 :: c118 :: c119 :: c120 :: c121 :: c122 :: c123 :: c124 :: c125 :: c126 :: c127 :: c128 :: c129 :: c130 :: c131 :: c132 :: c133 :: c134 :: c135 :: c136 :: c137 :: c138 :: c139 :: c140 :: c141 :: c142 :: c143 :: c144 :: c145 :: c146 :: c147 :: c148 :: c149 :: c150 :: c151 :: c152 :: c153 :: c154 :: c155 :: c156 :: c157 :: c158 :: c159 :: c160 :: c161 :: c162 :: c163 :: c164 :: c165 :: c166 :: c167 :: c168 :: c169 :: c170 :: c171 :: c172 :: c173 :: c174 :: c175 :: c176 :: c177 :: c178 :: c179 :: c180 :: c181 :: c182 :: c183 :: c184 :: c185 :: c186 :: c187 :: c188 :: c189 :: c190 :: c191 :: c192 :: c193 :: c194 :: c195 :: c196 :: c197 :: c198 :: c199 :: c200 :: c201 :: c202 :: c203 :: c204 :: c205 :: c206 :: c207 :: c208 :: c209 :: c210 :: c211 :: c212 :: c213 :: c214 :: c215 :: c216 :: c217 :: c218 :: c219 :: c220 :: c221 :: c222 :: c223 :: c224 :: c225 :: c226 :: c227 :: c228 :: c229 :: c230 :: c231 :: c232 :: c233 :: c234 :: c235 :: c236 :: c237 :: c238 :: c239 :: c240 :: c241 :: c242 :: c243 :: c244 :: c245 :: c246 :: c247 :: c248 :: c249 :: c250 :: c251 :: c252 :: c253 :: c254 :: []).toArray,[]⟩ w0:=by
 have HE:=Lib.hid hexit;have HX:=Lib.hid rX;have HZ:=Lib.hid rZ;have k0:=rX.cell (i:=0) rfl;rw [hk] at k0;have Hk:=Lib.hid hk;clear hexit rX rZ hk;refine wp_seq_k fun K0 h0=>?_
 conv=>arg 2;whnf
 go_upto_region 23 with (fail)
 clear k0;have hRr:∀ x,(RZ Z 36 [9,10,11,12,13,16]) x x:=fun x=>RZ.refl _ _ _ x;have hRt:∀ x b e,(RZ Z 36 [9,10,11,12,13,16]) x b→(RZ Z 36 [9,10,11,12,13,16]) b e→(RZ Z 36 [9,10,11,12,13,16]) x e:=fun _ _ _ h k=>h.trans k;have hRd:(RZ Z 36 [9,10,11,12,13,16]) w0 w0.drew:=RZ.of0 (Only.drew _)
 have hRs:∀ j w,qA [(5,RZ Z 36 [9,10,11,12,13]),(7,RZ Z 36 [16])] j w w:=qA.refl (by
  intro x hx w;simp only [List.mem_cons,List.not_mem_nil,or_false] at hx
  rcases hx with rfl | rfl <;> exact RZ.refl _ _ _ _)
 have hC0:∀ d∈[5,7],(fun (_:Nat) (_:World)=>True) d w0.drew:=fun _ _=>trivial;refine zW (RZ Z 36 [9,10,11,12,13,16]) (qA [(5,RZ Z 36 [9,10,11,12,13]),(7,RZ Z 36 [16])]) (fun (_:Nat) (_:World)=>True) [5,7] [[(1,none)],[(66,some 0)],[(1,none)],[(68,some 0)],[(3,none)],[(70,some 0),(67,some 3)],[(3,none)],[(71,some 0),(69,some 3)]] [] [2,0] [none,none,none,none,none,none,none,none,none,none,none,none,none,none,none,none,none,none,none,none,none,none,none,none,none,none,none,none,none,none,none,none,none,none,none,none,none,none,none,none,none,none,none,none,none,none,none,none,none,none,none,none,none,none,none,none,none,none,none,none,none,none,none,none,none,none,some 66,some 67,some 68,some 69,some 70,some 71,none,none,none,none,none,none,none,none,none,none,none,none,none,none,none,none,none,none,none,none,none,none,none,none,none,none,none,none,none,none,none,none,none,none,none,none,none,none,none,none,none,none,none,none,none,none,none,none,none,none,none,none,none,none,none,none,none,none,none,none,none,none,none,none,none,none,none,none,none,none,none,none,none,none,none,none,none,none,none,none,none,none,none,none,none,none,none,none,none,none,none,none,none,none,none,none,none,none,none,none,none,none,none,none,none,none,none,none,none,none,none,none,none,none,none,none,none,none,none,none,none,none,none,none,none,none,none,none,none,none,none,none,none,none,none,none,none,none,none,none,none,none,none,none,none,none,none,none,none,none,none,none,none,none,none,none,none,none,none,none,none,none,none,none,none,none,none,none,none,none,none,none,none,none,none,none,none,none,none,none,none,none,none] (by kernel_rfl) rfl (by kernel_rfl) hRr hRt hRs hRd hC0 (by kernel_rfl) (by kernel_rfl) ?_
 apply zF
 ·rintro a w hR hC ⟨(e1:_=_),-⟩;refine zA rfl fun K hK=>?_;go_simp;exact hK _ _ rfl ⟨hRr _,hRs _ _,fun _ _ _ _ h=>h⟩
 apply zF
 ·rintro a w hR hC ⟨(e66:_=_),-⟩;refine zA rfl fun K hK=>?_;have hx:=HX.out.only hR.1 (by simp;exact hne);have y9:=hx.cell (i:=9) rfl;have y10:=hx.cell (i:=10) rfl;have y11:=hx.cell (i:=11) rfl;have y12:=hx.cell (i:=12) rfl;have y13:=hx.cell (i:=13) rfl;go_simp;exact hK _ _ rfl ⟨hRr _,hRs _ _,fun _ _ _ _ h=>h⟩
 apply zF
 ·rintro a w hR hC ⟨(e1:_=_),-⟩;refine zA rfl fun K hK=>?_;go_simp;exact hK _ _ rfl ⟨hRr _,hRs _ _,fun _ _ _ _ h=>h⟩
 apply zF
 ·rintro a w hR hC ⟨(e68:_=_),-⟩;refine zA rfl fun K hK=>?_;have hx:=HX.out.only hR.1 (by simp;exact hne);have y16:=hx.cell (i:=16) rfl;go_simp;exact hK _ _ rfl ⟨hRr _,hRs _ _,fun _ _ _ _ h=>h⟩
 apply zF
 ·rintro a w hR hC ⟨(e3:_=_),-⟩;refine zA rfl fun K hK=>?_;go_simp;exact hK _ _ rfl ⟨hRr _,hRs _ _,fun _ _ _ _ h=>h⟩
 refine ⟨StC Z 36 [(9,.int .i64 m.x.piece.blob.node),(10,.int .i64 m.x.piece.blob.boot),(11,.int .i64 m.x.piece.blob.seq),(12,.int .i64 m.x.piece.size),(13,.string (str m.x.piece.etag))],zN StC.stable (by intro x hx hk;simp only [List.mem_cons,List.not_mem_nil,or_false] at hx;rcases hx with rfl | rfl <;> first | (refine StC.zAZ ?_;simp;done) | exact Bool.noConfusion (hk.symm.trans (by kernel_rfl:_=true))),fun a w hR hC hf=>?_,?_⟩
 ·obtain ⟨e70,e67,-⟩:=hf;replace e70:a.tmps.getD 70 undef=_:=e70;replace e67:a.tmps.getD 67 undef=_:=e67;refine zA rfl fun K hK=>?_;obtain ⟨vs,rz,hl,-⟩:=hR.2 _ HZ.out;have hl2:vs.length=18:=hl;obtain ⟨v9,h9⟩:∃ v,vs[9]?=some v:=⟨_,List.getElem?_eq_getElem (by omega)⟩;have z9:=rz.cell h9;have zf9:=rz.free 9;obtain ⟨v10,h10⟩:∃ v,vs[10]?=some v:=⟨_,List.getElem?_eq_getElem (by omega)⟩;have z10:=rz.cell h10;have zf10:=rz.free 10;obtain ⟨v11,h11⟩:∃ v,vs[11]?=some v:=⟨_,List.getElem?_eq_getElem (by omega)⟩;have z11:=rz.cell h11
  have zf11:=rz.free 11;obtain ⟨v12,h12⟩:∃ v,vs[12]?=some v:=⟨_,List.getElem?_eq_getElem (by omega)⟩;have z12:=rz.cell h12;have zf12:=rz.free 12;obtain ⟨v13,h13⟩:∃ v,vs[13]?=some v:=⟨_,List.getElem?_eq_getElem (by omega)⟩;have z13:=rz.cell h13;have zf13:=rz.free 13;have hst:=StC.sets rz [(9,.int .i64 m.x.piece.blob.node),(10,.int .i64 m.x.piece.blob.boot),(11,.int .i64 m.x.piece.blob.seq),(12,.int .i64 m.x.piece.size),(13,.string (str m.x.piece.etag))] (by simp) (by simp;omega);clear hl hl2 h9 h10 h11 h12 h13;have Hst:=Lib.hid hst;clear hst;go_simp
  exact hK undef _ Hst.out.1 ⟨Hst.out.2.mono (by simp),Hst.out.2,fun _ _ _ _ _=>trivial⟩
 apply zF
 ·rintro a w hR hC ⟨(e3:_=_),-⟩;refine zA rfl fun K hK=>?_;go_simp;exact hK _ _ rfl ⟨hRr _,hRs _ _,fun _ _ _ _ h=>h⟩
 refine ⟨StC Z 36 [(16,.int .i64 m.x.time)],zN StC.stable (by intro x hx hk;simp only [List.mem_cons,List.not_mem_nil,or_false] at hx;rcases hx with rfl | rfl <;> first | (refine StC.zAZ ?_;simp;done) | exact Bool.noConfusion (hk.symm.trans (by kernel_rfl:_=true))),fun a w hR hC hf=>?_,?_⟩
 ·obtain ⟨e71,e69,-⟩:=hf;replace e71:a.tmps.getD 71 undef=_:=e71;replace e69:a.tmps.getD 69 undef=_:=e69;refine zA rfl fun K hK=>?_;obtain ⟨vs,rz,hl,-⟩:=hR.2 _ HZ.out;have hl2:vs.length=18:=hl;obtain ⟨v16,h16⟩:∃ v,vs[16]?=some v:=⟨_,List.getElem?_eq_getElem (by omega)⟩;have z16:=rz.cell h16;have zf16:=rz.free 16;have hst:=StC.sets rz [(16,.int .i64 m.x.time)] (by simp) (by simp;omega);clear hl hl2 h16;have Hst:=Lib.hid hst;clear hst;go_simp;exact hK undef _ Hst.out.1 ⟨Hst.out.2.mono (by simp),Hst.out.2,fun _ _ _ _ _=>trivial⟩
 intro f3 w3 hR3 hf hl3;dsimp only [qD];obtain ⟨l5,l7,-⟩:=hl3;replace l5:∃ v,(StC Z 36 [(9,.int .i64 m.x.piece.blob.node),(10,.int .i64 m.x.piece.blob.boot),(11,.int .i64 m.x.piece.blob.seq),(12,.int .i64 m.x.piece.size),(13,.string (str m.x.piece.etag))]) v w3:=l5;replace l7:∃ v,(StC Z 36 [(16,.int .i64 m.x.time)]) v w3:=l7;obtain ⟨u5,s5⟩:=l5;obtain ⟨u7,s7⟩:=l7;have rz3:Row w3 Z 36 (zJ ⟨{ z.x with piece:=m.x.piece,time:=m.x.time },z.p,z.c⟩):=zDJ ((s5.app s7)) HZ.out hR3 (by simp);have HX3:=Lib.hid (HX.out.only hR3.1 (by simp;exact hne))
 have HZ3:=Lib.hid rz3;have HO3:=Lib.hid hR3.1;clear hR3 rz3 hRr hRt hRd hRs hC0 s5 s7
 cases b with
 | false =>
  go_wp2_with fail;exact HE.out _ _ _ _ _ _ _ _ _ _ _ _ _ _ _ _ _ _ _ _ _ _ _ _ _ _ _ _ _ _ _ _ _ _ _ _ _ _ _ _ _ _ _ _ _ _ _ _ _ _ _ _ _ _ _ _ _ _ _ _ _ _ _ _ _ _ _ _ _ _ _ _ _ _ _ _ _ _ _ _ _ _ _ _ _ _ _ _ _ _ _ _ _ _ _ _ _ _ _ _ _ _ _ _ _ _ _ _ _ _ _ _ _ _ _ _ _ _ _ _ _ _ _ _ _ _ _ _ _ _ _ _ false ⟨{ z.x with piece:=m.x.piece,time:=m.x.time },z.p,z.c⟩ _ HX3.out HZ3.out HO3.out ⟨by have:=Hk.out;omega,by have:=Hk.out;omega,rfl,rfl,fun h=>absurd h (by decide),fun h=>absurd h (by decide),fun h=>absurd h (by decide),fun h=>absurd h (by decide),fun _=>rfl⟩
 | true =>
  have x9:=HX3.out.cell (i:=9) rfl;have x10:=HX3.out.cell (i:=10) rfl;have x11:=HX3.out.cell (i:=11) rfl;have x12:=HX3.out.cell (i:=12) rfl;have x13:=HX3.out.cell (i:=13) rfl;have hpc:=zCZ m.x.piece w3 hs.et;unfold pcV at hpc;go_wp2_with fail;(with_reducible refine hpc.mono ?_);clear hpc x9 x10 x11 x12 x13;rintro e w4 ⟨v,rfl,hv,o4⟩;have HX4:=Lib.hid (HX3.out.zB o4);have HZ4:=Lib.hid (HZ3.out.zB o4);have HO4:=Lib.hid (HO3.out.zC o4);have Hv:=Lib.hid hv;clear o4 hv HX3 HZ3 HO3
  cases v with
  | false =>
   go_wp2_with fail;exact HE.out _ _ _ _ _ _ _ _ _ _ _ _ _ _ _ _ _ _ _ _ _ _ _ _ _ _ _ _ _ _ _ _ _ _ _ _ _ _ _ _ _ _ _ _ _ _ _ _ _ _ _ _ _ _ _ _ _ _ _ _ _ _ _ _ _ _ _ _ _ _ _ _ _ _ _ _ _ _ _ _ _ _ _ _ _ _ _ _ _ _ _ _ _ _ _ _ _ _ _ _ _ _ _ _ _ _ _ _ _ _ _ _ _ _ _ _ _ _ _ _ _ _ _ _ _ _ _ _ _ _ _ _ false ⟨{ z.x with piece:=m.x.piece,time:=m.x.time },z.p,z.c⟩ _ HX4.out HZ4.out HO4.out ⟨by have:=Hk.out;omega,by have:=Hk.out;omega,rfl,rfl,fun h=>absurd h (by decide),fun h=>absurd h (by decide),fun h=>absurd h (by decide),fun h=>absurd h (by decide),fun _=>rfl⟩
  | true =>
   have x1:=HX4.out.cell (i:=1) rfl;have x2:=HX4.out.cell (i:=2) rfl;have x3:=HX4.out.cell (i:=3) rfl;have x9:=HX4.out.cell (i:=9) rfl;have x10:=HX4.out.cell (i:=10) rfl;have x11:=HX4.out.cell (i:=11) rfl;have x14:=HX4.out.cell (i:=14) rfl;have q:=zJK m.x.piece.blob m.x.id;unfold idV at q
   by_cases hbi:m.x.piece.blob=m.x.id
   ·simp only [decide_eq_true hbi] at q;clear hbi;go_wp2_with fail;exact HE.out _ _ _ _ _ _ _ _ _ _ _ _ _ _ _ _ _ _ _ _ _ _ _ _ _ _ _ _ _ _ _ _ _ _ _ _ _ _ _ _ _ _ _ _ _ _ _ _ _ _ _ _ _ _ _ _ _ _ _ _ _ _ _ _ _ _ _ _ _ _ _ _ _ _ _ _ _ _ _ _ _ _ _ _ _ _ _ _ _ _ _ _ _ _ _ _ _ _ _ _ _ _ _ _ _ _ _ _ _ _ _ _ _ _ _ _ _ _ _ _ _ _ _ _ _ _ _ _ _ _ _ _ true ⟨{ z.x with piece:=m.x.piece,time:=m.x.time },z.p,z.c⟩ _ HX4.out HZ4.out HO4.out ⟨by have:=Hk.out;omega,by have:=Hk.out;omega,rfl,rfl,fun _=>rfl,fun _ _=>Hv.out trivial,fun _ h=>by have:=Hk.out;omega,fun _ h=>by have:=Hk.out;omega,fun _=>rfl⟩
   ·simp only [decide_eq_false hbi] at q;clear hbi;go_wp2_with fail;exact HE.out _ _ _ _ _ _ _ _ _ _ _ _ _ _ _ _ _ _ _ _ _ _ _ _ _ _ _ _ _ _ _ _ _ _ _ _ _ _ _ _ _ _ _ _ _ _ _ _ _ _ _ _ _ _ _ _ _ _ _ _ _ _ _ _ _ _ _ _ _ _ _ _ _ _ _ _ _ _ _ _ _ _ _ _ _ _ _ _ _ _ _ _ _ _ _ _ _ _ _ _ _ _ _ _ _ _ _ _ _ _ _ _ _ _ _ _ _ _ _ _ _ _ _ _ _ _ _ _ _ _ _ _ false ⟨{ z.x with piece:=m.x.piece,time:=m.x.time },z.p,z.c⟩ _ HX4.out HZ4.out HO4.out ⟨by have:=Hk.out;omega,by have:=Hk.out;omega,rfl,rfl,fun h=>absurd h (by decide),fun h=>absurd h (by decide),fun h=>absurd h (by decide),fun h=>absurd h (by decide),fun _=>rfl⟩
set_option maxHeartbeats 16000000 in
theorem zHV {Q:Exit→Act→World→Prop} {c0 c2 c5 c6 c7 c8 c9 c10 c11 c12 c13 c14 c15 c16 c17 c18 c19 c20 c21 c22 c23 c24 c25 c26 c27 c28 c29 c30 c31 c32 c33 c34 c35 c36 c37 c38 c39 c40 c41 c42 c43 c44 c45 c46 c47 c48 c49 c50 c51 c52 c53 c54 c55 c56 c57 c58 c59 c60 c61 c62 c63 c64 c65 c66 c67 c68 c69 c70 c71 c72 c73 c74 c75 c76 c77 c78 c79 c80 c81 c82 c83 c84 c85 c86 c87 c88 c89 c90 c91 c92 c93 c94 c95 c96 c97 c98 c99 c100 c101 c102 c103 c104 c105 c106 c107 c108 c109 c110 c111 c112 c113 c114 c115 c116 c117 c118 c119 c120 c121 c122 c123 c124 c125 c126 c127 c128 c129 c130 c131 c132 c133 c134 c135 c136 c137 c138 c139 c140 c141 c142 c143 c144 c145 c146 c147 c148 c149 c150 c151 c152 c153 c154 c155 c156 c157 c158 c159 c160 c161 c162 c163 c164 c165 c166 c167 c168 c169 c170 c171 c172 c173 c174 c175 c176 c177 c178 c179 c180 c181 c182 c183 c184 c185 c186 c187 c188 c189 c190 c191 c192 c193 c194 c195 c196 c197 c198 c199 c200 c201 c202 c203 c204 c205 c206 c207 c208 c209 c210 c211 c212 c213 c214 c215 c216 c217 c218 c219 c220 c221 c222 c223 c224 c225 c226 c227 c228 c229 c230 c231 c232 c233 c234 c235 c236 c237 c238 c239 c240 c241 c242 c243 c244 c245 c246 c247 c248 c249 c250 c251 c252 c253 c254:Value} (Y:Code) (m z:zT) (X Z:Nat) (b:Bool) (w0:World) (hne:X≠Z) (rX:Row w0 X 36 (zJ m)) (rZ:Row w0 Z 36 (zJ z)) (hs:zBx m) (hk:m.x.kind=6)
  (hexit:∀ (u7 u8 u51 u52 u53 u54 u55 u56 u57 u58 u59 u60 u61 u62 u63 u64 u65 u66 u67 u68 u69 u70 u71 u72 u73 u74 u75 u76 u77 u78 u79 u80 u81 u82 u83 u84 u85 u86 u87 u88 u89 u90 u91 u92 u93 u94 u95 u96 u97 u98 u99 u100 u101 u102 u103 u104 u105 u106 u107 u108 u109 u110 u111 u112 u113 u114 u115 u116 u117 u118 u119 u120 u121 u122 u123 u124 u125 u126 u127 u128 u129 u130 u131 u132 u133 u134 u135 u136 u137 u138 u139 u140 u141 u142 u143 u144 u145 u146 u147 u148 u149 u150 u151 u152 u153 u154 u155 u156 u157 u158 u159 u160 u161 u162 u163 u164 u165 u166 u167 u168 u169 u170 u171 u172 u173 u174 u175 u176 u177 u178 u179 u180:Value) (b':Bool) (z':zT) (w':World),Row w' X 36 (zJ m)→Row w' Z 36 (zJ z')→Only [Z] w0 w'→Sw m z z' b b'→Y.wp Tryz.prog Q ⟨(c0 :: .pointer (some ⟨X,0,none⟩) :: c2 :: .pointer (some ⟨Z,0,none⟩) :: .bool b' :: c5 :: c6 :: u7 :: u8 :: c9 :: c10 :: c11 :: c12 :: c13 :: c14 :: c15 :: c16 :: c17 :: c18 :: c19 :: c20 :: c21 :: c22 :: c23 :: c24 :: c25 :: c26 :: c27 :: c28 :: c29 :: c30 :: c31 :: c32 :: c33 :: c34 :: c35 :: c36 :: c37 :: c38 :: c39 :: c40 :: c41 :: c42 :: c43 :: c44 :: c45 :: c46 :: c47 :: c48 :: c49 :: c50 :: u51 :: u52 :: u53 :: u54 :: u55 :: u56 :: u57 :: u58 :: u59 :: u60 :: u61 :: u62 :: u63 :: u64 :: u65 :: u66 :: u67 :: u68 :: u69 :: u70 :: u71 :: u72 :: u73 :: u74 :: u75 :: u76 :: u77 :: u78 :: u79 :: u80 :: u81 :: u82 :: u83 :: u84 :: u85 :: u86 :: u87 :: u88 :: u89 :: u90 :: u91 :: u92 :: u93 :: u94 :: u95 :: u96 :: u97 :: u98 :: u99 :: u100 :: u101 :: u102 :: u103 :: u104 :: u105 :: u106 :: u107 :: u108 :: u109 :: u110 :: u111 :: u112 :: u113 :: u114 :: u115 :: u116 :: u117 :: u118 :: u119 :: u120 :: u121 :: u122 :: u123 :: u124 :: u125 :: u126 :: u127 :: u128 :: u129 :: u130 :: u131 :: u132 :: u133 :: u134 :: u135 :: u136 :: u137 :: u138 :: u139 :: u140 :: u141 :: u142 :: u143 :: u144 :: u145 :: u146 :: u147 :: u148 :: u149 :: u150 :: u151 :: u152 :: u153 :: u154 :: u155 :: u156 :: u157 :: u158 :: u159 :: u160 :: u161 :: u162 :: u163 :: u164 :: u165 :: u166 :: u167 :: u168 :: u169 :: u170 :: u171 :: u172 :: u173 :: u174 :: u175 :: u176 :: u177 :: u178 :: u179 :: u180 :: c181 :: c182 :: c183 :: c184 :: c185 :: c186 :: c187 :: c188 :: c189 :: c190 :: c191 :: c192 :: c193 :: c194 :: c195 :: c196 :: c197 :: c198 :: c199 :: c200 :: c201 :: c202 :: c203 :: c204 :: c205 :: c206 :: c207 :: c208 :: c209 :: c210 :: c211 :: c212 :: c213 :: c214 :: c215 :: c216 :: c217 :: c218 :: c219 :: c220 :: c221 :: c222 :: c223 :: c224 :: c225 :: c226 :: c227 :: c228 :: c229 :: c230 :: c231 :: c232 :: c233 :: c234 :: c235 :: c236 :: c237 :: c238 :: c239 :: c240 :: c241 :: c242 :: c243 :: c244 :: c245 :: c246 :: c247 :: c248 :: c249 :: c250 :: c251 :: c252 :: c253 :: c254 :: []).toArray,[]⟩ w') :
  Code.wp Tryz.prog (Code.seq (yC 8) Y) Q ⟨(c0 :: .pointer (some ⟨X,0,none⟩) :: c2 :: .pointer (some ⟨Z,0,none⟩) :: .bool b :: c5 :: c6 :: c7 :: c8 :: c9 :: c10 :: c11 :: c12 :: c13 :: c14 :: c15 :: c16 :: c17 :: c18 :: c19 :: c20 :: c21 :: c22 :: c23 :: c24 :: c25 :: c26 :: c27 :: c28 :: c29 :: c30 :: c31 :: c32 :: c33 :: c34 :: c35 :: c36 :: c37 :: c38 :: c39 :: c40 :: c41 :: c42 :: c43 :: c44 :: c45 :: c46 :: c47 :: c48 :: c49 :: c50 :: c51 :: c52 :: c53 :: c54 :: c55 :: c56 :: c57 :: c58 :: c59 :: c60 :: c61 :: c62 :: c63 :: c64 :: c65 :: c66 :: c67 :: c68 :: c69 :: c70 :: c71 :: c72 :: c73 :: c74 :: c75 :: c76 :: c77 :: c78 :: c79 :: c80 :: c81 :: c82 :: c83 :: c84 :: c85 :: c86 :: c87 :: c88 :: c89 :: c90 :: c91 :: c92 :: c93 :: c94 :: c95 :: c96 :: c97 :: c98 :: c99 :: c100 :: c101 :: c102 :: c103 :: c104 :: c105 :: c106 :: c107 :: c108 :: c109 :: c110 :: c111 :: c112 :: c113 :: c114 :: c115 :: c116 :: c117 :: c118 :: c119 :: c120 :: c121 :: c122 :: c123 :: c124 :: c125 :: c126 :: c127 :: c128 :: c129 :: c130 :: c131 :: c132 :: c133 :: c134 :: c135 :: c136 :: c137 :: c138 :: c139 :: c140 :: c141 :: c142 :: c143 :: c144 :: c145 :: c146 :: c147 :: c148 :: c149 :: c150 :: c151 :: c152 :: c153 :: c154 :: c155 :: c156 :: c157 :: c158 :: c159 :: c160 :: c161 :: c162 :: c163 :: c164 :: c165 :: c166 :: c167 :: c168 :: c169 :: c170 :: c171 :: c172 :: c173 :: c174 :: c175 :: c176 :: c177 :: c178 :: c179 :: c180 :: c181 :: c182 :: c183 :: c184 :: c185 :: c186 :: c187 :: c188 :: c189 :: c190 :: c191 :: c192 :: c193 :: c194 :: c195 :: c196 :: c197 :: c198 :: c199 :: c200 :: c201 :: c202 :: c203 :: c204 :: c205 :: c206 :: c207 :: c208 :: c209 :: c210 :: c211 :: c212 :: c213 :: c214 :: c215 :: c216 :: c217 :: c218 :: c219 :: c220 :: c221 :: c222 :: c223 :: c224 :: c225 :: c226 :: c227 :: c228 :: c229 :: c230 :: c231 :: c232 :: c233 :: c234 :: c235 :: c236 :: c237 :: c238 :: c239 :: c240 :: c241 :: c242 :: c243 :: c244 :: c245 :: c246 :: c247 :: c248 :: c249 :: c250 :: c251 :: c252 :: c253 :: c254 :: []).toArray,[]⟩ w0:=by
 have HE:=Lib.hid hexit;have HX:=Lib.hid rX;have HZ:=Lib.hid rZ;have k0:=rX.cell (i:=0) rfl;rw [hk] at k0;have Hk:=Lib.hid hk;clear hexit rX rZ hk;refine wp_seq_k fun K0 h0=>?_
 conv=>arg 2;whnf
 go_upto_region 26 with (fail)
 clear k0;have hRr:∀ x,(RZ Z 36 [9,10,11,12,13,14,6,7,8]) x x:=fun x=>RZ.refl _ _ _ x;have hRt:∀ x b e,(RZ Z 36 [9,10,11,12,13,14,6,7,8]) x b→(RZ Z 36 [9,10,11,12,13,14,6,7,8]) b e→(RZ Z 36 [9,10,11,12,13,14,6,7,8]) x e:=fun _ _ _ h k=>h.trans k;have hRd:(RZ Z 36 [9,10,11,12,13,14,6,7,8]) w0 w0.drew:=RZ.of0 (Only.drew _)
 have hRs:∀ j w,qA [(7,RZ Z 36 [9,10,11,12,13]),(9,RZ Z 36 [14]),(11,RZ Z 36 [6,7,8])] j w w:=qA.refl (by
  intro x hx w;simp only [List.mem_cons,List.not_mem_nil,or_false] at hx
  rcases hx with rfl | rfl | rfl <;> exact RZ.refl _ _ _ _)
 have hC0:∀ d∈[7,9,11],(fun (_:Nat) (_:World)=>True) d w0.drew:=fun _ _=>trivial;refine zW (RZ Z 36 [9,10,11,12,13,14,6,7,8]) (qA [(7,RZ Z 36 [9,10,11,12,13]),(9,RZ Z 36 [14]),(11,RZ Z 36 [6,7,8])]) (fun (_:Nat) (_:World)=>True) [7,9,11] [[(1,none)],[(88,some 0)],[(1,none)],[(90,some 0)],[(1,none)],[(92,some 0)],[(3,none)],[(94,some 0),(89,some 5)],[(3,none)],[(95,some 0),(91,some 5)],[(3,none)],[(96,some 0),(93,some 5)]] [] [4,2,0] [none,none,none,none,none,none,none,none,none,none,none,none,none,none,none,none,none,none,none,none,none,none,none,none,none,none,none,none,none,none,none,none,none,none,none,none,none,none,none,none,none,none,none,none,none,none,none,none,none,none,none,none,none,none,none,none,none,none,none,none,none,none,none,none,none,none,none,none,none,none,none,none,none,none,none,none,none,none,none,none,none,none,none,none,none,none,none,none,some 88,some 89,some 90,some 91,some 92,some 93,some 94,some 95,some 96,none,none,none,none,none,none,none,none,none,none,none,none,none,none,none,none,none,none,none,none,none,none,none,none,none,none,none,none,none,none,none,none,none,none,none,none,none,none,none,none,none,none,none,none,none,none,none,none,none,none,none,none,none,none,none,none,none,none,none,none,none,none,none,none,none,none,none,none,none,none,none,none,none,none,none,none,none,none,none,none,none,none,none,none,none,none,none,none,none,none,none,none,none,none,none,none,none,none,none,none,none,none,none,none,none,none,none,none,none,none,none,none,none,none,none,none,none,none,none,none,none,none,none,none,none,none,none,none,none,none,none,none,none,none,none,none,none,none,none,none,none,none,none,none,none,none,none,none,none,none,none,none,none,none,none,none,none,none] (by kernel_rfl) rfl (by kernel_rfl) hRr hRt hRs hRd hC0 (by kernel_rfl) (by kernel_rfl) ?_
 apply zF
 ·rintro a w hR hC ⟨(e1:_=_),-⟩;refine zA rfl fun K hK=>?_;go_simp;exact hK _ _ rfl ⟨hRr _,hRs _ _,fun _ _ _ _ h=>h⟩
 apply zF
 ·rintro a w hR hC ⟨(e88:_=_),-⟩;refine zA rfl fun K hK=>?_;have hx:=HX.out.only hR.1 (by simp;exact hne);have y9:=hx.cell (i:=9) rfl;have y10:=hx.cell (i:=10) rfl;have y11:=hx.cell (i:=11) rfl;have y12:=hx.cell (i:=12) rfl;have y13:=hx.cell (i:=13) rfl;go_simp;exact hK _ _ rfl ⟨hRr _,hRs _ _,fun _ _ _ _ h=>h⟩
 apply zF
 ·rintro a w hR hC ⟨(e1:_=_),-⟩;refine zA rfl fun K hK=>?_;go_simp;exact hK _ _ rfl ⟨hRr _,hRs _ _,fun _ _ _ _ h=>h⟩
 apply zF
 ·rintro a w hR hC ⟨(e90:_=_),-⟩;refine zA rfl fun K hK=>?_;have hx:=HX.out.only hR.1 (by simp;exact hne);have y14:=hx.cell (i:=14) rfl;go_simp;exact hK _ _ rfl ⟨hRr _,hRs _ _,fun _ _ _ _ h=>h⟩
 apply zF
 ·rintro a w hR hC ⟨(e1:_=_),-⟩;refine zA rfl fun K hK=>?_;go_simp;exact hK _ _ rfl ⟨hRr _,hRs _ _,fun _ _ _ _ h=>h⟩
 apply zF
 ·rintro a w hR hC ⟨(e92:_=_),-⟩;refine zA rfl fun K hK=>?_;have hx:=HX.out.only hR.1 (by simp;exact hne);have y6:=hx.cell (i:=6) rfl;have y7:=hx.cell (i:=7) rfl;have y8:=hx.cell (i:=8) rfl;go_simp;exact hK _ _ rfl ⟨hRr _,hRs _ _,fun _ _ _ _ h=>h⟩
 apply zF
 ·rintro a w hR hC ⟨(e3:_=_),-⟩;refine zA rfl fun K hK=>?_;go_simp;exact hK _ _ rfl ⟨hRr _,hRs _ _,fun _ _ _ _ h=>h⟩
 refine ⟨StC Z 36 [(9,.int .i64 m.x.piece.blob.node),(10,.int .i64 m.x.piece.blob.boot),(11,.int .i64 m.x.piece.blob.seq),(12,.int .i64 m.x.piece.size),(13,.string (str m.x.piece.etag))],zN StC.stable (by intro x hx hk;simp only [List.mem_cons,List.not_mem_nil,or_false] at hx;rcases hx with rfl | rfl | rfl <;> first | (refine StC.zAZ ?_;simp;done) | exact Bool.noConfusion (hk.symm.trans (by kernel_rfl:_=true))),fun a w hR hC hf=>?_,?_⟩
 ·obtain ⟨e94,e89,-⟩:=hf;replace e94:a.tmps.getD 94 undef=_:=e94;replace e89:a.tmps.getD 89 undef=_:=e89;refine zA rfl fun K hK=>?_;obtain ⟨vs,rz,hl,-⟩:=hR.2 _ HZ.out;have hl2:vs.length=18:=hl;obtain ⟨v9,h9⟩:∃ v,vs[9]?=some v:=⟨_,List.getElem?_eq_getElem (by omega)⟩;have z9:=rz.cell h9;have zf9:=rz.free 9;obtain ⟨v10,h10⟩:∃ v,vs[10]?=some v:=⟨_,List.getElem?_eq_getElem (by omega)⟩;have z10:=rz.cell h10;have zf10:=rz.free 10;obtain ⟨v11,h11⟩:∃ v,vs[11]?=some v:=⟨_,List.getElem?_eq_getElem (by omega)⟩;have z11:=rz.cell h11
  have zf11:=rz.free 11;obtain ⟨v12,h12⟩:∃ v,vs[12]?=some v:=⟨_,List.getElem?_eq_getElem (by omega)⟩;have z12:=rz.cell h12;have zf12:=rz.free 12;obtain ⟨v13,h13⟩:∃ v,vs[13]?=some v:=⟨_,List.getElem?_eq_getElem (by omega)⟩;have z13:=rz.cell h13;have zf13:=rz.free 13;have hst:=StC.sets rz [(9,.int .i64 m.x.piece.blob.node),(10,.int .i64 m.x.piece.blob.boot),(11,.int .i64 m.x.piece.blob.seq),(12,.int .i64 m.x.piece.size),(13,.string (str m.x.piece.etag))] (by simp) (by simp;omega);clear hl hl2 h9 h10 h11 h12 h13;have Hst:=Lib.hid hst;clear hst;go_simp
  exact hK undef _ Hst.out.1 ⟨Hst.out.2.mono (by simp),Hst.out.2,fun _ _ _ _ _=>trivial⟩
 apply zF
 ·rintro a w hR hC ⟨(e3:_=_),-⟩;refine zA rfl fun K hK=>?_;go_simp;exact hK _ _ rfl ⟨hRr _,hRs _ _,fun _ _ _ _ h=>h⟩
 refine ⟨StC Z 36 [(14,.int .i64 m.x.part)],zN StC.stable (by intro x hx hk;simp only [List.mem_cons,List.not_mem_nil,or_false] at hx;rcases hx with rfl | rfl | rfl <;> first | (refine StC.zAZ ?_;simp;done) | exact Bool.noConfusion (hk.symm.trans (by kernel_rfl:_=true))),fun a w hR hC hf=>?_,?_⟩
 ·obtain ⟨e95,e91,-⟩:=hf;replace e95:a.tmps.getD 95 undef=_:=e95;replace e91:a.tmps.getD 91 undef=_:=e91;refine zA rfl fun K hK=>?_;obtain ⟨vs,rz,hl,-⟩:=hR.2 _ HZ.out;have hl2:vs.length=18:=hl;obtain ⟨v14,h14⟩:∃ v,vs[14]?=some v:=⟨_,List.getElem?_eq_getElem (by omega)⟩;have z14:=rz.cell h14;have zf14:=rz.free 14;have hst:=StC.sets rz [(14,.int .i64 m.x.part)] (by simp) (by simp;omega);clear hl hl2 h14;have Hst:=Lib.hid hst;clear hst;go_simp;exact hK undef _ Hst.out.1 ⟨Hst.out.2.mono (by simp),Hst.out.2,fun _ _ _ _ _=>trivial⟩
 apply zF
 ·rintro a w hR hC ⟨(e3:_=_),-⟩;refine zA rfl fun K hK=>?_;go_simp;exact hK _ _ rfl ⟨hRr _,hRs _ _,fun _ _ _ _ h=>h⟩
 refine ⟨StC Z 36 [(6,.int .i64 m.x.upload.node),(7,.int .i64 m.x.upload.boot),(8,.int .i64 m.x.upload.seq)],zN StC.stable (by intro x hx hk;simp only [List.mem_cons,List.not_mem_nil,or_false] at hx;rcases hx with rfl | rfl | rfl <;> first | (refine StC.zAZ ?_;simp;done) | exact Bool.noConfusion (hk.symm.trans (by kernel_rfl:_=true))),fun a w hR hC hf=>?_,?_⟩
 ·obtain ⟨e96,e93,-⟩:=hf;replace e96:a.tmps.getD 96 undef=_:=e96;replace e93:a.tmps.getD 93 undef=_:=e93;refine zA rfl fun K hK=>?_;obtain ⟨vs,rz,hl,-⟩:=hR.2 _ HZ.out;have hl2:vs.length=18:=hl;obtain ⟨v6,h6⟩:∃ v,vs[6]?=some v:=⟨_,List.getElem?_eq_getElem (by omega)⟩;have z6:=rz.cell h6;have zf6:=rz.free 6;obtain ⟨v7,h7⟩:∃ v,vs[7]?=some v:=⟨_,List.getElem?_eq_getElem (by omega)⟩;have z7:=rz.cell h7;have zf7:=rz.free 7;obtain ⟨v8,h8⟩:∃ v,vs[8]?=some v:=⟨_,List.getElem?_eq_getElem (by omega)⟩;have z8:=rz.cell h8
  have zf8:=rz.free 8;have hst:=StC.sets rz [(6,.int .i64 m.x.upload.node),(7,.int .i64 m.x.upload.boot),(8,.int .i64 m.x.upload.seq)] (by simp) (by simp;omega);clear hl hl2 h6 h7 h8;have Hst:=Lib.hid hst;clear hst;go_simp;exact hK undef _ Hst.out.1 ⟨Hst.out.2.mono (by simp),Hst.out.2,fun _ _ _ _ _=>trivial⟩
 intro f3 w3 hR3 hf hl3;dsimp only [qD];obtain ⟨l7,l9,l11,-⟩:=hl3;replace l7:∃ v,(StC Z 36 [(9,.int .i64 m.x.piece.blob.node),(10,.int .i64 m.x.piece.blob.boot),(11,.int .i64 m.x.piece.blob.seq),(12,.int .i64 m.x.piece.size),(13,.string (str m.x.piece.etag))]) v w3:=l7;replace l9:∃ v,(StC Z 36 [(14,.int .i64 m.x.part)]) v w3:=l9;replace l11:∃ v,(StC Z 36 [(6,.int .i64 m.x.upload.node),(7,.int .i64 m.x.upload.boot),(8,.int .i64 m.x.upload.seq)]) v w3:=l11;obtain ⟨u7,s7⟩:=l7;obtain ⟨u9,s9⟩:=l9;obtain ⟨u11,s11⟩:=l11;have rz3:Row w3 Z 36 (zJ ⟨{ z.x with piece:=m.x.piece,part:=m.x.part,upload:=m.x.upload },z.p,z.c⟩):=zDJ (((s7.app s9).app s11)) HZ.out hR3 (by simp)
 have HX3:=Lib.hid (HX.out.only hR3.1 (by simp;exact hne));have HZ3:=Lib.hid rz3;have HO3:=Lib.hid hR3.1;clear hR3 rz3 hRr hRt hRd hRs hC0 s7 s9 s11
 cases b with
 | false =>
  go_wp2_with fail;exact HE.out _ _ _ _ _ _ _ _ _ _ _ _ _ _ _ _ _ _ _ _ _ _ _ _ _ _ _ _ _ _ _ _ _ _ _ _ _ _ _ _ _ _ _ _ _ _ _ _ _ _ _ _ _ _ _ _ _ _ _ _ _ _ _ _ _ _ _ _ _ _ _ _ _ _ _ _ _ _ _ _ _ _ _ _ _ _ _ _ _ _ _ _ _ _ _ _ _ _ _ _ _ _ _ _ _ _ _ _ _ _ _ _ _ _ _ _ _ _ _ _ _ _ _ _ _ _ _ _ _ _ _ _ false ⟨{ z.x with piece:=m.x.piece,part:=m.x.part,upload:=m.x.upload },z.p,z.c⟩ _ HX3.out HZ3.out HO3.out ⟨by have:=Hk.out;omega,by have:=Hk.out;omega,rfl,rfl,fun h=>absurd h (by decide),fun h=>absurd h (by decide),fun h=>absurd h (by decide),fun h=>absurd h (by decide),fun _=>rfl⟩
 | true =>
  have x9:=HX3.out.cell (i:=9) rfl;have x10:=HX3.out.cell (i:=10) rfl;have x11:=HX3.out.cell (i:=11) rfl;have x12:=HX3.out.cell (i:=12) rfl;have x13:=HX3.out.cell (i:=13) rfl;have hpc:=zCZ m.x.piece w3 hs.et;unfold pcV at hpc;go_wp2_with fail;(with_reducible refine hpc.mono ?_);clear hpc x9 x10 x11 x12 x13;rintro e w4 ⟨v,rfl,hv,o4⟩;have HX4:=Lib.hid (HX3.out.zB o4);have HZ4:=Lib.hid (HZ3.out.zB o4);have HO4:=Lib.hid (HO3.out.zC o4);have Hv:=Lib.hid hv;clear o4 hv HX3 HZ3 HO3
  cases v with
  | false =>
   go_wp2_with fail;exact HE.out _ _ _ _ _ _ _ _ _ _ _ _ _ _ _ _ _ _ _ _ _ _ _ _ _ _ _ _ _ _ _ _ _ _ _ _ _ _ _ _ _ _ _ _ _ _ _ _ _ _ _ _ _ _ _ _ _ _ _ _ _ _ _ _ _ _ _ _ _ _ _ _ _ _ _ _ _ _ _ _ _ _ _ _ _ _ _ _ _ _ _ _ _ _ _ _ _ _ _ _ _ _ _ _ _ _ _ _ _ _ _ _ _ _ _ _ _ _ _ _ _ _ _ _ _ _ _ _ _ _ _ _ false ⟨{ z.x with piece:=m.x.piece,part:=m.x.part,upload:=m.x.upload },z.p,z.c⟩ _ HX4.out HZ4.out HO4.out ⟨by have:=Hk.out;omega,by have:=Hk.out;omega,rfl,rfl,fun h=>absurd h (by decide),fun h=>absurd h (by decide),fun h=>absurd h (by decide),fun h=>absurd h (by decide),fun _=>rfl⟩
  | true =>
   have x1:=HX4.out.cell (i:=1) rfl;have x2:=HX4.out.cell (i:=2) rfl;have x3:=HX4.out.cell (i:=3) rfl;have x9:=HX4.out.cell (i:=9) rfl;have x10:=HX4.out.cell (i:=10) rfl;have x11:=HX4.out.cell (i:=11) rfl;have x14:=HX4.out.cell (i:=14) rfl;have q:=zJK m.x.piece.blob m.x.id;unfold idV at q
   by_cases hbi:m.x.piece.blob=m.x.id
   ·simp only [decide_eq_true hbi] at q;clear hbi;have hcase:¬ 1≤m.x.part∨(1≤m.x.part∧¬ m.x.part≤16)∨(1≤m.x.part∧m.x.part≤16):=by omega
    rcases hcase with t1 | ⟨t1,t2⟩ | ⟨t1,t2⟩
    ·skip
     go_wp2_with fail;exact HE.out _ _ _ _ _ _ _ _ _ _ _ _ _ _ _ _ _ _ _ _ _ _ _ _ _ _ _ _ _ _ _ _ _ _ _ _ _ _ _ _ _ _ _ _ _ _ _ _ _ _ _ _ _ _ _ _ _ _ _ _ _ _ _ _ _ _ _ _ _ _ _ _ _ _ _ _ _ _ _ _ _ _ _ _ _ _ _ _ _ _ _ _ _ _ _ _ _ _ _ _ _ _ _ _ _ _ _ _ _ _ _ _ _ _ _ _ _ _ _ _ _ _ _ _ _ _ _ _ _ _ _ _ false ⟨{ z.x with piece:=m.x.piece,part:=m.x.part,upload:=m.x.upload },z.p,z.c⟩ _ HX4.out HZ4.out HO4.out ⟨by have:=Hk.out;omega,by have:=Hk.out;omega,rfl,rfl,fun h=>absurd h (by decide),fun h=>absurd h (by decide),fun h=>absurd h (by decide),fun h=>absurd h (by decide),fun _=>rfl⟩
    ·have t3:=decide_eq_false t2;clear t2;go_wp2_with fail;exact HE.out _ _ _ _ _ _ _ _ _ _ _ _ _ _ _ _ _ _ _ _ _ _ _ _ _ _ _ _ _ _ _ _ _ _ _ _ _ _ _ _ _ _ _ _ _ _ _ _ _ _ _ _ _ _ _ _ _ _ _ _ _ _ _ _ _ _ _ _ _ _ _ _ _ _ _ _ _ _ _ _ _ _ _ _ _ _ _ _ _ _ _ _ _ _ _ _ _ _ _ _ _ _ _ _ _ _ _ _ _ _ _ _ _ _ _ _ _ _ _ _ _ _ _ _ _ _ _ _ _ _ _ _ false ⟨{ z.x with piece:=m.x.piece,part:=m.x.part,upload:=m.x.upload },z.p,z.c⟩ _ HX4.out HZ4.out HO4.out ⟨by have:=Hk.out;omega,by have:=Hk.out;omega,rfl,rfl,fun h=>absurd h (by decide),fun h=>absurd h (by decide),fun h=>absurd h (by decide),fun h=>absurd h (by decide),fun _=>rfl⟩
    ·have Ht:=Lib.hid (And.intro t1 t2);go_wp2_with fail;exact HE.out _ _ _ _ _ _ _ _ _ _ _ _ _ _ _ _ _ _ _ _ _ _ _ _ _ _ _ _ _ _ _ _ _ _ _ _ _ _ _ _ _ _ _ _ _ _ _ _ _ _ _ _ _ _ _ _ _ _ _ _ _ _ _ _ _ _ _ _ _ _ _ _ _ _ _ _ _ _ _ _ _ _ _ _ _ _ _ _ _ _ _ _ _ _ _ _ _ _ _ _ _ _ _ _ _ _ _ _ _ _ _ _ _ _ _ _ _ _ _ _ _ _ _ _ _ _ _ _ _ _ _ _ true ⟨{ z.x with piece:=m.x.piece,part:=m.x.part,upload:=m.x.upload },z.p,z.c⟩ _ HX4.out HZ4.out HO4.out ⟨by have:=Hk.out;omega,by have:=Hk.out;omega,rfl,rfl,fun _=>rfl,fun _ _=>Hv.out trivial,fun _ _=>Ht.out,fun _ h=>by have:=Hk.out;omega,fun _=>rfl⟩
   ·simp only [decide_eq_false hbi] at q;clear hbi;go_wp2_with fail;exact HE.out _ _ _ _ _ _ _ _ _ _ _ _ _ _ _ _ _ _ _ _ _ _ _ _ _ _ _ _ _ _ _ _ _ _ _ _ _ _ _ _ _ _ _ _ _ _ _ _ _ _ _ _ _ _ _ _ _ _ _ _ _ _ _ _ _ _ _ _ _ _ _ _ _ _ _ _ _ _ _ _ _ _ _ _ _ _ _ _ _ _ _ _ _ _ _ _ _ _ _ _ _ _ _ _ _ _ _ _ _ _ _ _ _ _ _ _ _ _ _ _ _ _ _ _ _ _ _ _ _ _ _ _ false ⟨{ z.x with piece:=m.x.piece,part:=m.x.part,upload:=m.x.upload },z.p,z.c⟩ _ HX4.out HZ4.out HO4.out ⟨by have:=Hk.out;omega,by have:=Hk.out;omega,rfl,rfl,fun h=>absurd h (by decide),fun h=>absurd h (by decide),fun h=>absurd h (by decide),fun h=>absurd h (by decide),fun _=>rfl⟩
end
section
open Go.RowKit
def xC (xs:List Int) (j:Nat):Prop:=(xs.take j).Pairwise (· < ·)∧∀ n∈xs.take j,1≤n∧n≤16
theorem zEi (xs:List Int):xC xs 0:=by unfold xC;simp
theorem zAJ {xs:List Int} {j:Nat} {x:Int} (h:xC xs j) (hx:xs[j]?=some x) (h1:1≤x) (h2:x≤16) (h3:∀ y,0 < j→xs[j - 1]?=some y→y < x):xC xs (j+1):=by
 have e:xs.take (j+1)=xs.take j ++ [x]:=(by rw [List.take_add_one,hx];rfl);unfold xC at h ⊢;rw [e];refine ⟨List.pairwise_append.2 ⟨h.1,List.pairwise_singleton _ _,fun a ha b hb=>?_⟩,fun n hn=>?_⟩
 ·rw [List.mem_singleton.1 hb];obtain ⟨i,hi,rfl⟩:=List.mem_iff_getElem.1 ha;have hij:i < j:=(by simp at hi;omega);have hjl:j < xs.length:=(List.getElem?_eq_some_iff.1 hx).1;have hl:=h3 xs[j - 1] (by omega) (List.getElem?_eq_getElem (by omega))
  by_cases hii:i=j - 1
  ·subst hii;rw [List.getElem_take];exact hl
  ·have hp:=List.pairwise_iff_getElem.1 h.1 i (j - 1) hi (by simp;omega) (by omega);rw [List.getElem_take,List.getElem_take] at hp;rw [List.getElem_take];omega
 ·rcases List.mem_append.1 hn with hn | hn
  ·exact h.2 n hn
  ·rw [List.mem_singleton.1 hn];exact ⟨h1,h2⟩
set_option maxHeartbeats 16000000 in
theorem zGu {Q:Exit→Act→World→Prop} {c0 c2 c5 c6 c7 c8 c9 c10 c11 c12 c13 c14 c15 c16 c17 c18 c19 c20 c21 c22 c23 c24 c25 c26 c27 c28 c29 c30 c31 c32 c33 c34 c35 c36 c37 c38 c39 c40 c41 c42 c43 c44 c45 c46 c47 c48 c49 c50 c51 c52 c53 c54 c55 c56 c57 c58 c59 c60 c61 c62 c63 c64 c65 c66 c67 c68 c69 c70 c71 c72 c73 c74 c75 c76 c77 c78 c79 c80 c81 c82 c83 c84 c85 c86 c87 c88 c89 c90 c91 c92 c93 c94 c95 c96 c97 c98 c99 c100 c101 c102 c103 c104 c105 c106 c107 c108 c109 c110 c111 c112 c113 c114 c115 c116 c117 c118 c119 c120 c121 c122 c123 c124 c125 c126 c127 c128 c129 c130 c131 c132 c133 c134 c135 c136 c137 c138 c139 c140 c141 c142 c143 c144 c145 c146 c147 c148 c149 c150 c151 c152 c153 c154 c155 c156 c157 c158 c159 c160 c161 c162 c163 c164 c165 c166 c167 c168 c169 c170 c171 c172 c173 c174 c175 c176 c177 c178 c179 c180 c181 c182 c183 c184 c185 c186 c187 c188 c189 c190 c191 c192 c193 c194 c195 c196 c197 c198 c199 c200 c201 c202 c203 c204 c205 c206 c207 c208 c209 c210 c211 c212 c213 c214 c215 c216 c217 c218 c219 c220 c221 c222 c223 c224 c225 c226 c227 c228 c229 c230 c231 c232 c233 c234 c235 c236 c237 c238 c239 c240 c241 c242 c243 c244 c245 c246 c247 c248 c249 c250 c251 c252 c253 c254:Value} (Y:Code) (m z:zT) (X Z:Nat) (b:Bool) (w0:World) (hne:X≠Z) (rX:Row w0 X 36 (zJ m)) (rZ:Row w0 Z 36 (zJ z)) (hs:zBx m) (hm:jP w0 m) (hpz:m.x.parts≠[]→∀ z∈blk m.p,z≠Z) (hk:m.x.kind=7)
  (hexit:∀ (u7 u8 u51 u52 u53 u54 u55 u56 u57 u58 u59 u60 u61 u62 u63 u64 u65 u66 u67 u68 u69 u70 u71 u72 u73 u74 u75 u76 u77 u78 u79 u80 u81 u82 u83 u84 u85 u86 u87 u88 u89 u90 u91 u92 u93 u94 u95 u96 u97 u98 u99 u100 u101 u102 u103 u104 u105 u106 u107 u108 u109 u110 u111 u112 u113 u114 u115 u116 u117 u118 u119 u120 u121 u122 u123 u124 u125 u126 u127 u128 u129 u130 u131 u132 u133 u134 u135 u136 u137 u138 u139 u140 u141 u142 u143 u144 u145 u146 u147 u148 u149 u150 u151 u152 u153 u154 u155 u156 u157 u158 u159 u160 u161 u162 u163 u164 u165 u166 u167 u168 u169 u170 u171 u172 u173 u174 u175 u176 u177 u178 u179 u180:Value) (b':Bool) (z':zT) (w':World),Row w' X 36 (zJ m)→Row w' Z 36 (zJ z')→Only [Z] w0 w'→Sw m z z' b b'→Y.wp Tryz.prog Q ⟨(c0 :: .pointer (some ⟨X,0,none⟩) :: c2 :: .pointer (some ⟨Z,0,none⟩) :: .bool b' :: c5 :: c6 :: u7 :: u8 :: c9 :: c10 :: c11 :: c12 :: c13 :: c14 :: c15 :: c16 :: c17 :: c18 :: c19 :: c20 :: c21 :: c22 :: c23 :: c24 :: c25 :: c26 :: c27 :: c28 :: c29 :: c30 :: c31 :: c32 :: c33 :: c34 :: c35 :: c36 :: c37 :: c38 :: c39 :: c40 :: c41 :: c42 :: c43 :: c44 :: c45 :: c46 :: c47 :: c48 :: c49 :: c50 :: u51 :: u52 :: u53 :: u54 :: u55 :: u56 :: u57 :: u58 :: u59 :: u60 :: u61 :: u62 :: u63 :: u64 :: u65 :: u66 :: u67 :: u68 :: u69 :: u70 :: u71 :: u72 :: u73 :: u74 :: u75 :: u76 :: u77 :: u78 :: u79 :: u80 :: u81 :: u82 :: u83 :: u84 :: u85 :: u86 :: u87 :: u88 :: u89 :: u90 :: u91 :: u92 :: u93 :: u94 :: u95 :: u96 :: u97 :: u98 :: u99 :: u100 :: u101 :: u102 :: u103 :: u104 :: u105 :: u106 :: u107 :: u108 :: u109 :: u110 :: u111 :: u112 :: u113 :: u114 :: u115 :: u116 :: u117 :: u118 :: u119 :: u120 :: u121 :: u122 :: u123 :: u124 :: u125 :: u126 :: u127 :: u128 :: u129 :: u130 :: u131 :: u132 :: u133 :: u134 :: u135 :: u136 :: u137 :: u138 :: u139 :: u140 :: u141 :: u142 :: u143 :: u144 :: u145 :: u146 :: u147 :: u148 :: u149 :: u150 :: u151 :: u152 :: u153 :: u154 :: u155 :: u156 :: u157 :: u158 :: u159 :: u160 :: u161 :: u162 :: u163 :: u164 :: u165 :: u166 :: u167 :: u168 :: u169 :: u170 :: u171 :: u172 :: u173 :: u174 :: u175 :: u176 :: u177 :: u178 :: u179 :: u180 :: c181 :: c182 :: c183 :: c184 :: c185 :: c186 :: c187 :: c188 :: c189 :: c190 :: c191 :: c192 :: c193 :: c194 :: c195 :: c196 :: c197 :: c198 :: c199 :: c200 :: c201 :: c202 :: c203 :: c204 :: c205 :: c206 :: c207 :: c208 :: c209 :: c210 :: c211 :: c212 :: c213 :: c214 :: c215 :: c216 :: c217 :: c218 :: c219 :: c220 :: c221 :: c222 :: c223 :: c224 :: c225 :: c226 :: c227 :: c228 :: c229 :: c230 :: c231 :: c232 :: c233 :: c234 :: c235 :: c236 :: c237 :: c238 :: c239 :: c240 :: c241 :: c242 :: c243 :: c244 :: c245 :: c246 :: c247 :: c248 :: c249 :: c250 :: c251 :: c252 :: c253 :: c254 :: []).toArray,[]⟩ w') :
  Code.wp Tryz.prog (Code.seq (yC 8) Y) Q ⟨(c0 :: .pointer (some ⟨X,0,none⟩) :: c2 :: .pointer (some ⟨Z,0,none⟩) :: .bool b :: c5 :: c6 :: c7 :: c8 :: c9 :: c10 :: c11 :: c12 :: c13 :: c14 :: c15 :: c16 :: c17 :: c18 :: c19 :: c20 :: c21 :: c22 :: c23 :: c24 :: c25 :: c26 :: c27 :: c28 :: c29 :: c30 :: c31 :: c32 :: c33 :: c34 :: c35 :: c36 :: c37 :: c38 :: c39 :: c40 :: c41 :: c42 :: c43 :: c44 :: c45 :: c46 :: c47 :: c48 :: c49 :: c50 :: c51 :: c52 :: c53 :: c54 :: c55 :: c56 :: c57 :: c58 :: c59 :: c60 :: c61 :: c62 :: c63 :: c64 :: c65 :: c66 :: c67 :: c68 :: c69 :: c70 :: c71 :: c72 :: c73 :: c74 :: c75 :: c76 :: c77 :: c78 :: c79 :: c80 :: c81 :: c82 :: c83 :: c84 :: c85 :: c86 :: c87 :: c88 :: c89 :: c90 :: c91 :: c92 :: c93 :: c94 :: c95 :: c96 :: c97 :: c98 :: c99 :: c100 :: c101 :: c102 :: c103 :: c104 :: c105 :: c106 :: c107 :: c108 :: c109 :: c110 :: c111 :: c112 :: c113 :: c114 :: c115 :: c116 :: c117 :: c118 :: c119 :: c120 :: c121 :: c122 :: c123 :: c124 :: c125 :: c126 :: c127 :: c128 :: c129 :: c130 :: c131 :: c132 :: c133 :: c134 :: c135 :: c136 :: c137 :: c138 :: c139 :: c140 :: c141 :: c142 :: c143 :: c144 :: c145 :: c146 :: c147 :: c148 :: c149 :: c150 :: c151 :: c152 :: c153 :: c154 :: c155 :: c156 :: c157 :: c158 :: c159 :: c160 :: c161 :: c162 :: c163 :: c164 :: c165 :: c166 :: c167 :: c168 :: c169 :: c170 :: c171 :: c172 :: c173 :: c174 :: c175 :: c176 :: c177 :: c178 :: c179 :: c180 :: c181 :: c182 :: c183 :: c184 :: c185 :: c186 :: c187 :: c188 :: c189 :: c190 :: c191 :: c192 :: c193 :: c194 :: c195 :: c196 :: c197 :: c198 :: c199 :: c200 :: c201 :: c202 :: c203 :: c204 :: c205 :: c206 :: c207 :: c208 :: c209 :: c210 :: c211 :: c212 :: c213 :: c214 :: c215 :: c216 :: c217 :: c218 :: c219 :: c220 :: c221 :: c222 :: c223 :: c224 :: c225 :: c226 :: c227 :: c228 :: c229 :: c230 :: c231 :: c232 :: c233 :: c234 :: c235 :: c236 :: c237 :: c238 :: c239 :: c240 :: c241 :: c242 :: c243 :: c244 :: c245 :: c246 :: c247 :: c248 :: c249 :: c250 :: c251 :: c252 :: c253 :: c254 :: []).toArray,[]⟩ w0:=by
 have HE:=Lib.hid hexit;have HX:=Lib.hid rX;have HZ:=Lib.hid rZ;have k0:=rX.cell (i:=0) rfl;rw [hk] at k0;have Hk:=Lib.hid hk;clear hexit rX rZ hk;refine wp_seq_k fun K0 h0=>?_
 conv=>arg 2;whnf
 have HM:=Lib.hid hm;have HPZ:=Lib.hid hpz;clear hm hpz;obtain ⟨n,hn⟩:∃ n,m.x.parts.length=n:=⟨_,rfl⟩;have hnb:n≤140737488355328:=(by rw [← hn];exact hs.ps);have Hn:=Lib.hid hn;clear hn
 go_upto_region 29 with (fail)
 clear k0;have hRr:∀ x,(RZ Z 36 [6,7,8,16,15]) x x:=fun x=>RZ.refl _ _ _ x;have hRt:∀ x b e,(RZ Z 36 [6,7,8,16,15]) x b→(RZ Z 36 [6,7,8,16,15]) b e→(RZ Z 36 [6,7,8,16,15]) x e:=fun _ _ _ h k=>h.trans k;have hRd:(RZ Z 36 [6,7,8,16,15]) w0 w0.drew:=RZ.of0 (Only.drew _)
 have hRs:∀ j w,qA [(7,RZ Z 36 [6,7,8]),(9,RZ Z 36 [16]),(11,RZ Z 36 [15])] j w w:=qA.refl (by
  intro x hx w;simp only [List.mem_cons,List.not_mem_nil,or_false] at hx
  rcases hx with rfl | rfl | rfl <;> exact RZ.refl _ _ _ _)
 have hC0:∀ d∈[7,9,11],(fun (_:Nat) (_:World)=>True) d w0.drew:=fun _ _=>trivial;refine zW (RZ Z 36 [6,7,8,16,15]) (qA [(7,RZ Z 36 [6,7,8]),(9,RZ Z 36 [16]),(11,RZ Z 36 [15])]) (fun (_:Nat) (_:World)=>True) [7,9,11] [[(1,none)],[(123,some 0)],[(1,none)],[(125,some 0)],[(1,none)],[(127,some 0)],[(3,none)],[(129,some 0),(124,some 5)],[(3,none)],[(130,some 0),(126,some 5)],[(3,none)],[(131,some 0),(128,some 5)]] [] [4,2,0] [none,none,none,none,none,none,none,none,none,none,none,none,none,none,none,none,none,none,none,none,none,none,none,none,none,none,none,none,none,none,none,none,none,none,none,none,none,none,none,none,none,none,none,none,none,none,none,none,none,none,none,none,none,none,none,none,none,none,none,none,none,none,none,none,none,none,none,none,none,none,none,none,none,none,none,none,none,none,none,none,none,none,none,none,none,none,none,none,none,none,none,none,none,none,none,none,none,none,none,none,none,none,none,none,none,none,none,none,none,none,none,none,none,none,none,none,none,none,none,none,none,none,none,some 123,some 124,some 125,some 126,some 127,some 128,some 129,some 130,some 131,none,none,none,none,none,none,none,none,none,none,none,none,none,none,none,none,none,none,none,none,none,none,none,none,none,none,none,none,none,none,none,none,none,none,none,none,none,none,none,none,none,none,none,none,none,none,none,none,none,none,none,none,none,none,none,none,none,none,none,none,none,none,none,none,none,none,none,none,none,none,none,none,none,none,none,none,none,none,none,none,none,none,none,none,none,none,none,none,none,none,none,none,none,none,none,none,none,none,none,none,none,none,none,none,none,none,none,none,none,none,none,none,none,none,none,none,none,none,none,none,none,none,none] (by kernel_rfl) rfl (by kernel_rfl) hRr hRt hRs hRd hC0 (by kernel_rfl) (by kernel_rfl) ?_
 apply zF
 ·rintro a w hR hC ⟨(e1:_=_),-⟩;refine zA rfl fun K hK=>?_;go_simp;exact hK _ _ rfl ⟨hRr _,hRs _ _,fun _ _ _ _ h=>h⟩
 apply zF
 ·rintro a w hR hC ⟨(e123:_=_),-⟩;refine zA rfl fun K hK=>?_;have hx:=HX.out.only hR.1 (by simp;exact hne);have y6:=hx.cell (i:=6) rfl;have y7:=hx.cell (i:=7) rfl;have y8:=hx.cell (i:=8) rfl;go_simp;exact hK _ _ rfl ⟨hRr _,hRs _ _,fun _ _ _ _ h=>h⟩
 apply zF
 ·rintro a w hR hC ⟨(e1:_=_),-⟩;refine zA rfl fun K hK=>?_;go_simp;exact hK _ _ rfl ⟨hRr _,hRs _ _,fun _ _ _ _ h=>h⟩
 apply zF
 ·rintro a w hR hC ⟨(e125:_=_),-⟩;refine zA rfl fun K hK=>?_;have hx:=HX.out.only hR.1 (by simp;exact hne);have y16:=hx.cell (i:=16) rfl;go_simp;exact hK _ _ rfl ⟨hRr _,hRs _ _,fun _ _ _ _ h=>h⟩
 apply zF
 ·rintro a w hR hC ⟨(e1:_=_),-⟩;refine zA rfl fun K hK=>?_;go_simp;exact hK _ _ rfl ⟨hRr _,hRs _ _,fun _ _ _ _ h=>h⟩
 apply zF
 ·rintro a w hR hC ⟨(e127:_=_),-⟩;refine zA rfl fun K hK=>?_;have hx:=HX.out.only hR.1 (by simp;exact hne);have y15:=hx.cell (i:=15) rfl;go_simp;exact hK _ _ rfl ⟨hRr _,hRs _ _,fun _ _ _ _ h=>h⟩
 apply zF
 ·rintro a w hR hC ⟨(e3:_=_),-⟩;refine zA rfl fun K hK=>?_;go_simp;exact hK _ _ rfl ⟨hRr _,hRs _ _,fun _ _ _ _ h=>h⟩
 refine ⟨StC Z 36 [(6,.int .i64 m.x.upload.node),(7,.int .i64 m.x.upload.boot),(8,.int .i64 m.x.upload.seq)],zN StC.stable (by intro x hx hk;simp only [List.mem_cons,List.not_mem_nil,or_false] at hx;rcases hx with rfl | rfl | rfl <;> first | (refine StC.zAZ ?_;simp;done) | exact Bool.noConfusion (hk.symm.trans (by kernel_rfl:_=true))),fun a w hR hC hf=>?_,?_⟩
 ·obtain ⟨e129,e124,-⟩:=hf;replace e129:a.tmps.getD 129 undef=_:=e129;replace e124:a.tmps.getD 124 undef=_:=e124;refine zA rfl fun K hK=>?_;obtain ⟨vs,rz,hl,-⟩:=hR.2 _ HZ.out;have hl2:vs.length=18:=hl;obtain ⟨v6,h6⟩:∃ v,vs[6]?=some v:=⟨_,List.getElem?_eq_getElem (by omega)⟩;have z6:=rz.cell h6;have zf6:=rz.free 6;obtain ⟨v7,h7⟩:∃ v,vs[7]?=some v:=⟨_,List.getElem?_eq_getElem (by omega)⟩;have z7:=rz.cell h7;have zf7:=rz.free 7;obtain ⟨v8,h8⟩:∃ v,vs[8]?=some v:=⟨_,List.getElem?_eq_getElem (by omega)⟩;have z8:=rz.cell h8
  have zf8:=rz.free 8;have hst:=StC.sets rz [(6,.int .i64 m.x.upload.node),(7,.int .i64 m.x.upload.boot),(8,.int .i64 m.x.upload.seq)] (by simp) (by simp;omega);clear hl hl2 h6 h7 h8;have Hst:=Lib.hid hst;clear hst;go_simp;exact hK undef _ Hst.out.1 ⟨Hst.out.2.mono (by simp),Hst.out.2,fun _ _ _ _ _=>trivial⟩
 apply zF
 ·rintro a w hR hC ⟨(e3:_=_),-⟩;refine zA rfl fun K hK=>?_;go_simp;exact hK _ _ rfl ⟨hRr _,hRs _ _,fun _ _ _ _ h=>h⟩
 refine ⟨StC Z 36 [(16,.int .i64 m.x.time)],zN StC.stable (by intro x hx hk;simp only [List.mem_cons,List.not_mem_nil,or_false] at hx;rcases hx with rfl | rfl | rfl <;> first | (refine StC.zAZ ?_;simp;done) | exact Bool.noConfusion (hk.symm.trans (by kernel_rfl:_=true))),fun a w hR hC hf=>?_,?_⟩
 ·obtain ⟨e130,e126,-⟩:=hf;replace e130:a.tmps.getD 130 undef=_:=e130;replace e126:a.tmps.getD 126 undef=_:=e126;refine zA rfl fun K hK=>?_;obtain ⟨vs,rz,hl,-⟩:=hR.2 _ HZ.out;have hl2:vs.length=18:=hl;obtain ⟨v16,h16⟩:∃ v,vs[16]?=some v:=⟨_,List.getElem?_eq_getElem (by omega)⟩;have z16:=rz.cell h16;have zf16:=rz.free 16;have hst:=StC.sets rz [(16,.int .i64 m.x.time)] (by simp) (by simp;omega);clear hl hl2 h16;have Hst:=Lib.hid hst;clear hst;go_simp;exact hK undef _ Hst.out.1 ⟨Hst.out.2.mono (by simp),Hst.out.2,fun _ _ _ _ _=>trivial⟩
 apply zF
 ·rintro a w hR hC ⟨(e3:_=_),-⟩;refine zA rfl fun K hK=>?_;go_simp;exact hK _ _ rfl ⟨hRr _,hRs _ _,fun _ _ _ _ h=>h⟩
 refine ⟨StC Z 36 [(15,.slice m.p m.x.parts.length m.c)],zN StC.stable (by intro x hx hk;simp only [List.mem_cons,List.not_mem_nil,or_false] at hx;rcases hx with rfl | rfl | rfl <;> first | (refine StC.zAZ ?_;simp;done) | exact Bool.noConfusion (hk.symm.trans (by kernel_rfl:_=true))),fun a w hR hC hf=>?_,?_⟩
 ·obtain ⟨e131,e128,-⟩:=hf;replace e131:a.tmps.getD 131 undef=_:=e131;replace e128:a.tmps.getD 128 undef=_:=e128;refine zA rfl fun K hK=>?_;obtain ⟨vs,rz,hl,-⟩:=hR.2 _ HZ.out;have hl2:vs.length=18:=hl;obtain ⟨v15,h15⟩:∃ v,vs[15]?=some v:=⟨_,List.getElem?_eq_getElem (by omega)⟩;have z15:=rz.cell h15;have zf15:=rz.free 15;have hst:=StC.sets rz [(15,.slice m.p m.x.parts.length m.c)] (by simp) (by simp;omega);clear hl hl2 h15;have Hst:=Lib.hid hst;clear hst;go_simp;exact hK undef _ Hst.out.1 ⟨Hst.out.2.mono (by simp),Hst.out.2,fun _ _ _ _ _=>trivial⟩
 intro f3 w3 hR3 hf hl3;dsimp only [qD];obtain ⟨l7,l9,l11,-⟩:=hl3;replace l7:∃ v,(StC Z 36 [(6,.int .i64 m.x.upload.node),(7,.int .i64 m.x.upload.boot),(8,.int .i64 m.x.upload.seq)]) v w3:=l7;replace l9:∃ v,(StC Z 36 [(16,.int .i64 m.x.time)]) v w3:=l9;replace l11:∃ v,(StC Z 36 [(15,.slice m.p m.x.parts.length m.c)]) v w3:=l11;obtain ⟨u7,s7⟩:=l7;obtain ⟨u9,s9⟩:=l9;obtain ⟨u11,s11⟩:=l11;have rz3:Row w3 Z 36 (zJ ⟨{ z.x with upload:=m.x.upload,time:=m.x.time,parts:=m.x.parts },m.p,m.c⟩):=zDJ (((s7.app s9).app s11)) HZ.out hR3 (by simp)
 have HX3:=Lib.hid (HX.out.only hR3.1 (by simp;exact hne));have HZ3:=Lib.hid rz3;have HO3:=Lib.hid hR3.1;clear hR3 rz3 hRr hRt hRd hRs hC0 s7 s9 s11;have hx15:=HX3.out.cell (i:=15) rfl;rw [Hn.out] at hx15;have Hx15:=Lib.hid hx15
 have HEND:Hid (∀ (b':Bool),(b'=true→b=true∧0 < n∧xC m.x.parts n)→Sw m z ⟨{ z.x with upload:=m.x.upload,time:=m.x.time,parts:=m.x.parts },m.p,m.c⟩ b b'):=Lib.hid (fun b' h=>⟨by have:=Hk.out;omega,by have:=Hk.out;omega,rfl,rfl,fun hb=>(h hb).1,fun _ h3=>by have:=Hk.out;omega,fun _ h6=>by have:=Hk.out;omega,fun hb _=>by
  obtain ⟨-,h2,h3,h4⟩:=h hb;rw [List.take_of_length_le (by rw [Hn.out];exact Nat.le_refl _)] at h3 h4;refine ⟨fun e=>?_,h3,h4⟩;have:=Hn.out;rw [e] at this
  simp at this;omega,fun h7=>absurd Hk.out h7⟩)
 have hcase:b=false∨(b=true∧n=0)∨(b=true∧0 < n):=by cases b with
  | false=>exact .inl rfl
  | true=>rcases Nat.eq_zero_or_pos n with h | h;exact .inr (.inl ⟨rfl,h⟩);exact .inr (.inr ⟨rfl,h⟩)
 rcases hcase with rfl | ⟨rfl,rfl⟩ | ⟨rfl,h0n⟩
 ·skip
  go_wp2_with fail
  go_loopw [4,142] (fun f a wl=>∃ (j:Nat) (bb:Bool),f=.bool bb∧a=.int .i64 (j:Int)∧j≤n∧Hid (bb=true→False∧xC m.x.parts j)∧Hid (Only [] w3 wl)) (fun _ a _=>n - (intOf a).toNat)
  case atStart=>exact ⟨0,false,rfl,rfl,Nat.zero_le _,Lib.hid (fun h=>absurd h (by decide)),Lib.hid (Only.refl _ _)⟩
  case round =>
   (try clear h0n0)
   clear hx15;obtain ⟨j,bb,rfl,rfl,hj,HC,HOl⟩:=hrel;have hx15:=(HX3.out.zB HOl.out).cell (i:=15) rfl;rw [Hn.out] at hx15
   by_cases hlt:j < n
   ·obtain ⟨x,hx⟩:∃ x,m.x.parts[j]?=some x:=⟨_,List.getElem?_eq_getElem (by rw [Hn.out];exact hlt)⟩;have hpne:m.x.parts≠[]:=fun e=>(by rw [e] at hx;cases hx);have hrd:Rd wr m.p (jQ m.x.parts):=(HM.out.1.only HO3.out (fun a ha=>by have:=HPZ.out hpne a.block (by rw [ha];simp [blk]);simpa using this)).zB HOl.out;have hne2:jQ m.x.parts≠[]:=fun e=>(by have:=jY hx;rw [e] at this;cases this);obtain ⟨bq,off,hpq,-⟩:=hrd.lt hne2;rw [hpq] at hrd hx15 ⊢;have hcx:=hrd.cells _ _ (jY hx);rw [Addr.add_lit] at hcx;have Hx:=Lib.hid hx
    have Hpq:=Lib.hid hpq;have Hrd:=Lib.hid hrd;clear hpq hx hrd hne2 hpne
    cases bb with
    | false =>
     have HN:Hid (false=true→False∧xC m.x.parts (j+1)):=Lib.hid (fun h=>absurd h (by decide));go_wp2_with fail;refine ⟨⟨j+1,false,rfl,by go_num,by omega,HN,HOl⟩,?_⟩;show n - ((j:Int)+1).toNat < n - ((j:Int)).toNat;omega
    | true =>
     have hcase:¬ 1≤x∨(1≤x∧¬ x≤16)∨(1≤x∧x≤16):=by omega
     rcases hcase with t1 | ⟨t1,t2⟩ | ⟨t1,t2⟩
     ·skip
      have HN:Hid (false=true→False∧xC m.x.parts (j+1)):=Lib.hid (fun h=>absurd h (by decide));go_wp2_with fail;refine ⟨⟨j+1,false,rfl,by go_num,by omega,HN,HOl⟩,?_⟩;show n - ((j:Int)+1).toNat < n - ((j:Int)).toNat;omega
     ·skip
      have t3:=decide_eq_false t2;clear t2;have HN:Hid (false=true→False∧xC m.x.parts (j+1)):=Lib.hid (fun h=>absurd h (by decide));go_wp2_with fail;refine ⟨⟨j+1,false,rfl,by go_num,by omega,HN,HOl⟩,?_⟩;show n - ((j:Int)+1).toNat < n - ((j:Int)).toNat;omega
     ·have Ht:=Lib.hid (And.intro t1 t2)
      by_cases hj0:j=0
      ·have q0:((j:Int) == 0)=true:=beq_iff_eq.2 (by omega);have Hj0:=Lib.hid hj0;clear hj0;have HN:Hid (true=true→False∧xC m.x.parts (j+1)):=Lib.hid (fun _=>⟨(HC.out (by trivial)).1,zAJ (HC.out (by trivial)).2 Hx.out Ht.out.1 Ht.out.2 (fun y h=>absurd h (by have:=Hj0.out;omega))⟩);go_wp2_with fail;refine ⟨⟨j+1,true,rfl,by go_num,by omega,HN,HOl⟩,?_⟩;show n - ((j:Int)+1).toNat < n - ((j:Int)).toNat;omega
      ·obtain ⟨y,hy⟩:∃ y,m.x.parts[j - 1]?=some y:=⟨_,List.getElem?_eq_getElem (by rw [Hn.out];omega)⟩;have hcy:=Hrd.out.cells _ _ (jY hy);rw [Addr.add_lit] at hcy;have Hy:=Lib.hid hy;have q0:((j:Int) == 0)=false:=beq_eq_false_iff_ne.2 (by omega);have q1:wrap64 ((j:Int) - 1)=((j - 1:Nat):Int):=(by rw [IntWalk.wrap64_in _ (by omega)];omega);have q2:IntKind.i64.wrap ((j:Int) - 1)=((j - 1:Nat):Int):=(by rw [IntWalk.i64_in _ (by omega)];omega);have q3:j - 1 < n:=(by omega);have Hj0:=Lib.hid hj0;clear hy hj0
       by_cases hyx:y < x
       ·have Hyx:=Lib.hid hyx;have HN:Hid (true=true→False∧xC m.x.parts (j+1)):=Lib.hid (fun _=>⟨(HC.out (by trivial)).1,zAJ (HC.out (by trivial)).2 Hx.out Ht.out.1 Ht.out.2 (fun z h hz=>by rw [Hy.out] at hz;cases hz;exact Hyx.out)⟩);go_wp2_with fail;refine ⟨⟨j+1,true,rfl,by go_num,by omega,HN,HOl⟩,?_⟩;show n - ((j:Int)+1).toNat < n - ((j:Int)).toNat;omega
       ·have q4:=decide_eq_false hyx;clear hyx;have HN:Hid (false=true→False∧xC m.x.parts (j+1)):=Lib.hid (fun h=>absurd h (by decide));go_wp2_with fail;refine ⟨⟨j+1,false,rfl,by go_num,by omega,HN,HOl⟩,?_⟩;show n - ((j:Int)+1).toNat < n - ((j:Int)).toNat;omega
   ·obtain rfl:j=n:=(by omega);go_wp2_with fail;exact HE.out _ _ _ _ _ _ _ _ _ _ _ _ _ _ _ _ _ _ _ _ _ _ _ _ _ _ _ _ _ _ _ _ _ _ _ _ _ _ _ _ _ _ _ _ _ _ _ _ _ _ _ _ _ _ _ _ _ _ _ _ _ _ _ _ _ _ _ _ _ _ _ _ _ _ _ _ _ _ _ _ _ _ _ _ _ _ _ _ _ _ _ _ _ _ _ _ _ _ _ _ _ _ _ _ _ _ _ _ _ _ _ _ _ _ _ _ _ _ _ _ _ _ _ _ _ _ _ _ _ _ _ _ bb ⟨{ z.x with upload:=m.x.upload,time:=m.x.time,parts:=m.x.parts },m.p,m.c⟩ _ (HX3.out.zB HOl.out) (HZ3.out.zB HOl.out) (HO3.out.zC HOl.out) (HEND.out bb (fun h=>absurd (HC.out h).1 (by simp)))
 ·skip
  have h0n0:¬ ((0:Int) < ((0:Nat):Int)):=(by omega);go_wp2_with fail
  go_loopw [4,142] (fun f a wl=>∃ (j:Nat) (bb:Bool),f=.bool bb∧a=.int .i64 (j:Int)∧j≤0∧Hid (bb=true→False∧xC m.x.parts j)∧Hid (Only [] w3 wl)) (fun _ a _=>0 - (intOf a).toNat)
  case atStart=>exact ⟨0,false,rfl,rfl,Nat.zero_le _,Lib.hid (fun h=>absurd h (by decide)),Lib.hid (Only.refl _ _)⟩
  case round =>
   (try clear h0n0)
   clear hx15;obtain ⟨j,bb,rfl,rfl,hj,HC,HOl⟩:=hrel;have hx15:=(HX3.out.zB HOl.out).cell (i:=15) rfl;rw [Hn.out] at hx15
   by_cases hlt:j < 0
   ·exact absurd hlt (Nat.not_lt_zero _)
   ·obtain rfl:j=0:=(by omega);go_wp2_with fail;exact HE.out _ _ _ _ _ _ _ _ _ _ _ _ _ _ _ _ _ _ _ _ _ _ _ _ _ _ _ _ _ _ _ _ _ _ _ _ _ _ _ _ _ _ _ _ _ _ _ _ _ _ _ _ _ _ _ _ _ _ _ _ _ _ _ _ _ _ _ _ _ _ _ _ _ _ _ _ _ _ _ _ _ _ _ _ _ _ _ _ _ _ _ _ _ _ _ _ _ _ _ _ _ _ _ _ _ _ _ _ _ _ _ _ _ _ _ _ _ _ _ _ _ _ _ _ _ _ _ _ _ _ _ _ bb ⟨{ z.x with upload:=m.x.upload,time:=m.x.time,parts:=m.x.parts },m.p,m.c⟩ _ (HX3.out.zB HOl.out) (HZ3.out.zB HOl.out) (HO3.out.zC HOl.out) (HEND.out bb (fun h=>absurd (HC.out h).1 (by simp)))
 ·have H0n:=Lib.hid h0n;have h0n0:((0:Int) < (n:Int)):=(by omega);go_wp2_with fail
  go_loopw [4,142] (fun f a wl=>∃ (j:Nat) (bb:Bool),f=.bool bb∧a=.int .i64 (j:Int)∧j≤n∧Hid (bb=true→True∧xC m.x.parts j)∧Hid (Only [] w3 wl)) (fun _ a _=>n - (intOf a).toNat)
  case atStart=>exact ⟨0,true,rfl,rfl,Nat.zero_le _,Lib.hid (fun h=>⟨by first | trivial | omega,zEi _⟩),Lib.hid (Only.refl _ _)⟩
  case round =>
   (try clear h0n0)
   clear hx15;obtain ⟨j,bb,rfl,rfl,hj,HC,HOl⟩:=hrel;have hx15:=(HX3.out.zB HOl.out).cell (i:=15) rfl;rw [Hn.out] at hx15
   by_cases hlt:j < n
   ·obtain ⟨x,hx⟩:∃ x,m.x.parts[j]?=some x:=⟨_,List.getElem?_eq_getElem (by rw [Hn.out];exact hlt)⟩;have hpne:m.x.parts≠[]:=fun e=>(by rw [e] at hx;cases hx);have hrd:Rd wr m.p (jQ m.x.parts):=(HM.out.1.only HO3.out (fun a ha=>by have:=HPZ.out hpne a.block (by rw [ha];simp [blk]);simpa using this)).zB HOl.out;have hne2:jQ m.x.parts≠[]:=fun e=>(by have:=jY hx;rw [e] at this;cases this);obtain ⟨bq,off,hpq,-⟩:=hrd.lt hne2;rw [hpq] at hrd hx15 ⊢;have hcx:=hrd.cells _ _ (jY hx);rw [Addr.add_lit] at hcx;have Hx:=Lib.hid hx
    have Hpq:=Lib.hid hpq;have Hrd:=Lib.hid hrd;clear hpq hx hrd hne2 hpne
    cases bb with
    | false =>
     have HN:Hid (false=true→True∧xC m.x.parts (j+1)):=Lib.hid (fun h=>absurd h (by decide));go_wp2_with fail;refine ⟨⟨j+1,false,rfl,by go_num,by omega,HN,HOl⟩,?_⟩;show n - ((j:Int)+1).toNat < n - ((j:Int)).toNat;omega
    | true =>
     have hcase:¬ 1≤x∨(1≤x∧¬ x≤16)∨(1≤x∧x≤16):=by omega
     rcases hcase with t1 | ⟨t1,t2⟩ | ⟨t1,t2⟩
     ·skip
      have HN:Hid (false=true→True∧xC m.x.parts (j+1)):=Lib.hid (fun h=>absurd h (by decide));go_wp2_with fail;refine ⟨⟨j+1,false,rfl,by go_num,by omega,HN,HOl⟩,?_⟩;show n - ((j:Int)+1).toNat < n - ((j:Int)).toNat;omega
     ·skip
      have t3:=decide_eq_false t2;clear t2;have HN:Hid (false=true→True∧xC m.x.parts (j+1)):=Lib.hid (fun h=>absurd h (by decide));go_wp2_with fail;refine ⟨⟨j+1,false,rfl,by go_num,by omega,HN,HOl⟩,?_⟩;show n - ((j:Int)+1).toNat < n - ((j:Int)).toNat;omega
     ·have Ht:=Lib.hid (And.intro t1 t2)
      by_cases hj0:j=0
      ·have q0:((j:Int) == 0)=true:=beq_iff_eq.2 (by omega);have Hj0:=Lib.hid hj0;clear hj0;have HN:Hid (true=true→True∧xC m.x.parts (j+1)):=Lib.hid (fun _=>⟨(HC.out (by trivial)).1,zAJ (HC.out (by trivial)).2 Hx.out Ht.out.1 Ht.out.2 (fun y h=>absurd h (by have:=Hj0.out;omega))⟩);go_wp2_with fail;refine ⟨⟨j+1,true,rfl,by go_num,by omega,HN,HOl⟩,?_⟩;show n - ((j:Int)+1).toNat < n - ((j:Int)).toNat;omega
      ·obtain ⟨y,hy⟩:∃ y,m.x.parts[j - 1]?=some y:=⟨_,List.getElem?_eq_getElem (by rw [Hn.out];omega)⟩;have hcy:=Hrd.out.cells _ _ (jY hy);rw [Addr.add_lit] at hcy;have Hy:=Lib.hid hy;have q0:((j:Int) == 0)=false:=beq_eq_false_iff_ne.2 (by omega);have q1:wrap64 ((j:Int) - 1)=((j - 1:Nat):Int):=(by rw [IntWalk.wrap64_in _ (by omega)];omega);have q2:IntKind.i64.wrap ((j:Int) - 1)=((j - 1:Nat):Int):=(by rw [IntWalk.i64_in _ (by omega)];omega);have q3:j - 1 < n:=(by omega);have Hj0:=Lib.hid hj0;clear hy hj0
       by_cases hyx:y < x
       ·have Hyx:=Lib.hid hyx;have HN:Hid (true=true→True∧xC m.x.parts (j+1)):=Lib.hid (fun _=>⟨(HC.out (by trivial)).1,zAJ (HC.out (by trivial)).2 Hx.out Ht.out.1 Ht.out.2 (fun z h hz=>by rw [Hy.out] at hz;cases hz;exact Hyx.out)⟩);go_wp2_with fail;refine ⟨⟨j+1,true,rfl,by go_num,by omega,HN,HOl⟩,?_⟩;show n - ((j:Int)+1).toNat < n - ((j:Int)).toNat;omega
       ·have q4:=decide_eq_false hyx;clear hyx;have HN:Hid (false=true→True∧xC m.x.parts (j+1)):=Lib.hid (fun h=>absurd h (by decide));go_wp2_with fail;refine ⟨⟨j+1,false,rfl,by go_num,by omega,HN,HOl⟩,?_⟩;show n - ((j:Int)+1).toNat < n - ((j:Int)).toNat;omega
   ·obtain rfl:j=n:=(by omega);go_wp2_with fail;exact HE.out _ _ _ _ _ _ _ _ _ _ _ _ _ _ _ _ _ _ _ _ _ _ _ _ _ _ _ _ _ _ _ _ _ _ _ _ _ _ _ _ _ _ _ _ _ _ _ _ _ _ _ _ _ _ _ _ _ _ _ _ _ _ _ _ _ _ _ _ _ _ _ _ _ _ _ _ _ _ _ _ _ _ _ _ _ _ _ _ _ _ _ _ _ _ _ _ _ _ _ _ _ _ _ _ _ _ _ _ _ _ _ _ _ _ _ _ _ _ _ _ _ _ _ _ _ _ _ _ _ _ _ _ bb ⟨{ z.x with upload:=m.x.upload,time:=m.x.time,parts:=m.x.parts },m.p,m.c⟩ _ (HX3.out.zB HOl.out) (HZ3.out.zB HOl.out) (HO3.out.zC HOl.out) (HEND.out bb (fun h=>⟨by trivial,H0n.out,(HC.out h).2⟩))
end
section
open Go.RowKit
theorem zBp {m z z':zT} {b b':Bool} (hid:zAr m.x.id.node m.x.id.boot m.x.id.seq) (hm:zJB m z b) (hs:Sw m z z' b b') (ht:zHp m z') (hb:b'=true):xK m.x∧m.x.parts.length≤16:=by
 have hb0:=hs.ok hb;have hz:z.x.parts=[]:=(by have:=hm.zz;exact congrArg (fun c:zT=>c.x.parts) this);have hpl:m.x.kind≠7→m.x.parts.length=0:=fun h=>(by rw [← ht.parts,hs.pl h,hz];rfl);refine ⟨⟨hs.klo,hs.khi,hid.1,hid.2.1,hm.bk hb0 (hs.bk.symm.trans ht.bucket),hm.ky hb0 (hs.ky.symm.trans ht.key),hs.pc hb,hs.part hb,fun h=>(hs.prt hb h).1,fun h=>(hs.prt hb h).2,ht.tt.1,ht.tt.2,ht.dd.1,ht.dd.2⟩,?_⟩
 by_cases h7:m.x.kind=7
 ·exact zCI (hs.prt hb h7).2.1 (hs.prt hb h7).2.2
 ·have:=hpl h7;omega
set_option maxHeartbeats 16000000 in
theorem zEY (m:zT) (w0:World) (hm:jP w0 m) (hs:zBx m) :
  Calls Tryz.prog 21 #[lmV m] w0 fun e w'=>∃ v,e=.returned (.bool v)∧(v=true→xK m.x∧m.x.parts.length≤16)∧Only [] w0 w':=by
 go_enter Tryz.func21,Tryz.ntmps21
 refine zFl _ m w0 ?_ ?_
 ·intro a w' h1 h2 h3;exact bodyPost_ret (results_tmp rfl _ _ _) h2 ⟨false,by rw [Array.getD_eq_getD_getElem?] at h1;simp only [Array.getD_eq_getD_getElem?];rw [h1],fun h=>absurd h (by decide),h3⟩
 ·intro u9 u10 u11 u12 u13 u14 u15 u16 u17 X Z w1 hne rX rZ o1 hzl hid;refine zFx _ m X Z w1 hne rX rZ hs ?_;intro v5 v6 v18 v19 v20 v21 v22 v23 v24 v25 v26 v27 v28 v29 v30 v31 v32 v33 v34 v35 v36 v37 v38 v39 v40 v41 v42 v43 v44 v45 v46 v47 v48 v49 v50 b z w2 rX2 rZ2 o2 mid
  have hend:∀ (a:Act) (v:Bool) (w w':World),a.tmps.getD 2 undef=.bool v→a.defers=[]→(v=true→xK m.x∧m.x.parts.length≤16)→Only [Z] w2 w→Only [] w w' →
    bodyPost Tryz.prog Tryz.f21 (fun e w'=>∃ v,e=.returned (.bool v)∧(v=true→xK m.x∧m.x.parts.length≤16)∧Only [] w0 w') .ret a w':=by
   intro a v w w' h1 h2 h3 h4 h5;refine bodyPost_ret (results_tmp rfl _ _ _) h2 ⟨v,by rw [Array.getD_eq_getD_getElem?] at h1;simp only [Array.getD_eq_getD_getElem?];rw [h1],h3,?_⟩;exact (o1.zX (o2.trans (h4.zC h5) (fun i hi _=>hi)) (by simp;exact hzl))
  have hsw:m.x.kind=3∨m.x.kind=6∨m.x.kind=7∨(m.x.kind≠3∧m.x.kind≠6∧m.x.kind≠7):=by omega
  have hpz:m.x.parts≠[]→∀ z∈blk m.p,z≠Z:=fun hne2 z hz e=>by
   obtain ⟨b1,off,hp,hb⟩:=hm.1.lt (fun e2=>hne2 (by simpa [jQ] using e2));rw [hp] at hz
   simp [blk] at hz
   omega
  have hm2:jP w2 m:=by
   by_cases hpe:m.x.parts=[]
   ·exact ⟨.inl (by rw [hpe];rfl),hm.2⟩
   ·exact (hm.zB o1).only o2 (fun z hz hc=>hpz hpe z hz (by simpa using hc))
  rcases hsw with hk | hk | hk | hk
  ·refine zHI zAS m z X Z b w2 hne rX2 rZ2 hs hk ?_;intro s7 s8 s51 s52 s53 s54 s55 s56 s57 s58 s59 s60 s61 s62 s63 s64 s65 s66 s67 s68 s69 s70 s71 s72 s73 s74 s75 s76 s77 s78 s79 s80 s81 s82 s83 s84 s85 s86 s87 s88 s89 s90 s91 s92 s93 s94 s95 s96 s97 s98 s99 s100 s101 s102 s103 s104 s105 s106 s107 s108 s109 s110 s111 s112 s113 s114 s115 s116 s117 s118 s119 s120 s121 s122 s123 s124 s125 s126 s127 s128 s129 s130 s131 s132 s133 s134 s135 s136 s137 s138 s139 s140 s141 s142 s143 s144 s145 s146 s147 s148 s149 s150 s151 s152 s153 s154 s155 s156 s157 s158 s159 s160 s161 s162 s163 s164 s165 s166 s167 s168 s169 s170 s171 s172 s173 s174 s175 s176 s177 s178 s179 s180 b' z' w3 rX3 rZ3 o3 sw
   refine zAa X Z m z' b' w3 rX3 rZ3 ?_;intro a v w4 h1 h2 h3 h4;exact hend a v w3 w4 h1 h2 (fun hv=>zBp hid mid sw (h3 hv).2 (h3 hv).1) o3 h4
  ·refine zHV zAS m z X Z b w2 hne rX2 rZ2 hs hk ?_;intro s7 s8 s51 s52 s53 s54 s55 s56 s57 s58 s59 s60 s61 s62 s63 s64 s65 s66 s67 s68 s69 s70 s71 s72 s73 s74 s75 s76 s77 s78 s79 s80 s81 s82 s83 s84 s85 s86 s87 s88 s89 s90 s91 s92 s93 s94 s95 s96 s97 s98 s99 s100 s101 s102 s103 s104 s105 s106 s107 s108 s109 s110 s111 s112 s113 s114 s115 s116 s117 s118 s119 s120 s121 s122 s123 s124 s125 s126 s127 s128 s129 s130 s131 s132 s133 s134 s135 s136 s137 s138 s139 s140 s141 s142 s143 s144 s145 s146 s147 s148 s149 s150 s151 s152 s153 s154 s155 s156 s157 s158 s159 s160 s161 s162 s163 s164 s165 s166 s167 s168 s169 s170 s171 s172 s173 s174 s175 s176 s177 s178 s179 s180 b' z' w3 rX3 rZ3 o3 sw
   refine zAa X Z m z' b' w3 rX3 rZ3 ?_;intro a v w4 h1 h2 h3 h4;exact hend a v w3 w4 h1 h2 (fun hv=>zBp hid mid sw (h3 hv).2 (h3 hv).1) o3 h4
  ·refine zGu zAS m z X Z b w2 hne rX2 rZ2 hs hm2 hpz hk ?_;intro s7 s8 s51 s52 s53 s54 s55 s56 s57 s58 s59 s60 s61 s62 s63 s64 s65 s66 s67 s68 s69 s70 s71 s72 s73 s74 s75 s76 s77 s78 s79 s80 s81 s82 s83 s84 s85 s86 s87 s88 s89 s90 s91 s92 s93 s94 s95 s96 s97 s98 s99 s100 s101 s102 s103 s104 s105 s106 s107 s108 s109 s110 s111 s112 s113 s114 s115 s116 s117 s118 s119 s120 s121 s122 s123 s124 s125 s126 s127 s128 s129 s130 s131 s132 s133 s134 s135 s136 s137 s138 s139 s140 s141 s142 s143 s144 s145 s146 s147 s148 s149 s150 s151 s152 s153 s154 s155 s156 s157 s158 s159 s160 s161 s162 s163 s164 s165 s166 s167 s168 s169 s170 s171 s172 s173 s174 s175 s176 s177 s178 s179 s180 b' z' w3 rX3 rZ3 o3 sw
   refine zAa X Z m z' b' w3 rX3 rZ3 ?_;intro a v w4 h1 h2 h3 h4;exact hend a v w3 w4 h1 h2 (fun hv=>zBp hid mid sw (h3 hv).2 (h3 hv).1) o3 h4
  ·refine zHh zAS m z X Z b w2 hne rX2 rZ2 hk ?_ ?_
   ·intro a w4 h1 h2 h4;exact hend a false w2 w4 h1 h2 (fun h=>absurd h (by decide)) (Only.refl _ _) h4
   intro s7 s8 s51 s52 s53 s54 s55 s56 s57 s58 s59 s60 s61 s62 s63 s64 s65 s66 s67 s68 s69 s70 s71 s72 s73 s74 s75 s76 s77 s78 s79 s80 s81 s82 s83 s84 s85 s86 s87 s88 s89 s90 s91 s92 s93 s94 s95 s96 s97 s98 s99 s100 s101 s102 s103 s104 s105 s106 s107 s108 s109 s110 s111 s112 s113 s114 s115 s116 s117 s118 s119 s120 s121 s122 s123 s124 s125 s126 s127 s128 s129 s130 s131 s132 s133 s134 s135 s136 s137 s138 s139 s140 s141 s142 s143 s144 s145 s146 s147 s148 s149 s150 s151 s152 s153 s154 s155 s156 s157 s158 s159 s160 s161 s162 s163 s164 s165 s166 s167 s168 s169 s170 s171 s172 s173 s174 s175 s176 s177 s178 s179 s180 b' z' w3 rX3 rZ3 o3 sw
   refine zAa X Z m z' b' w3 rX3 rZ3 ?_;intro a v w4 h1 h2 h3 h4;exact hend a v w3 w4 h1 h2 (fun hv=>zBp hid mid sw (h3 hv).2 (h3 hv).1) o3 h4
end
section
open Go.RowKit
set_option maxHeartbeats 16000000 in
theorem zFo (a b:LBk) (w0:World) (ha:zDr w0 a) (hb:zDr w0 b) (h1:a.os.length≤100000) (h2:a.us.length≤100000) (h3:∀ x∈a.os,x.o.pcs.length≤100000) (h4:∀ x∈a.us,x.u.parts.length≤100000):Calls Tryz.prog 26 #[lbV a,lbV b] w0 fun e w'=>e=.returned (.bool (decide (a.b=b.b)))∧Only [] w0 w':=by
 obtain ⟨k1,t1,d1,l1,p1,c1,j1,r1,e1⟩:=a;obtain ⟨k2,t2,d2,l2,p2,c2,j2,r2,e2⟩:=b;obtain ⟨n1,hn1⟩:∃ n,l1.length=n:=⟨_,rfl⟩;obtain ⟨n2,hn2⟩:∃ n,l2.length=n:=⟨_,rfl⟩;obtain ⟨m1,hm1⟩:∃ n,j1.length=n:=⟨_,rfl⟩;obtain ⟨m2,hm2⟩:∃ n,j2.length=n:=⟨_,rfl⟩;dsimp only at h1 h2 h3 h4;rw [hn1] at h1;rw [hm1] at h2;unfold lbV;dsimp only;rw [hn1,hn2,hm1,hm2];obtain ⟨D,hD⟩:∃ D,decide ((⟨k1,t1,d1,l1,p1,c1,j1,r1,e1⟩:LBk).b=(⟨k2,t2,d2,l2,p2,c2,j2,r2,e2⟩:LBk).b)=D:=⟨_,rfl⟩;rw [hD];unfold LBk.b at hD;dsimp only at hD
 obtain ⟨w1,hw1⟩:∃ w1,w1=w0.alloc (.cells #[.string (str k1),.int .i64 t1,.int .i64 d1,.slice p1 n1 c1,.slice r1 m1 e1] 60):=⟨_,rfl⟩;have o1:Only [] w0 w1:=(by rw [hw1];exact Only.alloc _ _);have s1:w1.heap.size=w0.heap.size+1:=(by rw [hw1];simp);have r1:Row w1 (w0.heap.size) 60 [.string (str k1),.int .i64 t1,.int .i64 d1,.slice p1 n1 c1,.slice r1 m1 e1]:=(by rw [hw1];exact Row.zV _ _ _ _ rfl);obtain ⟨w2,hw2⟩:∃ w2,w2=w1.alloc (.cells #[.string (str k2),.int .i64 t2,.int .i64 d2,.slice p2 n2 c2,.slice r2 m2 e2] 60):=⟨_,rfl⟩;have o2:Only [] w1 w2:=by rw [hw2];exact Only.alloc _ _
 have s2:w2.heap.size=w0.heap.size+1+1:=(by rw [hw2];simp [s1]);have r2:Row w2 (w0.heap.size+1) 60 [.string (str k2),.int .i64 t2,.int .i64 d2,.slice p2 n2 c2,.slice r2 m2 e2]:=(by rw [← s1,hw2];exact Row.zV _ _ _ _ rfl);replace r1:=r1.zB o2;have oAll:Only [] w0 w2:=(o1.zC o2);rw [hw1] at hw2;have Ha:=Lib.hid (ha.zB oAll);have Hb:=Lib.hid (hb.zB oAll);have HO:=Lib.hid oAll;have Hw:=Lib.hid hw2;have Hr1:=Lib.hid r1;have Hr2:=Lib.hid r2;have HDD:=Lib.hid hD;have H3:=Lib.hid h3;have H4:=Lib.hid h4;have Hn:Hid (l1.length=n1∧l2.length=n2∧j1.length=m1∧j2.length=m2):=Lib.hid ⟨hn1,hn2,hm1,hm2⟩
 have a0:=r1.cell (i:=0) rfl;have a1:=r1.cell (i:=1) rfl;have a2:=r1.cell (i:=2) rfl;have a3:=r1.cell (i:=3) rfl;have a4:=r1.cell (i:=4) rfl;have b0:=r2.cell (i:=0) rfl;have b1:=r2.cell (i:=1) rfl;have b2:=r2.cell (i:=2) rfl;have b3:=r2.cell (i:=3) rfl;have b4:=r2.cell (i:=4) rfl;clear hn1 hn2 hm1 hm2 ha hb oAll hw2 s2 s1 o1 o2 hw1 r1 r2 hD h3 h4
 by_cases hk:k1=k2
 rotate_left
 ·have fk:=qH k1 k2;rw [decide_eq_false hk] at fk;have Hx:=Lib.hid hk;clear hk;have HD:Hid (D=false):=Lib.hid (by rw [← HDD.out];exact decide_eq_false (fun e=>Hx.out (congrArg qW.name e)));clear HDD
  go_enter Tryz.func26,Tryz.ntmps26
  go_upto_region 1 with (fail)
  rw [← Hw.out];go_wp2_with fail
  go_ret
  exact ⟨by rw [HD.out];rfl,HO.out⟩
 subst hk;have fk:=qH k1 k1;rw [decide_eq_true rfl] at fk
 by_cases ht:t1=t2
 rotate_left
 ·have ft:(t1 == t2)=false:=beq_eq_false_iff_ne.2 ht;have Hx:=Lib.hid ht;clear ht;have HD:Hid (D=false):=Lib.hid (by rw [← HDD.out];exact decide_eq_false (fun e=>Hx.out (congrArg qW.time e)));clear HDD
  go_enter Tryz.func26,Tryz.ntmps26
  go_upto_region 1 with (fail)
  rw [← Hw.out];go_wp2_with fail
  go_ret
  exact ⟨by rw [HD.out];rfl,HO.out⟩
 subst ht
 by_cases hd:d1=d2
 rotate_left
 ·have fd:(d1 == d2)=false:=beq_eq_false_iff_ne.2 hd;have Hx:=Lib.hid hd;clear hd;have HD:Hid (D=false):=Lib.hid (by rw [← HDD.out];exact decide_eq_false (fun e=>Hx.out (congrArg qW.days e)));clear HDD
  go_enter Tryz.func26,Tryz.ntmps26
  go_upto_region 1 with (fail)
  rw [← Hw.out];go_wp2_with fail
  go_ret
  exact ⟨by rw [HD.out];rfl,HO.out⟩
 subst hd
 by_cases hln:n1=n2
 rotate_left
 ·have fl:((n1:Int) == (n2:Int))=false:=beq_eq_false_iff_ne.2 (by omega);have Hx:=Lib.hid hln;clear hln;have HD:Hid (D=false):=Lib.hid (by rw [← HDD.out];exact decide_eq_false (fun e=>Hx.out (by have h9:=congrArg (fun x=>(qW.xS x).length) e;simp only [List.length_map] at h9;rw [← Hn.out.1,← Hn.out.2.1];exact h9)));clear HDD
  go_enter Tryz.func26,Tryz.ntmps26
  go_upto_region 1 with (fail)
  rw [← Hw.out];go_wp2_with fail
  go_ret
  exact ⟨by rw [HD.out];rfl,HO.out⟩
 subst hln
 by_cases hln:m1=m2
 rotate_left
 ·have fl:((m1:Int) == (m2:Int))=false:=beq_eq_false_iff_ne.2 (by omega);have Hx:=Lib.hid hln;clear hln;have HD:Hid (D=false):=Lib.hid (by rw [← HDD.out];exact decide_eq_false (fun e=>Hx.out (by have h9:=congrArg (fun x=>(qW.xG x).length) e;simp only [List.length_map] at h9;rw [← Hn.out.2.2.1,← Hn.out.2.2.2];exact h9)));clear HDD
  go_enter Tryz.func26,Tryz.ntmps26
  go_upto_region 1 with (fail)
  rw [← Hw.out];go_wp2_with fail
  go_ret
  exact ⟨by rw [HD.out];rfl,HO.out⟩
 subst hln
 go_enter Tryz.func26,Tryz.ntmps26
 go_upto_region 1 with (fail)
 rw [← Hw.out];go_wp2_with fail;clear a0 b0 a1 b1 a2 b2 a3 b3 a4 b4
 go_loopw [47] (fun a wl=>∃ i:Nat,a=.int .i64 (i:Int)∧i≤n1∧Hid ((l1.take i).map qE.o=(l2.take i).map qE.o)∧Hid (Only [] w2 wl)) (fun a _=>n1 - (intOf a).toNat)
 case atStart=>exact ⟨0,rfl,Nat.zero_le _,Lib.hid rfl,Lib.hid (Only.refl _ _)⟩
 case round =>
  obtain ⟨i,rfl,hi,HT,HOl⟩:=hrel
  by_cases hlt:i < n1
  ·obtain ⟨x,hx⟩:∃ x,l1[i]?=some x:=⟨_,List.getElem?_eq_getElem (by rw [Hn.out.1];exact hlt)⟩;obtain ⟨y,hy⟩:∃ y,l2[i]?=some y:=⟨_,List.getElem?_eq_getElem (by rw [Hn.out.2.1];exact hlt)⟩;have hrx:=(Ha.out.zB HOl.out).so.1;have hry:=(Hb.out.zB HOl.out).so.1;dsimp only at hrx hry;have hnx:l1.flatMap zH≠[]:=fun e'=>(by have:=flat_get zH 5 zO l1 _ x 0 hx (by omega);rw [e'] at this;cases this);have hny:l2.flatMap zH≠[]:=fun e'=>(by have:=flat_get zH 5 zO l2 _ y 0 hy (by omega);rw [e'] at this;cases this);obtain ⟨bx,ox,rfl,-⟩:=hrx.lt hnx
   obtain ⟨b_y,oy,rfl,-⟩:=hry.lt hny;have x0:=zK zO hrx hx (r:=0) rfl;have x1:=zK zO hrx hx (r:=1) rfl;have x2:=zK zO hrx hx (r:=2) rfl;have x3:=zK zO hrx hx (r:=3) rfl;have x4:=zK zO hrx hx (r:=4) rfl;have y0:=zK zO hry hy (r:=0) rfl;have y1:=zK zO hry hy (r:=1) rfl;have y2:=zK zO hry hy (r:=2) rfl;have y3:=zK zO hry hy (r:=3) rfl;have y4:=zK zO hry hy (r:=4) rfl;rw [Addr.add_lit,← Nat.add_assoc] at x0 x1 x2 x3 x4 y0 y1 y2 y3 y4
   rw [Nat.add_zero] at x0 y0;have za:=(Hr1.out.zB HOl.out).cell (i:=3) rfl;have zb:=(Hr2.out.zB HOl.out).cell (i:=3) rfl;have hcall:=fun W (h:Only [] w2 W)=>zGI x y W ((Ha.out.ob x (List.mem_of_getElem? hx)).zB h) ((Hb.out.ob y (List.mem_of_getElem? hy)).zB h) (Nat.le_trans (H3.out x (List.mem_of_getElem? hx)) (by omega));unfold loV at hcall;have Hx:=Lib.hid hx;have Hy:=Lib.hid hy;clear hrx hry hnx hny hx hy
   by_cases hxy:x.o=y.o
   ·simp only [decide_eq_true hxy] at hcall;have HT2:Hid ((l1.take (i+1)).map qE.o=(l2.take (i+1)).map qE.o):=Lib.hid (by rw [List.take_add_one,List.take_add_one,Hx.out,Hy.out,List.map_append,List.map_append,HT.out];simp [hxy]);clear hxy
    go_upto_region 6 with (fail)
    refine qG (Only []) [[(2,none)],[(50,some 0)],[(5,none)],[(51,some 1),(52,some 0)],[(53,some 0)],[(3,none)],[(55,some 0)],[(5,none)],[(56,some 1),(57,some 0)],[(58,some 0)],[(54,some 5),(59,some 0)],[(60,some 0)]] [(61,0)] [none,none,none,none,none,none,none,none,none,none,none,none,none,none,none,none,none,none,none,none,none,none,none,none,none,none,none,none,none,none,none,none,none,none,none,none,none,none,none,none,none,none,none,none,none,none,none,none,none,none,some 50,some 51,some 52,some 53,some 54,some 55,some 56,some 57,some 58,some 59,some 60,some 61,none,none,none,none,none,none,none,none,none,none,none,none,none,none,none,none,none,none,none,none] (by kernel_rfl) rfl (by kernel_rfl) (fun _=>Only.refl _ _) (fun _ _ _ h k=>h.zC k) (Only.drew _) (by kernel_rfl) ?_
    apply zI
    ·rintro a w hR ⟨(e2:_=_),-⟩;refine zA rfl fun K hK=>?_;go_simp;exact hK _ _ rfl (Only.refl _ _)
    apply zI
    ·rintro a w hR ⟨(e50:_=_),-⟩;refine zA rfl fun K hK=>?_;have gz:=hR.cell za (by simp);go_simp;exact hK _ _ rfl (Only.refl _ _)
    apply zI
    ·rintro a w hR ⟨(e5:_=_),-⟩;refine zA rfl fun K hK=>?_;go_simp;exact hK _ _ rfl (Only.refl _ _)
    apply zI
    ·rintro a w hR ⟨(e51:_=_),(e52:_=_),-⟩;refine zA rfl fun K hK=>?_;have hlti:(i:Int) < (n1:Int):=(by omega);go_simp;exact hK _ _ rfl (Only.refl _ _)
    apply zI
    ·rintro a w hR ⟨(e53:_=_),-⟩;refine zA rfl fun K hK=>?_;have g0:=hR.cell x0 (by simp);have g1:=hR.cell x1 (by simp);have g2:=hR.cell x2 (by simp);have g3:=hR.cell x3 (by simp);have g4:=hR.cell x4 (by simp);go_simp;exact hK _ _ rfl (Only.refl _ _)
    apply zI
    ·rintro a w hR ⟨(e3:_=_),-⟩;refine zA rfl fun K hK=>?_;go_simp;exact hK _ _ rfl (Only.refl _ _)
    apply zI
    ·rintro a w hR ⟨(e55:_=_),-⟩;refine zA rfl fun K hK=>?_;have gz:=hR.cell zb (by simp);go_simp;exact hK _ _ rfl (Only.refl _ _)
    apply zI
    ·rintro a w hR ⟨(e5:_=_),-⟩;refine zA rfl fun K hK=>?_;go_simp;exact hK _ _ rfl (Only.refl _ _)
    apply zI
    ·rintro a w hR ⟨(e56:_=_),(e57:_=_),-⟩;refine zA rfl fun K hK=>?_;have hlti:(i:Int) < (n1:Int):=(by omega);go_simp;exact hK _ _ rfl (Only.refl _ _)
    apply zI
    ·rintro a w hR ⟨(e58:_=_),-⟩;refine zA rfl fun K hK=>?_;have g0:=hR.cell y0 (by simp);have g1:=hR.cell y1 (by simp);have g2:=hR.cell y2 (by simp);have g3:=hR.cell y3 (by simp);have g4:=hR.cell y4 (by simp);go_simp;exact hK _ _ rfl (Only.refl _ _)
    apply zI
    ·rintro a w hR ⟨(e54:_=_),(e59:_=_),-⟩;refine zA rfl fun K hK=>?_;go_simp;(with_reducible refine (hcall w (HOl.out.zC hR)).mono ?_);rintro e w' ⟨rfl,o'⟩;exact hK _ _ rfl o'
    apply zI
    ·rintro a w hR ⟨(e60:_=_),-⟩;refine zA rfl fun K hK=>?_;go_simp;exact hK _ _ rfl (Only.refl _ _)
    intro f6 w6 hR6 hf;dsimp only [qD];obtain ⟨e61,-⟩:=hf;replace e61:f6 61=_:=e61;rw [e61];have HO2:=Lib.hid (HOl.out.zC hR6);clear hR6;clear hcall za zb x0 x1 x2 x3 x4 y0 y1 y2 y3 y4;go_wp2_with fail;refine ⟨⟨i+1,by go_num,by omega,HT2,HO2⟩,?_⟩
    simp [intOf];omega
   ·simp only [decide_eq_false hxy] at hcall;have HD:Hid (D=false):=Lib.hid (by rw [← HDD.out];exact decide_eq_false (fun e=>hxy (by have h9:=congrArg qW.xS e;have h8:=congrArg (fun z=>z[i]?) h9;dsimp only at h8;rw [List.getElem?_map,List.getElem?_map,Hx.out,Hy.out] at h8;exact Option.some.inj h8)));clear hxy
    go_upto_region 6 with (fail)
    refine qG (Only []) [[(2,none)],[(50,some 0)],[(5,none)],[(51,some 1),(52,some 0)],[(53,some 0)],[(3,none)],[(55,some 0)],[(5,none)],[(56,some 1),(57,some 0)],[(58,some 0)],[(54,some 5),(59,some 0)],[(60,some 0)]] [(61,0)] [none,none,none,none,none,none,none,none,none,none,none,none,none,none,none,none,none,none,none,none,none,none,none,none,none,none,none,none,none,none,none,none,none,none,none,none,none,none,none,none,none,none,none,none,none,none,none,none,none,none,some 50,some 51,some 52,some 53,some 54,some 55,some 56,some 57,some 58,some 59,some 60,some 61,none,none,none,none,none,none,none,none,none,none,none,none,none,none,none,none,none,none,none,none] (by kernel_rfl) rfl (by kernel_rfl) (fun _=>Only.refl _ _) (fun _ _ _ h k=>h.zC k) (Only.drew _) (by kernel_rfl) ?_
    apply zI
    ·rintro a w hR ⟨(e2:_=_),-⟩;refine zA rfl fun K hK=>?_;go_simp;exact hK _ _ rfl (Only.refl _ _)
    apply zI
    ·rintro a w hR ⟨(e50:_=_),-⟩;refine zA rfl fun K hK=>?_;have gz:=hR.cell za (by simp);go_simp;exact hK _ _ rfl (Only.refl _ _)
    apply zI
    ·rintro a w hR ⟨(e5:_=_),-⟩;refine zA rfl fun K hK=>?_;go_simp;exact hK _ _ rfl (Only.refl _ _)
    apply zI
    ·rintro a w hR ⟨(e51:_=_),(e52:_=_),-⟩;refine zA rfl fun K hK=>?_;have hlti:(i:Int) < (n1:Int):=(by omega);go_simp;exact hK _ _ rfl (Only.refl _ _)
    apply zI
    ·rintro a w hR ⟨(e53:_=_),-⟩;refine zA rfl fun K hK=>?_;have g0:=hR.cell x0 (by simp);have g1:=hR.cell x1 (by simp);have g2:=hR.cell x2 (by simp);have g3:=hR.cell x3 (by simp);have g4:=hR.cell x4 (by simp);go_simp;exact hK _ _ rfl (Only.refl _ _)
    apply zI
    ·rintro a w hR ⟨(e3:_=_),-⟩;refine zA rfl fun K hK=>?_;go_simp;exact hK _ _ rfl (Only.refl _ _)
    apply zI
    ·rintro a w hR ⟨(e55:_=_),-⟩;refine zA rfl fun K hK=>?_;have gz:=hR.cell zb (by simp);go_simp;exact hK _ _ rfl (Only.refl _ _)
    apply zI
    ·rintro a w hR ⟨(e5:_=_),-⟩;refine zA rfl fun K hK=>?_;go_simp;exact hK _ _ rfl (Only.refl _ _)
    apply zI
    ·rintro a w hR ⟨(e56:_=_),(e57:_=_),-⟩;refine zA rfl fun K hK=>?_;have hlti:(i:Int) < (n1:Int):=(by omega);go_simp;exact hK _ _ rfl (Only.refl _ _)
    apply zI
    ·rintro a w hR ⟨(e58:_=_),-⟩;refine zA rfl fun K hK=>?_;have g0:=hR.cell y0 (by simp);have g1:=hR.cell y1 (by simp);have g2:=hR.cell y2 (by simp);have g3:=hR.cell y3 (by simp);have g4:=hR.cell y4 (by simp);go_simp;exact hK _ _ rfl (Only.refl _ _)
    apply zI
    ·rintro a w hR ⟨(e54:_=_),(e59:_=_),-⟩;refine zA rfl fun K hK=>?_;go_simp;(with_reducible refine (hcall w (HOl.out.zC hR)).mono ?_);rintro e w' ⟨rfl,o'⟩;exact hK _ _ rfl o'
    apply zI
    ·rintro a w hR ⟨(e60:_=_),-⟩;refine zA rfl fun K hK=>?_;go_simp;exact hK _ _ rfl (Only.refl _ _)
    intro f6 w6 hR6 hf;dsimp only [qD];obtain ⟨e61,-⟩:=hf;replace e61:f6 61=_:=e61;rw [e61];have HO2:=Lib.hid (HOl.out.zC hR6);clear hR6;clear hcall za zb x0 x1 x2 x3 x4 y0 y1 y2 y3 y4;go_wp2_with fail
    go_ret
    exact ⟨by rw [HD.out];rfl,HO.out.zC HO2.out⟩
  ·obtain rfl:i=n1:=(by omega);rw [List.take_of_length_le (by rw [Hn.out.1];exact Nat.le_refl _),List.take_of_length_le (by rw [Hn.out.2.1];exact Nat.le_refl _)] at HT;have HT1:=HT;have HOm:=HOl;have za:=(Hr1.out.zB HOl.out).cell (i:=4) rfl;clear HT HOl;go_wp2_with fail;clear za
   go_loopw [66] (fun a wl=>∃ i2:Nat,a=.int .i64 (i2:Int)∧i2≤m1∧Hid ((j1.take i2).map qM.u=(j2.take i2).map qM.u)∧Hid (Only [] w2 wl)) (fun a _=>m1 - (intOf a).toNat)
   case atStart=>exact ⟨0,rfl,Nat.zero_le _,Lib.hid rfl,HOm⟩
   case round =>
    obtain ⟨i2,rfl,hi,HT,HOl⟩:=hrel
    by_cases hlt:i2 < m1
    ·obtain ⟨x,hx⟩:∃ x,j1[i2]?=some x:=⟨_,List.getElem?_eq_getElem (by rw [Hn.out.2.2.1];exact hlt)⟩;obtain ⟨y,hy⟩:∃ y,j2[i2]?=some y:=⟨_,List.getElem?_eq_getElem (by rw [Hn.out.2.2.2];exact hlt)⟩;have hrx:=(Ha.out.zB HOl.out).su.1;have hry:=(Hb.out.zB HOl.out).su.1;dsimp only at hrx hry;have hnx:j1.flatMap zG≠[]:=fun e'=>(by have:=flat_get zG 5 zR j1 _ x 0 hx (by omega);rw [e'] at this;cases this);have hny:j2.flatMap zG≠[]:=fun e'=>by have:=flat_get zG 5 zR j2 _ y 0 hy (by omega);rw [e'] at this;cases this
     obtain ⟨bx,ox,rfl,-⟩:=hrx.lt hnx;obtain ⟨b_y,oy,rfl,-⟩:=hry.lt hny;have x0:=zK zR hrx hx (r:=0) rfl;have x1:=zK zR hrx hx (r:=1) rfl;have x2:=zK zR hrx hx (r:=2) rfl;have x3:=zK zR hrx hx (r:=3) rfl;have x4:=zK zR hrx hx (r:=4) rfl;have y0:=zK zR hry hy (r:=0) rfl;have y1:=zK zR hry hy (r:=1) rfl;have y2:=zK zR hry hy (r:=2) rfl;have y3:=zK zR hry hy (r:=3) rfl;have y4:=zK zR hry hy (r:=4) rfl;rw [Addr.add_lit,← Nat.add_assoc] at x0 x1 x2 x3 x4 y0 y1 y2 y3 y4
     rw [Nat.add_zero] at x0 y0;have za:=(Hr1.out.zB HOl.out).cell (i:=4) rfl;have zb:=(Hr2.out.zB HOl.out).cell (i:=4) rfl;have hcall:=fun W (h:Only [] w2 W)=>zFt x y W ((Ha.out.up x (List.mem_of_getElem? hx)).zB h) ((Hb.out.up y (List.mem_of_getElem? hy)).zB h) (Nat.le_trans (H4.out x (List.mem_of_getElem? hx)) (by omega));unfold luV at hcall;have Hx:=Lib.hid hx;have Hy:=Lib.hid hy;clear hrx hry hnx hny hx hy
     by_cases hxy:x.u=y.u
     ·simp only [decide_eq_true hxy] at hcall;have HT2:Hid ((j1.take (i2+1)).map qM.u=(j2.take (i2+1)).map qM.u):=Lib.hid (by rw [List.take_add_one,List.take_add_one,Hx.out,Hy.out,List.map_append,List.map_append,HT.out];simp [hxy]);clear hxy
      go_upto_region 12 with (fail)
      refine qG (Only []) [[(2,none)],[(69,some 0)],[(6,none)],[(70,some 1),(71,some 0)],[(72,some 0)],[(3,none)],[(74,some 0)],[(6,none)],[(75,some 1),(76,some 0)],[(77,some 0)],[(73,some 5),(78,some 0)],[(79,some 0)]] [(80,0)] [none,none,none,none,none,none,none,none,none,none,none,none,none,none,none,none,none,none,none,none,none,none,none,none,none,none,none,none,none,none,none,none,none,none,none,none,none,none,none,none,none,none,none,none,none,none,none,none,none,none,none,none,none,none,none,none,none,none,none,none,none,none,none,none,none,none,none,none,none,some 69,some 70,some 71,some 72,some 73,some 74,some 75,some 76,some 77,some 78,some 79,some 80,none] (by kernel_rfl) rfl (by kernel_rfl) (fun _=>Only.refl _ _) (fun _ _ _ h k=>h.zC k) (Only.drew _) (by kernel_rfl) ?_
      apply zI
      ·rintro a w hR ⟨(e2:_=_),-⟩;refine zA rfl fun K hK=>?_;go_simp;exact hK _ _ rfl (Only.refl _ _)
      apply zI
      ·rintro a w hR ⟨(e69:_=_),-⟩;refine zA rfl fun K hK=>?_;have gz:=hR.cell za (by simp);go_simp;exact hK _ _ rfl (Only.refl _ _)
      apply zI
      ·rintro a w hR ⟨(e6:_=_),-⟩;refine zA rfl fun K hK=>?_;go_simp;exact hK _ _ rfl (Only.refl _ _)
      apply zI
      ·rintro a w hR ⟨(e70:_=_),(e71:_=_),-⟩;refine zA rfl fun K hK=>?_;have hlti:(i2:Int) < (m1:Int):=(by omega);go_simp;exact hK _ _ rfl (Only.refl _ _)
      apply zI
      ·rintro a w hR ⟨(e72:_=_),-⟩;refine zA rfl fun K hK=>?_;have g0:=hR.cell x0 (by simp);have g1:=hR.cell x1 (by simp);have g2:=hR.cell x2 (by simp);have g3:=hR.cell x3 (by simp);have g4:=hR.cell x4 (by simp);go_simp;exact hK _ _ rfl (Only.refl _ _)
      apply zI
      ·rintro a w hR ⟨(e3:_=_),-⟩;refine zA rfl fun K hK=>?_;go_simp;exact hK _ _ rfl (Only.refl _ _)
      apply zI
      ·rintro a w hR ⟨(e74:_=_),-⟩;refine zA rfl fun K hK=>?_;have gz:=hR.cell zb (by simp);go_simp;exact hK _ _ rfl (Only.refl _ _)
      apply zI
      ·rintro a w hR ⟨(e6:_=_),-⟩;refine zA rfl fun K hK=>?_;go_simp;exact hK _ _ rfl (Only.refl _ _)
      apply zI
      ·rintro a w hR ⟨(e75:_=_),(e76:_=_),-⟩;refine zA rfl fun K hK=>?_;have hlti:(i2:Int) < (m1:Int):=(by omega);go_simp;exact hK _ _ rfl (Only.refl _ _)
      apply zI
      ·rintro a w hR ⟨(e77:_=_),-⟩;refine zA rfl fun K hK=>?_;have g0:=hR.cell y0 (by simp);have g1:=hR.cell y1 (by simp);have g2:=hR.cell y2 (by simp);have g3:=hR.cell y3 (by simp);have g4:=hR.cell y4 (by simp);go_simp;exact hK _ _ rfl (Only.refl _ _)
      apply zI
      ·rintro a w hR ⟨(e73:_=_),(e78:_=_),-⟩;refine zA rfl fun K hK=>?_;go_simp;(with_reducible refine (hcall w (HOl.out.zC hR)).mono ?_);rintro e w' ⟨rfl,o'⟩;exact hK _ _ rfl o'
      apply zI
      ·rintro a w hR ⟨(e79:_=_),-⟩;refine zA rfl fun K hK=>?_;go_simp;exact hK _ _ rfl (Only.refl _ _)
      intro f12 w12 hR12 hf;dsimp only [qD];obtain ⟨e80,-⟩:=hf;replace e80:f12 80=_:=e80;rw [e80];have HO2:=Lib.hid (HOl.out.zC hR12);clear hR12;clear hcall za zb x0 x1 x2 x3 x4 y0 y1 y2 y3 y4;go_wp2_with fail;refine ⟨⟨i2+1,by go_num,by omega,HT2,HO2⟩,?_⟩
      simp [intOf];omega
     ·simp only [decide_eq_false hxy] at hcall;have HD:Hid (D=false):=Lib.hid (by rw [← HDD.out];exact decide_eq_false (fun e=>hxy (by have h9:=congrArg qW.xG e;have h8:=congrArg (fun z=>z[i2]?) h9;dsimp only at h8;rw [List.getElem?_map,List.getElem?_map,Hx.out,Hy.out] at h8;exact Option.some.inj h8)));clear hxy
      go_upto_region 12 with (fail)
      refine qG (Only []) [[(2,none)],[(69,some 0)],[(6,none)],[(70,some 1),(71,some 0)],[(72,some 0)],[(3,none)],[(74,some 0)],[(6,none)],[(75,some 1),(76,some 0)],[(77,some 0)],[(73,some 5),(78,some 0)],[(79,some 0)]] [(80,0)] [none,none,none,none,none,none,none,none,none,none,none,none,none,none,none,none,none,none,none,none,none,none,none,none,none,none,none,none,none,none,none,none,none,none,none,none,none,none,none,none,none,none,none,none,none,none,none,none,none,none,none,none,none,none,none,none,none,none,none,none,none,none,none,none,none,none,none,none,none,some 69,some 70,some 71,some 72,some 73,some 74,some 75,some 76,some 77,some 78,some 79,some 80,none] (by kernel_rfl) rfl (by kernel_rfl) (fun _=>Only.refl _ _) (fun _ _ _ h k=>h.zC k) (Only.drew _) (by kernel_rfl) ?_
      apply zI
      ·rintro a w hR ⟨(e2:_=_),-⟩;refine zA rfl fun K hK=>?_;go_simp;exact hK _ _ rfl (Only.refl _ _)
      apply zI
      ·rintro a w hR ⟨(e69:_=_),-⟩;refine zA rfl fun K hK=>?_;have gz:=hR.cell za (by simp);go_simp;exact hK _ _ rfl (Only.refl _ _)
      apply zI
      ·rintro a w hR ⟨(e6:_=_),-⟩;refine zA rfl fun K hK=>?_;go_simp;exact hK _ _ rfl (Only.refl _ _)
      apply zI
      ·rintro a w hR ⟨(e70:_=_),(e71:_=_),-⟩;refine zA rfl fun K hK=>?_;have hlti:(i2:Int) < (m1:Int):=(by omega);go_simp;exact hK _ _ rfl (Only.refl _ _)
      apply zI
      ·rintro a w hR ⟨(e72:_=_),-⟩;refine zA rfl fun K hK=>?_;have g0:=hR.cell x0 (by simp);have g1:=hR.cell x1 (by simp);have g2:=hR.cell x2 (by simp);have g3:=hR.cell x3 (by simp);have g4:=hR.cell x4 (by simp);go_simp;exact hK _ _ rfl (Only.refl _ _)
      apply zI
      ·rintro a w hR ⟨(e3:_=_),-⟩;refine zA rfl fun K hK=>?_;go_simp;exact hK _ _ rfl (Only.refl _ _)
      apply zI
      ·rintro a w hR ⟨(e74:_=_),-⟩;refine zA rfl fun K hK=>?_;have gz:=hR.cell zb (by simp);go_simp;exact hK _ _ rfl (Only.refl _ _)
      apply zI
      ·rintro a w hR ⟨(e6:_=_),-⟩;refine zA rfl fun K hK=>?_;go_simp;exact hK _ _ rfl (Only.refl _ _)
      apply zI
      ·rintro a w hR ⟨(e75:_=_),(e76:_=_),-⟩;refine zA rfl fun K hK=>?_;have hlti:(i2:Int) < (m1:Int):=(by omega);go_simp;exact hK _ _ rfl (Only.refl _ _)
      apply zI
      ·rintro a w hR ⟨(e77:_=_),-⟩;refine zA rfl fun K hK=>?_;have g0:=hR.cell y0 (by simp);have g1:=hR.cell y1 (by simp);have g2:=hR.cell y2 (by simp);have g3:=hR.cell y3 (by simp);have g4:=hR.cell y4 (by simp);go_simp;exact hK _ _ rfl (Only.refl _ _)
      apply zI
      ·rintro a w hR ⟨(e73:_=_),(e78:_=_),-⟩;refine zA rfl fun K hK=>?_;go_simp;(with_reducible refine (hcall w (HOl.out.zC hR)).mono ?_);rintro e w' ⟨rfl,o'⟩;exact hK _ _ rfl o'
      apply zI
      ·rintro a w hR ⟨(e79:_=_),-⟩;refine zA rfl fun K hK=>?_;go_simp;exact hK _ _ rfl (Only.refl _ _)
      intro f12 w12 hR12 hf;dsimp only [qD];obtain ⟨e80,-⟩:=hf;replace e80:f12 80=_:=e80;rw [e80];have HO2:=Lib.hid (HOl.out.zC hR12);clear hR12;clear hcall za zb x0 x1 x2 x3 x4 y0 y1 y2 y3 y4;go_wp2_with fail
      go_ret
      exact ⟨by rw [HD.out];rfl,HO.out.zC HO2.out⟩
    ·obtain rfl:i2=m1:=(by omega);rw [List.take_of_length_le (by rw [Hn.out.2.2.1];exact Nat.le_refl _),List.take_of_length_le (by rw [Hn.out.2.2.2];exact Nat.le_refl _)] at HT
     have HD:Hid (D=true):=Lib.hid (by
      rw [← HDD.out]
      exact decide_eq_true (by rw [HT1.out,HT.out]))
     go_wp2_with fail
     go_ret
     exact ⟨by rw [HD.out];rfl,HO.out.zC HOl.out⟩
end
end Go.Proofs.YtfeglnpmpgipiaaGreatDoor
