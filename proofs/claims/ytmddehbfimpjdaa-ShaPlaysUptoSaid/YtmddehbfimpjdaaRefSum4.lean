/- bollardref03.Sum's 64 rounds. -/
import Derived.Test.YtmddehbfimpjdaaRefSum5
import Derived.Test.YtmddehbfimpjdaaRegion
set_option linter.unusedVariables false
namespace Go.Proofs.Ytmddehbfimpjdaa
open Go.RowKit

theorem choose_cells (e f g : UInt32) : bits .xor .u32 (bits .and .u32 (e.toNat : Int) (f.toNat : Int)) (bits .and .u32 (bits .xor .u32 (e.toNat : Int) 4294967295) (g.toNat : Int)) = ((choose e f g).toNat : Int) := by
  have h : bits .xor .u32 (e.toNat : Int) 4294967295 = ((~~~e).toNat : Int) := by
    have := u32_xor_u32 e 4294967295
    rw [show ((4294967295 : UInt32).toNat : Int) = 4294967295 by decide] at this
    rw [this]
    congr 2
    rw [UInt32.xor_comm]
    rfl
  rw [h, u32_and_u32, u32_and_u32, u32_xor_u32]; rfl
theorem most_cells (a b c : UInt32) : bits .xor .u32 (bits .xor .u32 (bits .and .u32 (a.toNat : Int) (b.toNat : Int)) (bits .and .u32 (a.toNat : Int) (c.toNat : Int))) (bits .and .u32 (b.toNat : Int) (c.toNat : Int)) = ((most a b c).toNat : Int) := by
  rw [u32_and_u32, u32_and_u32, u32_and_u32, u32_xor_u32, u32_xor_u32]; rfl
set_option maxRecDepth 1000000 in
set_option maxHeartbeats 8000000 in
theorem refLoop4 {Q : Exit → Act → World → Prop} {c0 c1 c2 c3 c4 c5 c7 c8 c9 c10 c13 c14 c15 c16 c17 c18 c19 c20 c21 c22 c23 c24 c25 c26 c27 c28 c29 c30 c31 c32 c33 c34 c35 c36 c37 c38 c39 c40 c41 c42 c43 c44 c45 c46 c47 c48 c49 c50 c51 c52 c53 c54 c55 c56 c57 c58 c59 c60 c61 c62 c63 c64 c65 c66 c67 c68 c69 c70 c71 c72 c73 c74 c75 c76 c77 c78 c79 c80 c81 c82 c83 c84 c85 c86 c87 c88 c89 c90 c91 c92 c93 c94 c95 c96 c97 c98 c99 c100 c101 c102 c103 c104 c105 c106 c107 c108 c109 c110 c111 c112 c113 c114 c115 c116 c117 c118 c119 c120 c121 c122 c123 c124 c125 c126 c127 c128 c129 c130 c131 c132 c133 c134 c135 c136 c137 c138 c139 c140 c141 c142 c143 c144 c145 c146 c147 c148 c149 c150 c151 c152 c153 c154 c155 c156 c157 c158 c159 c160 c161 c162 c163 c164 c165 c166 c167 c168 c169 c170 c171 c172 c173 c174 c175 c176 c177 c178 c179 c180 c181 c182 c183 c184 c185 c186 c187 c188 c189 c190 c191 c192 c193 c194 c195 c196 c197 c198 c199 c200 c201 c202 c203 c204 c205 c206 c207 c208 c209 c210 c211 c212 c213 c214 c215 c216 c217 c218 c219 c220 c221 : Value} (g6 g11 : Nat) (S : List UInt32) (s : St) (w0 : World) (hS : S.length = 64) (hrow6 : Row w0 g6 57 (u32s S)) (hrow : Row w0 g11 58 (u32s s.l)) (hg : g6 ≠ g11)
    (hexit : ∀ (u12 u13 u14 u15 u16 u17 u103 u104 u105 u106 u107 u108 u109 u110 u111 u112 u113 u114 u115 u116 u117 u118 u119 u120 u121 u122 u123 u124 u125 u126 u127 u128 u129 u130 u131 u132 u133 u134 u135 u136 u137 u138 u139 u140 u141 u142 u143 u144 u145 u146 u147 u148 u149 u150 u151 u152 u153 u154 u155 u156 u157 u158 u159 u160 u161 u162 u163 u164 u165 u166 u167 u168 u169 u170 u171 u172 u173 u174 u175 u176 u177 u178 u179 u180 u181 u182 u183 u184 u185 u186 u187 u188 u189 u190 u191 : Value) (w' : World), Row w' g11 58 (u32s (rnds s shaK S).l) → Only [g11] w0 w' → Q (.exit 6) ⟨(c0 :: c1 :: c2 :: c3 :: c4 :: c5 :: .slice (some ⟨g6, 0, none⟩) 64 64 :: c7 :: c8 :: c9 :: c10 :: .pointer (some ⟨g11, 0, none⟩) :: u12 :: u13 :: u14 :: u15 :: u16 :: u17 :: c18 :: c19 :: c20 :: c21 :: c22 :: c23 :: c24 :: c25 :: c26 :: c27 :: c28 :: c29 :: c30 :: c31 :: c32 :: c33 :: c34 :: c35 :: c36 :: c37 :: c38 :: c39 :: c40 :: c41 :: c42 :: c43 :: c44 :: c45 :: c46 :: c47 :: c48 :: c49 :: c50 :: c51 :: c52 :: c53 :: c54 :: c55 :: c56 :: c57 :: c58 :: c59 :: c60 :: c61 :: c62 :: c63 :: c64 :: c65 :: c66 :: c67 :: c68 :: c69 :: c70 :: c71 :: c72 :: c73 :: c74 :: c75 :: c76 :: c77 :: c78 :: c79 :: c80 :: c81 :: c82 :: c83 :: c84 :: c85 :: c86 :: c87 :: c88 :: c89 :: c90 :: c91 :: c92 :: c93 :: c94 :: c95 :: c96 :: c97 :: c98 :: c99 :: c100 :: c101 :: c102 :: u103 :: u104 :: u105 :: u106 :: u107 :: u108 :: u109 :: u110 :: u111 :: u112 :: u113 :: u114 :: u115 :: u116 :: u117 :: u118 :: u119 :: u120 :: u121 :: u122 :: u123 :: u124 :: u125 :: u126 :: u127 :: u128 :: u129 :: u130 :: u131 :: u132 :: u133 :: u134 :: u135 :: u136 :: u137 :: u138 :: u139 :: u140 :: u141 :: u142 :: u143 :: u144 :: u145 :: u146 :: u147 :: u148 :: u149 :: u150 :: u151 :: u152 :: u153 :: u154 :: u155 :: u156 :: u157 :: u158 :: u159 :: u160 :: u161 :: u162 :: u163 :: u164 :: u165 :: u166 :: u167 :: u168 :: u169 :: u170 :: u171 :: u172 :: u173 :: u174 :: u175 :: u176 :: u177 :: u178 :: u179 :: u180 :: u181 :: u182 :: u183 :: u184 :: u185 :: u186 :: u187 :: u188 :: u189 :: u190 :: u191 :: c192 :: c193 :: c194 :: c195 :: c196 :: c197 :: c198 :: c199 :: c200 :: c201 :: c202 :: c203 :: c204 :: c205 :: c206 :: c207 :: c208 :: c209 :: c210 :: c211 :: c212 :: c213 :: c214 :: c215 :: c216 :: c217 :: c218 :: c219 :: c220 :: c221 :: []).toArray, []⟩ w') :
    Code.wp Try.prog (refSumLoop 3) Q ⟨(c0 :: c1 :: c2 :: c3 :: c4 :: c5 :: .slice (some ⟨g6, 0, none⟩) 64 64 :: c7 :: c8 :: c9 :: c10 :: .pointer (some ⟨g11, 0, none⟩) :: .int .i64 0 :: c13 :: c14 :: c15 :: c16 :: c17 :: c18 :: c19 :: c20 :: c21 :: c22 :: c23 :: c24 :: c25 :: c26 :: c27 :: c28 :: c29 :: c30 :: c31 :: c32 :: c33 :: c34 :: c35 :: c36 :: c37 :: c38 :: c39 :: c40 :: c41 :: c42 :: c43 :: c44 :: c45 :: c46 :: c47 :: c48 :: c49 :: c50 :: c51 :: c52 :: c53 :: c54 :: c55 :: c56 :: c57 :: c58 :: c59 :: c60 :: c61 :: c62 :: c63 :: c64 :: c65 :: c66 :: c67 :: c68 :: c69 :: c70 :: c71 :: c72 :: c73 :: c74 :: c75 :: c76 :: c77 :: c78 :: c79 :: c80 :: c81 :: c82 :: c83 :: c84 :: c85 :: c86 :: c87 :: c88 :: c89 :: c90 :: c91 :: c92 :: c93 :: c94 :: c95 :: c96 :: c97 :: c98 :: c99 :: c100 :: c101 :: c102 :: c103 :: c104 :: c105 :: c106 :: c107 :: c108 :: c109 :: c110 :: c111 :: c112 :: c113 :: c114 :: c115 :: c116 :: c117 :: c118 :: c119 :: c120 :: c121 :: c122 :: c123 :: c124 :: c125 :: c126 :: c127 :: c128 :: c129 :: c130 :: c131 :: c132 :: c133 :: c134 :: c135 :: c136 :: c137 :: c138 :: c139 :: c140 :: c141 :: c142 :: c143 :: c144 :: c145 :: c146 :: c147 :: c148 :: c149 :: c150 :: c151 :: c152 :: c153 :: c154 :: c155 :: c156 :: c157 :: c158 :: c159 :: c160 :: c161 :: c162 :: c163 :: c164 :: c165 :: c166 :: c167 :: c168 :: c169 :: c170 :: c171 :: c172 :: c173 :: c174 :: c175 :: c176 :: c177 :: c178 :: c179 :: c180 :: c181 :: c182 :: c183 :: c184 :: c185 :: c186 :: c187 :: c188 :: c189 :: c190 :: c191 :: c192 :: c193 :: c194 :: c195 :: c196 :: c197 :: c198 :: c199 :: c200 :: c201 :: c202 :: c203 :: c204 :: c205 :: c206 :: c207 :: c208 :: c209 :: c210 :: c211 :: c212 :: c213 :: c214 :: c215 :: c216 :: c217 :: c218 :: c219 :: c220 :: c221 :: []).toArray, []⟩ w0 := by
  conv => arg 2; whnf
  have Hexit := Lib.hid hexit
  have HS := Lib.hid hS
  have Hrow := Lib.hid hrow
  have Hrow6 := Lib.hid hrow6
  have HlK : Hid (shaK.length = 64) := Lib.hid rfl
  have Hkk : Hid (∀ (j : Nat) x, shaK[j]? = some x → ∀ ww, Calls Try.prog 35 #[.int .i64 (j : Int)] ww fun e w' => e = .returned (.int .u32 (x.toNat : Int)) ∧ Only [] ww w') := Lib.hid fun j x hx ww => refK_any j x hx ww
  clear hexit hS hrow hrow6
  go_loopw [12] (fun i wr => ∃ (t : Nat) (st : St), i = .int .i64 (t : Int) ∧ t ≤ 64 ∧ Hid (st = rnds s (shaK.take t) (S.take t)) ∧ Hid (Row wr g11 58 (u32s st.l)) ∧ Hid (Only [g11] w0 wr)) (fun i _ => 64 - (intOf i).toNat)
  case atStart => exact ⟨0, s, rfl, by omega, Lib.hid rfl, Hrow, Lib.hid (Only.refl _ _)⟩
  case round =>
    clear Hrow
    obtain ⟨t, st, rfl, ht, Hst, R, Ho⟩ := hrel
    by_cases hlt : t < 64
    · obtain ⟨a0, a1, a2, a3, a4, a5, a6, a7⟩ := st
      have hc0 := R.out.cell (u32s_get (i := 0) rfl)
      have hc1 := R.out.cell (u32s_get (i := 1) rfl)
      have hc2 := R.out.cell (u32s_get (i := 2) rfl)
      have hc4 := R.out.cell (u32s_get (i := 4) rfl)
      have hc5 := R.out.cell (u32s_get (i := 5) rfl)
      have hc6 := R.out.cell (u32s_get (i := 6) rfl)
      have hc7 := R.out.cell (u32s_get (i := 7) rfl)
      dsimp only at hc0 hc1 hc2 hc4 hc5 hc6 hc7
      obtain ⟨xk, hxk⟩ : ∃ x, shaK[t]? = some x := ⟨_, List.getElem?_eq_getElem (by rw [HlK.out]; exact hlt)⟩
      obtain ⟨xs, hxs⟩ : ∃ x, S[t]? = some x := ⟨_, List.getElem?_eq_getElem (by rw [HS.out]; exact hlt)⟩
      have R6 := Hrow6.out.only Ho.out (by simp; exact hg)
      have hcs := R6.cell (u32s_get hxs)
      have Hstep := Lib.hid (rnds_step s shaK S t xk xs hxk hxs)
      have Hxk := Lib.hid hxk
      have hti : (t : Int) < 64 := by omega
      obtain ⟨r6, hr6⟩ : ∃ z : UInt32, z = rotr a4 (UInt32.ofNat 6) := ⟨_, rfl⟩
      have Hr6 : Hid (rotr a4 (UInt32.ofNat 6) = r6) := Lib.hid hr6.symm
      obtain ⟨r11, hr11⟩ : ∃ z : UInt32, z = rotr a4 (UInt32.ofNat 11) := ⟨_, rfl⟩
      have Hr11 : Hid (rotr a4 (UInt32.ofNat 11) = r11) := Lib.hid hr11.symm
      obtain ⟨r25, hr25⟩ : ∃ z : UInt32, z = rotr a4 (UInt32.ofNat 25) := ⟨_, rfl⟩
      have Hr25 : Hid (rotr a4 (UInt32.ofNat 25) = r25) := Lib.hid hr25.symm
      obtain ⟨r2, hr2⟩ : ∃ z : UInt32, z = rotr a0 (UInt32.ofNat 2) := ⟨_, rfl⟩
      have Hr2 : Hid (rotr a0 (UInt32.ofNat 2) = r2) := Lib.hid hr2.symm
      obtain ⟨r13, hr13⟩ : ∃ z : UInt32, z = rotr a0 (UInt32.ofNat 13) := ⟨_, rfl⟩
      have Hr13 : Hid (rotr a0 (UInt32.ofNat 13) = r13) := Lib.hid hr13.symm
      obtain ⟨r22, hr22⟩ : ∃ z : UInt32, z = rotr a0 (UInt32.ofNat 22) := ⟨_, rfl⟩
      have Hr22 : Hid (rotr a0 (UInt32.ofNat 22) = r22) := Lib.hid hr22.symm
      obtain ⟨ch, hch⟩ : ∃ z : UInt32, z = choose a4 a5 a6 := ⟨_, rfl⟩
      obtain ⟨mo, hmo⟩ : ∃ z : UInt32, z = most a0 a1 a2 := ⟨_, rfl⟩
      have hchc : bits .xor .u32 (bits .and .u32 (a4.toNat : Int) (a5.toNat : Int)) (bits .and .u32 (bits .xor .u32 (a4.toNat : Int) 4294967295) (a6.toNat : Int)) = (ch.toNat : Int) := by rw [hch]; exact choose_cells a4 a5 a6
      have hmoc : bits .xor .u32 (bits .xor .u32 (bits .and .u32 (a0.toNat : Int) (a1.toNat : Int)) (bits .and .u32 (a0.toNat : Int) (a2.toNat : Int))) (bits .and .u32 (a1.toNat : Int) (a2.toNat : Int)) = (mo.toNat : Int) := by rw [hmo]; exact most_cells a0 a1 a2
      obtain ⟨x1, hx1⟩ : ∃ z : UInt32, z = r6 ^^^ r11 := ⟨_, rfl⟩
      have X1 : Hid (bits .xor .u32 (r6.toNat : Int) (r11.toNat : Int) = (x1.toNat : Int)) := Lib.hid (by rw [hx1]; exact u32_xor_u32 _ _)
      obtain ⟨b1, hb1⟩ : ∃ z : UInt32, z = x1 ^^^ r25 := ⟨_, rfl⟩
      have X2 : Hid (bits .xor .u32 (x1.toNat : Int) (r25.toNat : Int) = (b1.toNat : Int)) := Lib.hid (by rw [hb1]; exact u32_xor_u32 _ _)
      obtain ⟨v1, hv1⟩ : ∃ z : UInt32, z = a7 + b1 := ⟨_, rfl⟩
      have V1 : Hid (IntKind.u32.wrap ((a7.toNat : Int) + (b1.toNat : Int)) = (v1.toNat : Int)) := Lib.hid (by rw [hv1]; exact u32_add_cell _ _)
      obtain ⟨v2, hv2⟩ : ∃ z : UInt32, z = v1 + ch := ⟨_, rfl⟩
      have V2 : Hid (IntKind.u32.wrap ((v1.toNat : Int) + (ch.toNat : Int)) = (v2.toNat : Int)) := Lib.hid (by rw [hv2]; exact u32_add_cell _ _)
      obtain ⟨v3, hv3⟩ : ∃ z : UInt32, z = v2 + xk := ⟨_, rfl⟩
      have V3 : Hid (IntKind.u32.wrap ((v2.toNat : Int) + (xk.toNat : Int)) = (v3.toNat : Int)) := Lib.hid (by rw [hv3]; exact u32_add_cell _ _)
      obtain ⟨t1, ht1⟩ : ∃ z : UInt32, z = v3 + xs := ⟨_, rfl⟩
      have V4 : Hid (IntKind.u32.wrap ((v3.toNat : Int) + (xs.toNat : Int)) = (t1.toNat : Int)) := Lib.hid (by rw [ht1]; exact u32_add_cell _ _)
      obtain ⟨y1, hy1⟩ : ∃ z : UInt32, z = r2 ^^^ r13 := ⟨_, rfl⟩
      have Y1 : Hid (bits .xor .u32 (r2.toNat : Int) (r13.toNat : Int) = (y1.toNat : Int)) := Lib.hid (by rw [hy1]; exact u32_xor_u32 _ _)
      obtain ⟨b0, hb0⟩ : ∃ z : UInt32, z = y1 ^^^ r22 := ⟨_, rfl⟩
      have Y2 : Hid (bits .xor .u32 (y1.toNat : Int) (r22.toNat : Int) = (b0.toNat : Int)) := Lib.hid (by rw [hb0]; exact u32_xor_u32 _ _)
      obtain ⟨t2, ht2⟩ : ∃ z : UInt32, z = b0 + mo := ⟨_, rfl⟩
      have V5 : Hid (IntKind.u32.wrap ((b0.toNat : Int) + (mo.toNat : Int)) = (t2.toNat : Int)) := Lib.hid (by rw [ht2]; exact u32_add_cell _ _)
      obtain ⟨u0, hu0⟩ : ∃ x : UInt32, x = t1 + t2 := ⟨_, rfl⟩
      obtain ⟨u4, hu4⟩ : ∃ x : UInt32, x = a3 + t1 := ⟨_, rfl⟩
      have hs0 : ((t1.toNat : Int) + (t2.toNat : Int)) % 4294967296 = (u0.toNat : Int) := by rw [hu0]; exact u32_add_u32 _ _
      have hs4 : ((a3.toNat : Int) + (t1.toNat : Int)) % 4294967296 = (u4.toNat : Int) := by rw [hu4]; exact u32_add_u32 _ _
      have hnew : (⟨u0, a0, a1, a2, u4, a4, a5, a6⟩ : St) = rnds s (shaK.take (t + 1)) (S.take (t + 1)) := by
        rw [Hstep.out, ← Hst.out, hu0, hu4, ht1, hv3, hv2, hv1, hb1, hx1, hr6, hr11, hr25, hch, ht2, hb0, hy1, hr2, hr13, hr22, hmo]; rfl
      have Hnew := Lib.hid hnew
      clear hnew hu0 hu4 Hstep Hst ht1 hv3 hv2 hv1 hb1 hx1 hr6 hr11 hr25 hch ht2 hb0 hy1 hr2 hr13 hr22 hmo hxk hxs R6
      go_wp2_with fail
      clear hc0 hc1 hc2 hc5 hc6
      -- <<r23
      refine wp_region_rg2 (Only []) [[(11, none)], [(136, some 0)], [(11, none)], [(138, some 0)], [(139, some 0)], [(11, none)], [(141, some 0)], [(142, some 0)], [(140, some 3), (143, some 0)], [(11, none)], [(145, some 0)], [(146, some 0)], [(144, some 3), (147, some 0)], [(137, some 11), (148, some 0)], [(13, none)], [(149, some 1), (150, some 0)], [(12, none)], [(152, some 0)], [(151, some 2), (153, some 0)], [(6, none)], [(12, none)], [(155, some 1), (156, some 0)], [(157, some 0)], [(154, some 4), (158, some 0)], [(159, some 0)]] [(15, 0)] [none, none, none, none, none, none, none, none, none, none, none, none, none, none, none, some 15, none, none, none, none, none, none, none, none, none, none, none, none, none, none, none, none, none, none, none, none, none, none, none, none, none, none, none, none, none, none, none, none, none, none, none, none, none, none, none, none, none, none, none, none, none, none, none, none, none, none, none, none, none, none, none, none, none, none, none, none, none, none, none, none, none, none, none, none, none, none, none, none, none, none, none, none, none, none, none, none, none, none, none, none, none, none, none, none, none, none, none, none, none, none, none, none, none, none, none, none, none, none, none, none, none, none, none, none, none, none, none, none, none, none, none, none, none, none, none, none, some 136, some 137, some 138, some 139, some 140, some 141, some 142, some 143, some 144, some 145, some 146, some 147, some 148, some 149, some 150, some 151, some 152, some 153, some 154, some 155, some 156, some 157, some 158, some 159, none, none, none, none, none, none, none, none, none, none, none, none, none, none, none, none, none, none, none, none, none, none, none, none, none, none, none, none, none, none, none, none, none, none, none, none, none, none, none, none, none, none, none, none, none, none, none, none, none, none, none, none, none, none, none, none, none, none, none, none, none, none] (by kernel_rfl) rfl (by kernel_rfl) (fun _ => Only.refl _ _) (fun _ _ _ h k => h.trans0 k) (Only.drew _) (by kernel_rfl) ?_
      -- 0: s136 := indexAddr 58 t11 (const (7:i64))
      apply rg_ev
      · intro a w hR hf
        obtain ⟨e11, -⟩ := hf
        replace e11 : a.tmps.getD 11 undef = _ := e11
        refine rg_plain rfl fun K hK => ?_
        go_simp
        exact hK _ _ rfl (Only.refl _ _)
      -- 1: s137 := load 57 t136
      apply rg_ev
      · intro a w hR hf
        obtain ⟨e136, -⟩ := hf
        replace e136 : a.tmps.getD 136 undef = _ := e136
        refine rg_plain rfl fun K hK => ?_
        have hl := hR.cell hc7 (by simp)
        go_simp
        exact hK _ _ rfl (Only.refl _ _)
      -- 2: s138 := indexAddr 58 t11 (const (4:i64))
      apply rg_ev
      · intro a w hR hf
        obtain ⟨e11, -⟩ := hf
        replace e11 : a.tmps.getD 11 undef = _ := e11
        refine rg_plain rfl fun K hK => ?_
        go_simp
        exact hK _ _ rfl (Only.refl _ _)
      -- 3: s139 := load 57 t138
      apply rg_ev
      · intro a w hR hf
        obtain ⟨e138, -⟩ := hf
        replace e138 : a.tmps.getD 138 undef = _ := e138
        refine rg_plain rfl fun K hK => ?_
        have hl := hR.cell hc4 (by simp)
        go_simp
        exact hK _ _ rfl (Only.refl _ _)
      -- 4: s140 := call { value (Operand.func 34), args := #[t139, const (6:u64)], #[57, 61] }
      apply rg_ev
      · intro a w hR hf
        obtain ⟨e139, -⟩ := hf
        replace e139 : a.tmps.getD 139 undef = _ := e139
        refine rg_plain rfl fun K hK => ?_
        go_simp
        (with_reducible refine (refRot_any a4 6 (by simp) 6 rfl r6 Hr6.out w).mono ?_)
        rintro e w' ⟨rfl, rfl⟩
        exact hK _ _ rfl (Only.refl _ _)
      -- 5: s141 := indexAddr 58 t11 (const (4:i64))
      apply rg_ev
      · intro a w hR hf
        obtain ⟨e11, -⟩ := hf
        replace e11 : a.tmps.getD 11 undef = _ := e11
        refine rg_plain rfl fun K hK => ?_
        go_simp
        exact hK _ _ rfl (Only.refl _ _)
      -- 6: s142 := load 57 t141
      apply rg_ev
      · intro a w hR hf
        obtain ⟨e141, -⟩ := hf
        replace e141 : a.tmps.getD 141 undef = _ := e141
        refine rg_plain rfl fun K hK => ?_
        have hl := hR.cell hc4 (by simp)
        go_simp
        exact hK _ _ rfl (Only.refl _ _)
      -- 7: s143 := call { value (Operand.func 34), args := #[t142, const (11:u64)], #[57, 61] }
      apply rg_ev
      · intro a w hR hf
        obtain ⟨e142, -⟩ := hf
        replace e142 : a.tmps.getD 142 undef = _ := e142
        refine rg_plain rfl fun K hK => ?_
        go_simp
        (with_reducible refine (refRot_any a4 11 (by simp) 11 rfl r11 Hr11.out w).mono ?_)
        rintro e w' ⟨rfl, rfl⟩
        exact hK _ _ rfl (Only.refl _ _)
      -- 8: s144 := binOp Binxor 57 t140 t143 57
      apply rg_ev
      · intro a w hR hf
        obtain ⟨e140, e143, -⟩ := hf
        replace e140 : a.tmps.getD 140 undef = _ := e140
        replace e143 : a.tmps.getD 143 undef = _ := e143
        refine rg_plain rfl fun K hK => ?_
        have hv := X1.out
        go_simp
        exact hK _ _ rfl (Only.refl _ _)
      -- 9: s145 := indexAddr 58 t11 (const (4:i64))
      apply rg_ev
      · intro a w hR hf
        obtain ⟨e11, -⟩ := hf
        replace e11 : a.tmps.getD 11 undef = _ := e11
        refine rg_plain rfl fun K hK => ?_
        go_simp
        exact hK _ _ rfl (Only.refl _ _)
      -- 10: s146 := load 57 t145
      apply rg_ev
      · intro a w hR hf
        obtain ⟨e145, -⟩ := hf
        replace e145 : a.tmps.getD 145 undef = _ := e145
        refine rg_plain rfl fun K hK => ?_
        have hl := hR.cell hc4 (by simp)
        go_simp
        exact hK _ _ rfl (Only.refl _ _)
      -- 11: s147 := call { value (Operand.func 34), args := #[t146, const (25:u64)], #[57, 61] }
      apply rg_ev
      · intro a w hR hf
        obtain ⟨e146, -⟩ := hf
        replace e146 : a.tmps.getD 146 undef = _ := e146
        refine rg_plain rfl fun K hK => ?_
        go_simp
        (with_reducible refine (refRot_any a4 25 (by simp) 25 rfl r25 Hr25.out w).mono ?_)
        rintro e w' ⟨rfl, rfl⟩
        exact hK _ _ rfl (Only.refl _ _)
      -- 12: s148 := binOp Binxor 57 t144 t147 57
      apply rg_ev
      · intro a w hR hf
        obtain ⟨e144, e147, -⟩ := hf
        replace e144 : a.tmps.getD 144 undef = _ := e144
        replace e147 : a.tmps.getD 147 undef = _ := e147
        refine rg_plain rfl fun K hK => ?_
        have hv := X2.out
        go_simp
        exact hK _ _ rfl (Only.refl _ _)
      -- 13: s149 := binOp Binadd 57 t137 t148 57
      apply rg_ev
      · intro a w hR hf
        obtain ⟨e137, e148, -⟩ := hf
        replace e137 : a.tmps.getD 137 undef = _ := e137
        replace e148 : a.tmps.getD 148 undef = _ := e148
        refine rg_plain rfl fun K hK => ?_
        have hv := V1.out
        go_simp
        exact hK _ _ rfl (Only.refl _ _)
      -- 14: s150 := move t13
      apply rg_ev
      · intro a w hR hf
        obtain ⟨e13, -⟩ := hf
        replace e13 : a.tmps.getD 13 undef = _ := e13
        refine rg_plain rfl fun K hK => ?_
        go_simp
        exact hK _ _ rfl (Only.refl _ _)
      -- 15: s151 := binOp Binadd 57 t149 t150 57
      apply rg_ev
      · intro a w hR hf
        obtain ⟨e149, e150, -⟩ := hf
        replace e149 : a.tmps.getD 149 undef = _ := e149
        replace e150 : a.tmps.getD 150 undef = _ := e150
        refine rg_plain rfl fun K hK => ?_
        have hv := V2.out
        go_simp
        exact hK _ _ rfl (Only.refl _ _)
      -- 16: s152 := move t12
      apply rg_ev
      · intro a w hR hf
        obtain ⟨e12, -⟩ := hf
        replace e12 : a.tmps.getD 12 undef = _ := e12
        refine rg_plain rfl fun K hK => ?_
        go_simp
        exact hK _ _ rfl (Only.refl _ _)
      -- 17: s153 := call { value (Operand.func 35), args := #[t152], #[3] }
      apply rg_ev
      · intro a w hR hf
        obtain ⟨e152, -⟩ := hf
        replace e152 : a.tmps.getD 152 undef = _ := e152
        refine rg_plain rfl fun K hK => ?_
        go_simp
        (with_reducible refine (refK_any t xk Hxk.out w).mono ?_)
        rintro e w' ⟨rfl, ho⟩
        exact hK _ _ rfl ho
      -- 18: s154 := binOp Binadd 57 t151 t153 57
      apply rg_ev
      · intro a w hR hf
        obtain ⟨e151, e153, -⟩ := hf
        replace e151 : a.tmps.getD 151 undef = _ := e151
        replace e153 : a.tmps.getD 153 undef = _ := e153
        refine rg_plain rfl fun K hK => ?_
        have hv := V3.out
        go_simp
        exact hK _ _ rfl (Only.refl _ _)
      -- 19: s155 := move t6
      apply rg_ev
      · intro a w hR hf
        obtain ⟨e6, -⟩ := hf
        replace e6 : a.tmps.getD 6 undef = _ := e6
        refine rg_plain rfl fun K hK => ?_
        go_simp
        exact hK _ _ rfl (Only.refl _ _)
      -- 20: s156 := move t12
      apply rg_ev
      · intro a w hR hf
        obtain ⟨e12, -⟩ := hf
        replace e12 : a.tmps.getD 12 undef = _ := e12
        refine rg_plain rfl fun K hK => ?_
        go_simp
        exact hK _ _ rfl (Only.refl _ _)
      -- 21: s157 := indexAddr 59 t155 t156
      apply rg_ev
      · intro a w hR hf
        obtain ⟨e155, e156, -⟩ := hf
        replace e155 : a.tmps.getD 155 undef = _ := e155
        replace e156 : a.tmps.getD 156 undef = _ := e156
        refine rg_plain rfl fun K hK => ?_
        have hti : (t : Int) < 64 := by omega
        go_simp
        exact hK _ _ rfl (Only.refl _ _)
      -- 22: s158 := load 57 t157
      apply rg_ev
      · intro a w hR hf
        obtain ⟨e157, -⟩ := hf
        replace e157 : a.tmps.getD 157 undef = _ := e157
        refine rg_plain rfl fun K hK => ?_
        have hl := hR.cell hcs (by simp)
        go_simp
        exact hK _ _ rfl (Only.refl _ _)
      -- 23: s159 := binOp Binadd 57 t154 t158 57
      apply rg_ev
      · intro a w hR hf
        obtain ⟨e154, e158, -⟩ := hf
        replace e154 : a.tmps.getD 154 undef = _ := e154
        replace e158 : a.tmps.getD 158 undef = _ := e158
        refine rg_plain rfl fun K hK => ?_
        have hv := V4.out
        go_simp
        exact hK _ _ rfl (Only.refl _ _)
      -- 24: s15 := assign t159
      apply rg_ev
      · intro a w hR hf
        obtain ⟨e159, -⟩ := hf
        replace e159 : a.tmps.getD 159 undef = _ := e159
        refine rg_plain rfl fun K hK => ?_
        go_simp
        exact hK _ _ rfl (Only.refl _ _)
      intro f23 w23 hR23 hf
      dsimp only [mergeT]
      obtain ⟨e15, -⟩ := hf
      replace e15 : f23 15 = _ := e15
      rw [e15]
      -- r23>>
      clear hchc hmoc
      have hd0 := (R.out.only0 hR23).cell (u32s_get (i := 0) rfl)
      dsimp only at hd0
      go_wp2_with fail
      -- <<r24
      refine wp_region_rg2 (Only []) [[(11, none)], [(160, some 0)], [(161, some 0)], [(11, none)], [(163, some 0)], [(164, some 0)], [(162, some 3), (165, some 0)], [(11, none)], [(167, some 0)], [(168, some 0)], [(166, some 3), (169, some 0)], [(14, none)], [(170, some 1), (171, some 0)], [(172, some 0)]] [(16, 0)] [none, none, none, none, none, none, none, none, none, none, none, none, none, none, none, none, some 16, none, none, none, none, none, none, none, none, none, none, none, none, none, none, none, none, none, none, none, none, none, none, none, none, none, none, none, none, none, none, none, none, none, none, none, none, none, none, none, none, none, none, none, none, none, none, none, none, none, none, none, none, none, none, none, none, none, none, none, none, none, none, none, none, none, none, none, none, none, none, none, none, none, none, none, none, none, none, none, none, none, none, none, none, none, none, none, none, none, none, none, none, none, none, none, none, none, none, none, none, none, none, none, none, none, none, none, none, none, none, none, none, none, none, none, none, none, none, none, none, none, none, none, none, none, none, none, none, none, none, none, none, none, none, none, none, none, none, none, none, none, none, none, some 160, some 161, some 162, some 163, some 164, some 165, some 166, some 167, some 168, some 169, some 170, some 171, some 172, none, none, none, none, none, none, none, none, none, none, none, none, none, none, none, none, none, none, none, none, none, none, none, none, none, none, none, none, none, none, none, none, none, none, none, none, none, none, none, none, none, none, none, none, none, none, none, none, none] (by kernel_rfl) rfl (by kernel_rfl) (fun _ => Only.refl _ _) (fun _ _ _ h k => h.trans0 k) (Only.drew _) (by kernel_rfl) ?_
      -- 0: s160 := indexAddr 58 t11 (const (0:i64))
      apply rg_ev
      · intro a w hR hf
        obtain ⟨e11, -⟩ := hf
        replace e11 : a.tmps.getD 11 undef = _ := e11
        refine rg_plain rfl fun K hK => ?_
        go_simp
        exact hK _ _ rfl (Only.refl _ _)
      -- 1: s161 := load 57 t160
      apply rg_ev
      · intro a w hR hf
        obtain ⟨e160, -⟩ := hf
        replace e160 : a.tmps.getD 160 undef = _ := e160
        refine rg_plain rfl fun K hK => ?_
        have hl := hR.cell hd0 (by simp)
        go_simp
        exact hK _ _ rfl (Only.refl _ _)
      -- 2: s162 := call { value (Operand.func 34), args := #[t161, const (2:u64)], #[57, 61] }
      apply rg_ev
      · intro a w hR hf
        obtain ⟨e161, -⟩ := hf
        replace e161 : a.tmps.getD 161 undef = _ := e161
        refine rg_plain rfl fun K hK => ?_
        go_simp
        (with_reducible refine (refRot_any a0 2 (by simp) 2 rfl r2 Hr2.out w).mono ?_)
        rintro e w' ⟨rfl, rfl⟩
        exact hK _ _ rfl (Only.refl _ _)
      -- 3: s163 := indexAddr 58 t11 (const (0:i64))
      apply rg_ev
      · intro a w hR hf
        obtain ⟨e11, -⟩ := hf
        replace e11 : a.tmps.getD 11 undef = _ := e11
        refine rg_plain rfl fun K hK => ?_
        go_simp
        exact hK _ _ rfl (Only.refl _ _)
      -- 4: s164 := load 57 t163
      apply rg_ev
      · intro a w hR hf
        obtain ⟨e163, -⟩ := hf
        replace e163 : a.tmps.getD 163 undef = _ := e163
        refine rg_plain rfl fun K hK => ?_
        have hl := hR.cell hd0 (by simp)
        go_simp
        exact hK _ _ rfl (Only.refl _ _)
      -- 5: s165 := call { value (Operand.func 34), args := #[t164, const (13:u64)], #[57, 61] }
      apply rg_ev
      · intro a w hR hf
        obtain ⟨e164, -⟩ := hf
        replace e164 : a.tmps.getD 164 undef = _ := e164
        refine rg_plain rfl fun K hK => ?_
        go_simp
        (with_reducible refine (refRot_any a0 13 (by simp) 13 rfl r13 Hr13.out w).mono ?_)
        rintro e w' ⟨rfl, rfl⟩
        exact hK _ _ rfl (Only.refl _ _)
      -- 6: s166 := binOp Binxor 57 t162 t165 57
      apply rg_ev
      · intro a w hR hf
        obtain ⟨e162, e165, -⟩ := hf
        replace e162 : a.tmps.getD 162 undef = _ := e162
        replace e165 : a.tmps.getD 165 undef = _ := e165
        refine rg_plain rfl fun K hK => ?_
        have hv := Y1.out
        go_simp
        exact hK _ _ rfl (Only.refl _ _)
      -- 7: s167 := indexAddr 58 t11 (const (0:i64))
      apply rg_ev
      · intro a w hR hf
        obtain ⟨e11, -⟩ := hf
        replace e11 : a.tmps.getD 11 undef = _ := e11
        refine rg_plain rfl fun K hK => ?_
        go_simp
        exact hK _ _ rfl (Only.refl _ _)
      -- 8: s168 := load 57 t167
      apply rg_ev
      · intro a w hR hf
        obtain ⟨e167, -⟩ := hf
        replace e167 : a.tmps.getD 167 undef = _ := e167
        refine rg_plain rfl fun K hK => ?_
        have hl := hR.cell hd0 (by simp)
        go_simp
        exact hK _ _ rfl (Only.refl _ _)
      -- 9: s169 := call { value (Operand.func 34), args := #[t168, const (22:u64)], #[57, 61] }
      apply rg_ev
      · intro a w hR hf
        obtain ⟨e168, -⟩ := hf
        replace e168 : a.tmps.getD 168 undef = _ := e168
        refine rg_plain rfl fun K hK => ?_
        go_simp
        (with_reducible refine (refRot_any a0 22 (by simp) 22 rfl r22 Hr22.out w).mono ?_)
        rintro e w' ⟨rfl, rfl⟩
        exact hK _ _ rfl (Only.refl _ _)
      -- 10: s170 := binOp Binxor 57 t166 t169 57
      apply rg_ev
      · intro a w hR hf
        obtain ⟨e166, e169, -⟩ := hf
        replace e166 : a.tmps.getD 166 undef = _ := e166
        replace e169 : a.tmps.getD 169 undef = _ := e169
        refine rg_plain rfl fun K hK => ?_
        have hv := Y2.out
        go_simp
        exact hK _ _ rfl (Only.refl _ _)
      -- 11: s171 := move t14
      apply rg_ev
      · intro a w hR hf
        obtain ⟨e14, -⟩ := hf
        replace e14 : a.tmps.getD 14 undef = _ := e14
        refine rg_plain rfl fun K hK => ?_
        go_simp
        exact hK _ _ rfl (Only.refl _ _)
      -- 12: s172 := binOp Binadd 57 t170 t171 57
      apply rg_ev
      · intro a w hR hf
        obtain ⟨e170, e171, -⟩ := hf
        replace e170 : a.tmps.getD 170 undef = _ := e170
        replace e171 : a.tmps.getD 171 undef = _ := e171
        refine rg_plain rfl fun K hK => ?_
        have hv := V5.out
        go_simp
        exact hK _ _ rfl (Only.refl _ _)
      -- 13: s16 := assign t172
      apply rg_ev
      · intro a w hR hf
        obtain ⟨e172, -⟩ := hf
        replace e172 : a.tmps.getD 172 undef = _ := e172
        refine rg_plain rfl fun K hK => ?_
        go_simp
        exact hK _ _ rfl (Only.refl _ _)
      intro f24 w24 hR24 hf
      dsimp only [mergeT]
      obtain ⟨e16, -⟩ := hf
      replace e16 : f24 16 = _ := e16
      rw [e16]
      -- r24>>
      go_wp2_with fail
      refine refLoop5 g11 [a0, a1, a2, a3, a4, a5, a6, a7] w24 rfl ((R.out.only0 hR23).only0 hR24) ?_
      intros
      rename_i w' hr ho
      have hr' : Row w' g11 58 (u32s [a0, a0, a1, a2, a3, a4, a5, a6]) := hr
      have hk4 := hr'.cell (u32s_get (i := 4) rfl)
      have hk0 := hr'.cell (u32s_get (i := 0) rfl)
      have hf4 := hr'.free 4
      have hf0 := hr'.free 0
      have rA := hr'.setCell 4 (u32v u4)
      have rB := rA.setCell 0 (u32v u0)
      have oA : Only [g11] w' (w'.setCell ⟨g11, 4, none⟩ (u32v u4)) := Only.setCell _ ⟨g11, 4, none⟩ _
      have oB : Only [g11] (w'.setCell ⟨g11, 4, none⟩ (u32v u4)) ((w'.setCell ⟨g11, 4, none⟩ (u32v u4)).setCell ⟨g11, 0, none⟩ (u32v u0)) := Only.setCell _ ⟨g11, 0, none⟩ _
      have RB : Hid (Row ((w'.setCell ⟨g11, 4, none⟩ (u32v u4)).setCell ⟨g11, 0, none⟩ (u32v u0)) g11 58 (u32s [u0, a0, a1, a2, u4, a4, a5, a6])) := Lib.hid rB
      have OB := Lib.hid (((((Ho.out.trans0 hR23).trans0 hR24).trans ho (fun i hi _ => hi)).trans oA (fun i hi _ => hi)).trans oB (fun i hi _ => hi))
      clear hr hr' rA rB oA oB ho hd0 hc7 hc4 hcs R Ho hR23 hR24
      go_wp2_with fail
      refine ⟨⟨t + 1, ⟨u0, a0, a1, a2, u4, a4, a5, a6⟩, by go_num, by omega, Hnew, RB, OB⟩, by simp [intOf]; omega⟩
    · obtain rfl : t = 64 := by omega
      have hfin : st = rnds s shaK S := by rw [Hst.out, List.take_of_length_le (by rw [HlK.out]; exact Nat.le_refl _), List.take_of_length_le (by rw [HS.out]; exact Nat.le_refl _)]
      have r := R.out
      rw [hfin] at r
      have Hr := Lib.hid r
      clear r R hfin Hst
      go_wp2_with fail
      exact Hexit.out _ _ _ _ _ _ _ _ _ _ _ _ _ _ _ _ _ _ _ _ _ _ _ _ _ _ _ _ _ _ _ _ _ _ _ _ _ _ _ _ _ _ _ _ _ _ _ _ _ _ _ _ _ _ _ _ _ _ _ _ _ _ _ _ _ _ _ _ _ _ _ _ _ _ _ _ _ _ _ _ _ _ _ _ _ _ _ _ _ _ _ _ _ _ _ wr Hr.out Ho.out
end Go.Proofs.Ytmddehbfimpjdaa
