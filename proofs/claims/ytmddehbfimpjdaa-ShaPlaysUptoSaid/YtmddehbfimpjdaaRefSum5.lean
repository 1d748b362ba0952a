/- bollardref03.Sum's inner loop: the eight words move on by one. -/
import Derived.Test.YtmddehbfimpjdaaRefShaBase
set_option linter.unusedVariables false
namespace Go.Proofs.Ytmddehbfimpjdaa
open Go.RowKit

/-- the row while it is moved: all behind k is moved -/
def shR (l : List UInt32) (k : Nat) : List UInt32 := l.take (k + 1) ++ (l.drop k).take (7 - k)
theorem shR_step (l : List UInt32) (h : l.length = 8) (k : Nat) (hk : k + 1 < 8) {x : UInt32} (hx : l[k]? = some x) : (shR l (k + 1))[k]? = some x ∧ (shR l (k + 1)).set (k + 1) x = shR l k := by
  have hl : (l.take (k + 1)).length = k + 1 := by rw [List.length_take]; omega
  have e1 : l.take (k + 1 + 1) = l.take (k + 1) ++ [l[k + 1]'(by omega)] := by rw [List.take_add_one, List.getElem?_eq_getElem (by omega)]; rfl
  have hd : l.drop k = x :: l.drop (k + 1) := by
    rw [List.drop_eq_getElem_cons (by omega)]
    have := List.getElem?_eq_getElem (show k < l.length by omega)
    rw [hx] at this
    rw [Option.some.inj this]
  unfold shR
  constructor
  · rw [List.getElem?_append_left (by rw [List.length_take]; omega), List.getElem?_take, if_pos (by omega), hx]
  · rw [e1, List.append_assoc, List.set_append_right _ _ (by omega), hl, Nat.sub_self]
    simp only [List.cons_append, List.nil_append, List.set_cons_zero]
    rw [hd, show 7 - k = (7 - (k + 1)) + 1 by omega, List.take_succ_cons]
theorem shR_len (l : List UInt32) (h : l.length = 8) (k : Nat) (hk : k < 8) : (shR l k).length = 8 := by
  unfold shR; rw [List.length_append, List.length_take, List.length_take, List.length_drop]; omega
set_option maxRecDepth 1000000 in
set_option maxHeartbeats 4000000 in
theorem refLoop5 {Q : Exit → Act → World → Prop} {c0 c1 c2 c3 c4 c5 c6 c7 c8 c9 c10 c12 c13 c14 c15 c16 c18 c19 c20 c21 c22 c23 c24 c25 c26 c27 c28 c29 c30 c31 c32 c33 c34 c35 c36 c37 c38 c39 c40 c41 c42 c43 c44 c45 c46 c47 c48 c49 c50 c51 c52 c53 c54 c55 c56 c57 c58 c59 c60 c61 c62 c63 c64 c65 c66 c67 c68 c69 c70 c71 c72 c73 c74 c75 c76 c77 c78 c79 c80 c81 c82 c83 c84 c85 c86 c87 c88 c89 c90 c91 c92 c93 c94 c95 c96 c97 c98 c99 c100 c101 c102 c103 c104 c105 c106 c107 c108 c109 c110 c111 c112 c113 c114 c115 c116 c117 c118 c119 c120 c121 c122 c123 c124 c125 c126 c127 c128 c129 c130 c131 c132 c133 c134 c135 c136 c137 c138 c139 c140 c141 c142 c143 c144 c145 c146 c147 c148 c149 c150 c151 c152 c153 c154 c155 c156 c157 c158 c159 c160 c161 c162 c163 c164 c165 c166 c167 c168 c169 c170 c171 c172 c173 c174 c175 c176 c177 c178 c179 c180 c181 c182 c183 c184 c185 c186 c187 c188 c189 c190 c191 c192 c193 c194 c195 c196 c197 c198 c199 c200 c201 c202 c203 c204 c205 c206 c207 c208 c209 c210 c211 c212 c213 c214 c215 c216 c217 c218 c219 c220 c221 : Value} (g11 : Nat) (R : List UInt32) (w0 : World) (hR : R.length = 8) (hrow : Row w0 g11 58 (u32s R))
    (hexit : ∀ (u17 u173 u174 u175 u176 u177 u178 u179 u180 u181 u182 : Value) (w' : World), Row w' g11 58 (u32s (shR R 0)) → Only [g11] w0 w' → Q (.exit 8) ⟨(c0 :: c1 :: c2 :: c3 :: c4 :: c5 :: c6 :: c7 :: c8 :: c9 :: c10 :: .pointer (some ⟨g11, 0, none⟩) :: c12 :: c13 :: c14 :: c15 :: c16 :: u17 :: c18 :: c19 :: c20 :: c21 :: c22 :: c23 :: c24 :: c25 :: c26 :: c27 :: c28 :: c29 :: c30 :: c31 :: c32 :: c33 :: c34 :: c35 :: c36 :: c37 :: c38 :: c39 :: c40 :: c41 :: c42 :: c43 :: c44 :: c45 :: c46 :: c47 :: c48 :: c49 :: c50 :: c51 :: c52 :: c53 :: c54 :: c55 :: c56 :: c57 :: c58 :: c59 :: c60 :: c61 :: c62 :: c63 :: c64 :: c65 :: c66 :: c67 :: c68 :: c69 :: c70 :: c71 :: c72 :: c73 :: c74 :: c75 :: c76 :: c77 :: c78 :: c79 :: c80 :: c81 :: c82 :: c83 :: c84 :: c85 :: c86 :: c87 :: c88 :: c89 :: c90 :: c91 :: c92 :: c93 :: c94 :: c95 :: c96 :: c97 :: c98 :: c99 :: c100 :: c101 :: c102 :: c103 :: c104 :: c105 :: c106 :: c107 :: c108 :: c109 :: c110 :: c111 :: c112 :: c113 :: c114 :: c115 :: c116 :: c117 :: c118 :: c119 :: c120 :: c121 :: c122 :: c123 :: c124 :: c125 :: c126 :: c127 :: c128 :: c129 :: c130 :: c131 :: c132 :: c133 :: c134 :: c135 :: c136 :: c137 :: c138 :: c139 :: c140 :: c141 :: c142 :: c143 :: c144 :: c145 :: c146 :: c147 :: c148 :: c149 :: c150 :: c151 :: c152 :: c153 :: c154 :: c155 :: c156 :: c157 :: c158 :: c159 :: c160 :: c161 :: c162 :: c163 :: c164 :: c165 :: c166 :: c167 :: c168 :: c169 :: c170 :: c171 :: c172 :: u173 :: u174 :: u175 :: u176 :: u177 :: u178 :: u179 :: u180 :: u181 :: u182 :: c183 :: c184 :: c185 :: c186 :: c187 :: c188 :: c189 :: c190 :: c191 :: c192 :: c193 :: c194 :: c195 :: c196 :: c197 :: c198 :: c199 :: c200 :: c201 :: c202 :: c203 :: c204 :: c205 :: c206 :: c207 :: c208 :: c209 :: c210 :: c211 :: c212 :: c213 :: c214 :: c215 :: c216 :: c217 :: c218 :: c219 :: c220 :: c221 :: []).toArray, []⟩ w') :
    Code.wp Try.prog (refSumLoop 4) Q ⟨(c0 :: c1 :: c2 :: c3 :: c4 :: c5 :: c6 :: c7 :: c8 :: c9 :: c10 :: .pointer (some ⟨g11, 0, none⟩) :: c12 :: c13 :: c14 :: c15 :: c16 :: .int .i64 7 :: c18 :: c19 :: c20 :: c21 :: c22 :: c23 :: c24 :: c25 :: c26 :: c27 :: c28 :: c29 :: c30 :: c31 :: c32 :: c33 :: c34 :: c35 :: c36 :: c37 :: c38 :: c39 :: c40 :: c41 :: c42 :: c43 :: c44 :: c45 :: c46 :: c47 :: c48 :: c49 :: c50 :: c51 :: c52 :: c53 :: c54 :: c55 :: c56 :: c57 :: c58 :: c59 :: c60 :: c61 :: c62 :: c63 :: c64 :: c65 :: c66 :: c67 :: c68 :: c69 :: c70 :: c71 :: c72 :: c73 :: c74 :: c75 :: c76 :: c77 :: c78 :: c79 :: c80 :: c81 :: c82 :: c83 :: c84 :: c85 :: c86 :: c87 :: c88 :: c89 :: c90 :: c91 :: c92 :: c93 :: c94 :: c95 :: c96 :: c97 :: c98 :: c99 :: c100 :: c101 :: c102 :: c103 :: c104 :: c105 :: c106 :: c107 :: c108 :: c109 :: c110 :: c111 :: c112 :: c113 :: c114 :: c115 :: c116 :: c117 :: c118 :: c119 :: c120 :: c121 :: c122 :: c123 :: c124 :: c125 :: c126 :: c127 :: c128 :: c129 :: c130 :: c131 :: c132 :: c133 :: c134 :: c135 :: c136 :: c137 :: c138 :: c139 :: c140 :: c141 :: c142 :: c143 :: c144 :: c145 :: c146 :: c147 :: c148 :: c149 :: c150 :: c151 :: c152 :: c153 :: c154 :: c155 :: c156 :: c157 :: c158 :: c159 :: c160 :: c161 :: c162 :: c163 :: c164 :: c165 :: c166 :: c167 :: c168 :: c169 :: c170 :: c171 :: c172 :: c173 :: c174 :: c175 :: c176 :: c177 :: c178 :: c179 :: c180 :: c181 :: c182 :: c183 :: c184 :: c185 :: c186 :: c187 :: c188 :: c189 :: c190 :: c191 :: c192 :: c193 :: c194 :: c195 :: c196 :: c197 :: c198 :: c199 :: c200 :: c201 :: c202 :: c203 :: c204 :: c205 :: c206 :: c207 :: c208 :: c209 :: c210 :: c211 :: c212 :: c213 :: c214 :: c215 :: c216 :: c217 :: c218 :: c219 :: c220 :: c221 :: []).toArray, []⟩ w0 := by
  conv => arg 2; whnf
  have Hexit := Lib.hid hexit
  have HR := Lib.hid hR
  have e7 : shR R 7 = R := by unfold shR; rw [List.take_of_length_le (by omega)]; simp
  have Hrow : Hid (Row w0 g11 58 (u32s (shR R 7))) := Lib.hid (by rw [e7]; exact hrow)
  clear hexit hR hrow e7
  go_loopw [17] (fun i wr => ∃ k : Nat, i = .int .i64 (k : Int) ∧ k ≤ 7 ∧ Hid (Row wr g11 58 (u32s (shR R k))) ∧ Hid (Only [g11] w0 wr)) (fun i _ => (intOf i).toNat)
  case atStart => exact ⟨7, rfl, by omega, Hrow, Lib.hid (Only.refl _ _)⟩
  case round =>
    clear Hrow
    obtain ⟨k, rfl, hk, Rw, Ho⟩ := hrel
    cases k with
    | zero =>
      go_wp2_with fail
      exact Hexit.out _ _ _ _ _ _ _ _ _ _ _ wr Rw.out Ho.out
    | succ k =>
      obtain ⟨x, hx⟩ : ∃ x, R[k]? = some x := ⟨_, List.getElem?_eq_getElem (by rw [HR.out]; omega)⟩
      obtain ⟨h1, h2⟩ := shR_step R HR.out k (by omega) hx
      have hl := shR_len R HR.out (k + 1) (by omega)
      have hc0 := Rw.out.cell (u32s_get h1)
      obtain ⟨y, hy⟩ : ∃ y, (shR R (k + 1))[k + 1]? = some y := ⟨_, List.getElem?_eq_getElem (by omega)⟩
      have hc1 := Rw.out.cell (u32s_get hy)
      have hf := Rw.out.free (k + 1)
      have r2 := Rw.out.setCell (k + 1) (u32v x)
      rw [u32s_set, h2] at r2
      have o2 : Only [g11] wr (wr.setCell ⟨g11, k + 1, none⟩ (u32v x)) := Only.setCell _ ⟨g11, k + 1, none⟩ _
      have R2 := Lib.hid r2
      have Ho2 := Lib.hid (Ho.out.trans o2 (fun i hi _ => hi))
      have hk7 : (k : Int) + 1 < 8 := by omega
      have hk0 : (0 : Int) < (k : Int) + 1 := by omega
      have hk8 : (k : Int) < 8 := by omega
      have ht1 : ((k : Int) + 1).toNat = k + 1 := by omega
      clear h1 h2 hx hy r2 o2 hl Rw Ho
      go_wp2_with fail
      refine ⟨⟨k, by go_num, by omega, R2, Ho2⟩, by simp [intOf]⟩
end Go.Proofs.Ytmddehbfimpjdaa
