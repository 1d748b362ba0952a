/- bollardref03.Sum: the digest's bytes. -/
import Derived.Test.YtmddehbfimpjdaaRefShaBase
import Derived.Test.YtmddehbfimpjdaaShaSumMath
set_option linter.unusedVariables false
namespace Go.Proofs.Ytmddehbfimpjdaa
open Go.RowKit

theorem outB_byte (s : St) (i : Nat) (x : UInt32) (hi : i < 32) (h : s.l[i / 4]? = some x) : ∃ y : UInt8, (outB s)[i]? = some y ∧ (x.toNat : Int) / 2 ^ (24 - 8 * (i % 4)) % 256 = (y.toNat : Int) := by
  obtain ⟨h0, h1, h2, h3⟩ := outB_at s (i / 4) x h
  have hy : ∀ a : Nat, ((UInt8.ofNat a).toNat : Int) = (a : Int) % 256 := fun a => by rw [UInt8.toNat_ofNat']; omega
  rcases (by omega : i % 4 = 0 ∨ i % 4 = 1 ∨ i % 4 = 2 ∨ i % 4 = 3) with e | e | e | e
  · exact ⟨_, by rw [← h0]; congr 1; omega, by rw [e, hy]; simp⟩
  · exact ⟨_, by rw [← h1]; congr 1; omega, by rw [e, hy]; simp⟩
  · exact ⟨_, by rw [← h2]; congr 1; omega, by rw [e, hy]; simp⟩
  · exact ⟨_, by rw [← h3]; congr 1; omega, by rw [e, hy]; simp⟩
set_option maxRecDepth 1000000 in
set_option maxHeartbeats 4000000 in
theorem refLoop7 {Q : Exit → Act → World → Prop} {c0 c1 c2 c4 c5 c6 c7 c8 c9 c10 c11 c12 c13 c14 c15 c16 c17 c18 c20 c21 c22 c23 c24 c25 c26 c27 c28 c29 c30 c31 c32 c33 c34 c35 c36 c37 c38 c39 c40 c41 c42 c43 c44 c45 c46 c47 c48 c49 c50 c51 c52 c53 c54 c55 c56 c57 c58 c59 c60 c61 c62 c63 c64 c65 c66 c67 c68 c69 c70 c71 c72 c73 c74 c75 c76 c77 c78 c79 c80 c81 c82 c83 c84 c85 c86 c87 c88 c89 c90 c91 c92 c93 c94 c95 c96 c97 c98 c99 c100 c101 c102 c103 c104 c105 c106 c107 c108 c109 c110 c111 c112 c113 c114 c115 c116 c117 c118 c119 c120 c121 c122 c123 c124 c125 c126 c127 c128 c129 c130 c131 c132 c133 c134 c135 c136 c137 c138 c139 c140 c141 c142 c143 c144 c145 c146 c147 c148 c149 c150 c151 c152 c153 c154 c155 c156 c157 c158 c159 c160 c161 c162 c163 c164 c165 c166 c167 c168 c169 c170 c171 c172 c173 c174 c175 c176 c177 c178 c179 c180 c181 c182 c183 c184 c185 c186 c187 c188 c189 c190 c191 c192 c193 c194 c195 c196 c197 c198 c199 c200 c201 c202 c203 c205 c206 c207 c208 c209 c210 c211 c212 c213 c214 c215 c216 c217 c218 c219 c220 c221 : Value} (g3 g19 : Nat) (s : St) (w0 : World) (hrow3 : Row w0 g3 58 (u32s s.l)) (hrow : Row w0 g19 25 (u8s (List.replicate 32 0))) (hg : g3 ≠ g19)
    (hexit : ∀ (u20 u204 u205 u206 u207 u208 u209 u210 u211 u212 u213 u214 u215 u216 u217 u218 u219 u220 : Value) (w' : World), Row w' g19 25 (u8s (outB s)) → Only [g19] w0 w' → Q (.exit 12) ⟨(c0 :: c1 :: c2 :: .pointer (some ⟨g3, 0, none⟩) :: c4 :: c5 :: c6 :: c7 :: c8 :: c9 :: c10 :: c11 :: c12 :: c13 :: c14 :: c15 :: c16 :: c17 :: c18 :: .pointer (some ⟨g19, 0, none⟩) :: u20 :: c21 :: c22 :: c23 :: c24 :: c25 :: c26 :: c27 :: c28 :: c29 :: c30 :: c31 :: c32 :: c33 :: c34 :: c35 :: c36 :: c37 :: c38 :: c39 :: c40 :: c41 :: c42 :: c43 :: c44 :: c45 :: c46 :: c47 :: c48 :: c49 :: c50 :: c51 :: c52 :: c53 :: c54 :: c55 :: c56 :: c57 :: c58 :: c59 :: c60 :: c61 :: c62 :: c63 :: c64 :: c65 :: c66 :: c67 :: c68 :: c69 :: c70 :: c71 :: c72 :: c73 :: c74 :: c75 :: c76 :: c77 :: c78 :: c79 :: c80 :: c81 :: c82 :: c83 :: c84 :: c85 :: c86 :: c87 :: c88 :: c89 :: c90 :: c91 :: c92 :: c93 :: c94 :: c95 :: c96 :: c97 :: c98 :: c99 :: c100 :: c101 :: c102 :: c103 :: c104 :: c105 :: c106 :: c107 :: c108 :: c109 :: c110 :: c111 :: c112 :: c113 :: c114 :: c115 :: c116 :: c117 :: c118 :: c119 :: c120 :: c121 :: c122 :: c123 :: c124 :: c125 :: c126 :: c127 :: c128 :: c129 :: c130 :: c131 :: c132 :: c133 :: c134 :: c135 :: c136 :: c137 :: c138 :: c139 :: c140 :: c141 :: c142 :: c143 :: c144 :: c145 :: c146 :: c147 :: c148 :: c149 :: c150 :: c151 :: c152 :: c153 :: c154 :: c155 :: c156 :: c157 :: c158 :: c159 :: c160 :: c161 :: c162 :: c163 :: c164 :: c165 :: c166 :: c167 :: c168 :: c169 :: c170 :: c171 :: c172 :: c173 :: c174 :: c175 :: c176 :: c177 :: c178 :: c179 :: c180 :: c181 :: c182 :: c183 :: c184 :: c185 :: c186 :: c187 :: c188 :: c189 :: c190 :: c191 :: c192 :: c193 :: c194 :: c195 :: c196 :: c197 :: c198 :: c199 :: c200 :: c201 :: c202 :: c203 :: u204 :: u205 :: u206 :: u207 :: u208 :: u209 :: u210 :: u211 :: u212 :: u213 :: u214 :: u215 :: u216 :: u217 :: u218 :: u219 :: u220 :: c221 :: []).toArray, []⟩ w') :
    Code.wp Try.prog (refSumLoop 6) Q ⟨(c0 :: c1 :: c2 :: .pointer (some ⟨g3, 0, none⟩) :: c4 :: c5 :: c6 :: c7 :: c8 :: c9 :: c10 :: c11 :: c12 :: c13 :: c14 :: c15 :: c16 :: c17 :: c18 :: .pointer (some ⟨g19, 0, none⟩) :: c20 :: c21 :: c22 :: c23 :: c24 :: c25 :: c26 :: c27 :: c28 :: c29 :: c30 :: c31 :: c32 :: c33 :: c34 :: c35 :: c36 :: c37 :: c38 :: c39 :: c40 :: c41 :: c42 :: c43 :: c44 :: c45 :: c46 :: c47 :: c48 :: c49 :: c50 :: c51 :: c52 :: c53 :: c54 :: c55 :: c56 :: c57 :: c58 :: c59 :: c60 :: c61 :: c62 :: c63 :: c64 :: c65 :: c66 :: c67 :: c68 :: c69 :: c70 :: c71 :: c72 :: c73 :: c74 :: c75 :: c76 :: c77 :: c78 :: c79 :: c80 :: c81 :: c82 :: c83 :: c84 :: c85 :: c86 :: c87 :: c88 :: c89 :: c90 :: c91 :: c92 :: c93 :: c94 :: c95 :: c96 :: c97 :: c98 :: c99 :: c100 :: c101 :: c102 :: c103 :: c104 :: c105 :: c106 :: c107 :: c108 :: c109 :: c110 :: c111 :: c112 :: c113 :: c114 :: c115 :: c116 :: c117 :: c118 :: c119 :: c120 :: c121 :: c122 :: c123 :: c124 :: c125 :: c126 :: c127 :: c128 :: c129 :: c130 :: c131 :: c132 :: c133 :: c134 :: c135 :: c136 :: c137 :: c138 :: c139 :: c140 :: c141 :: c142 :: c143 :: c144 :: c145 :: c146 :: c147 :: c148 :: c149 :: c150 :: c151 :: c152 :: c153 :: c154 :: c155 :: c156 :: c157 :: c158 :: c159 :: c160 :: c161 :: c162 :: c163 :: c164 :: c165 :: c166 :: c167 :: c168 :: c169 :: c170 :: c171 :: c172 :: c173 :: c174 :: c175 :: c176 :: c177 :: c178 :: c179 :: c180 :: c181 :: c182 :: c183 :: c184 :: c185 :: c186 :: c187 :: c188 :: c189 :: c190 :: c191 :: c192 :: c193 :: c194 :: c195 :: c196 :: c197 :: c198 :: c199 :: c200 :: c201 :: c202 :: c203 :: .int .i64 0 :: c205 :: c206 :: c207 :: c208 :: c209 :: c210 :: c211 :: c212 :: c213 :: c214 :: c215 :: c216 :: c217 :: c218 :: c219 :: c220 :: c221 :: []).toArray, []⟩ w0 := by
  conv => arg 2; whnf
  have hlA := outB_len s
  have hby := outB_byte s
  obtain ⟨A, hA⟩ : ∃ A, A = outB s := ⟨_, rfl⟩
  rw [← hA] at hlA hexit
  simp only [← hA] at hby
  have Hexit := Lib.hid hexit
  have Hrow : Hid (Row w0 g19 25 (u8s (fill32 A 0))) := Lib.hid hrow
  have Hrow3 := Lib.hid hrow3
  have HlA := Lib.hid hlA
  have Hby := Lib.hid hby
  clear hexit hrow hrow3 hlA hby hA
  go_loopw [204] (fun i wr => ∃ j : Nat, i = .int .i64 (j : Int) ∧ j ≤ 32 ∧ Hid (Row wr g19 25 (u8s (fill32 A j))) ∧ Hid (Only [g19] w0 wr)) (fun i _ => 32 - (intOf i).toNat)
  case atStart => exact ⟨0, rfl, by omega, Hrow, Lib.hid (Only.refl _ _)⟩
  case round =>
    clear Hrow
    obtain ⟨j, rfl, hj, R, Ho⟩ := hrel
    by_cases hlt : j < 32
    · obtain ⟨x, hx⟩ : ∃ x, s.l[j / 4]? = some x := ⟨_, List.getElem?_eq_getElem (by show j / 4 < 8; omega)⟩
      obtain ⟨y, hy, hyv⟩ := Hby.out j x hlt hx
      have hcx := Ho.out.cell (Hrow3.out.cell (u32s_get hx)) (by simp; exact hg)
      have hset := fill32_set A HlA.out hy
      have hlF := fill32_len A HlA.out j (by omega)
      obtain ⟨v0, hc0⟩ : ∃ v, wr.cell? ⟨g19, j, none⟩ = some v := ⟨_, R.out.cell (List.getElem?_eq_getElem (by rw [u8s_length, hlF]; exact hlt))⟩
      have hf0 := R.out.free j
      have r2 := R.out.setCell j (Go.Proofs.Ytmddehbfimpjdaa.u8 y)
      rw [u8s_set, hset] at r2
      have o2 : Only [g19] wr (wr.setCell ⟨g19, j, none⟩ (Go.Proofs.Ytmddehbfimpjdaa.u8 y)) := Only.setCell _ ⟨g19, j, none⟩ _
      have R2 := Lib.hid r2
      have Ho2 := Lib.hid (Ho.out.trans o2 (fun i hi _ => hi))
      have hji : (j : Int) < 32 := by omega
      have hq1 : (j : Int) / 4 < 8 := by omega
      have hq2 : (0 : Int) ≤ (j : Int) / 4 := by omega
      have hq3 : ((j : Int) / 4).toNat = j / 4 := by omega
      have hr1 : (0 : Int) ≤ 24 - 8 * ((j : Int) % 4) := by omega
      have hr2 : (24 - 8 * ((j : Int) % 4)).toNat = 24 - 8 * (j % 4) := by omega
      clear hx hy hset hlF r2 o2 R Ho
      go_wp2_with fail
      refine ⟨⟨j + 1, by go_num, by omega, R2, Ho2⟩, by simp [intOf]; omega⟩
    · obtain rfl : j = 32 := by omega
      have r := R.out
      have hfull : fill32 A 32 = A := by unfold fill32; rw [List.take_of_length_le (by rw [HlA.out]; exact Nat.le_refl _)]; simp
      rw [hfull] at r
      have Hr := Lib.hid r
      clear r R hfull
      go_wp2_with fail
      exact Hexit.out _ _ _ _ _ _ _ _ _ _ _ _ _ _ _ _ _ _ wr Hr.out Ho.out
end Go.Proofs.Ytmddehbfimpjdaa
