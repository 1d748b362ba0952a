/- bollardref03.Sum: the state is added. -/
import Derived.Test.YtmddehbfimpjdaaRefShaBase
import Derived.Test.YtmddehbfimpjdaaShaDigMath
import Derived.Test.YtmddehbfimpjdaaRegDirt
set_option linter.unusedVariables false
namespace Go.Proofs.Ytmddehbfimpjdaa
open Go.RowKit

set_option maxRecDepth 1000000 in
set_option maxHeartbeats 4000000 in
theorem refLoop6 {Q : Exit → Act → World → Prop} {c0 c1 c2 c4 c5 c6 c7 c8 c9 c10 c12 c13 c14 c15 c16 c17 c18 c19 c20 c21 c22 c23 c24 c25 c26 c27 c28 c29 c30 c31 c32 c33 c34 c35 c36 c37 c38 c39 c40 c41 c42 c43 c44 c45 c46 c47 c48 c49 c50 c51 c52 c53 c54 c55 c56 c57 c58 c59 c60 c61 c62 c63 c64 c65 c66 c67 c68 c69 c70 c71 c72 c73 c74 c75 c76 c77 c78 c79 c80 c81 c82 c83 c84 c85 c86 c87 c88 c89 c90 c91 c92 c93 c94 c95 c96 c97 c98 c99 c100 c101 c102 c103 c104 c105 c106 c107 c108 c109 c110 c111 c112 c113 c114 c115 c116 c117 c118 c119 c120 c121 c122 c123 c124 c125 c126 c127 c128 c129 c130 c131 c132 c133 c134 c135 c136 c137 c138 c139 c140 c141 c142 c143 c144 c145 c146 c147 c148 c149 c150 c151 c152 c153 c154 c155 c156 c157 c158 c159 c160 c161 c162 c163 c164 c165 c166 c167 c168 c169 c170 c171 c172 c173 c174 c175 c176 c177 c178 c179 c180 c181 c182 c183 c184 c185 c186 c187 c188 c189 c190 c191 c193 c194 c195 c196 c197 c198 c199 c200 c201 c202 c203 c204 c205 c206 c207 c208 c209 c210 c211 c212 c213 c214 c215 c216 c217 c218 c219 c220 c221 : Value} (g3 g11 : Nat) (H s : List UInt32) (w0 : World) (hH : H.length = 8) (hs : s.length = 8) (hrow : Row w0 g3 58 (u32s H)) (hrow11 : Row w0 g11 58 (u32s s)) (hg : g11 ≠ g3)
    (hexit : ∀ (u18 u192 u193 u194 u195 u196 u197 u198 u199 u200 u201 u202 u203 : Value) (w' : World), Row w' g3 58 (u32s (List.zipWith (· + ·) H s)) → Only [g3] w0 w' → Q (.exit 10) ⟨(c0 :: c1 :: c2 :: .pointer (some ⟨g3, 0, none⟩) :: c4 :: c5 :: c6 :: c7 :: c8 :: c9 :: c10 :: .pointer (some ⟨g11, 0, none⟩) :: c12 :: c13 :: c14 :: c15 :: c16 :: c17 :: u18 :: c19 :: c20 :: c21 :: c22 :: c23 :: c24 :: c25 :: c26 :: c27 :: c28 :: c29 :: c30 :: c31 :: c32 :: c33 :: c34 :: c35 :: c36 :: c37 :: c38 :: c39 :: c40 :: c41 :: c42 :: c43 :: c44 :: c45 :: c46 :: c47 :: c48 :: c49 :: c50 :: c51 :: c52 :: c53 :: c54 :: c55 :: c56 :: c57 :: c58 :: c59 :: c60 :: c61 :: c62 :: c63 :: c64 :: c65 :: c66 :: c67 :: c68 :: c69 :: c70 :: c71 :: c72 :: c73 :: c74 :: c75 :: c76 :: c77 :: c78 :: c79 :: c80 :: c81 :: c82 :: c83 :: c84 :: c85 :: c86 :: c87 :: c88 :: c89 :: c90 :: c91 :: c92 :: c93 :: c94 :: c95 :: c96 :: c97 :: c98 :: c99 :: c100 :: c101 :: c102 :: c103 :: c104 :: c105 :: c106 :: c107 :: c108 :: c109 :: c110 :: c111 :: c112 :: c113 :: c114 :: c115 :: c116 :: c117 :: c118 :: c119 :: c120 :: c121 :: c122 :: c123 :: c124 :: c125 :: c126 :: c127 :: c128 :: c129 :: c130 :: c131 :: c132 :: c133 :: c134 :: c135 :: c136 :: c137 :: c138 :: c139 :: c140 :: c141 :: c142 :: c143 :: c144 :: c145 :: c146 :: c147 :: c148 :: c149 :: c150 :: c151 :: c152 :: c153 :: c154 :: c155 :: c156 :: c157 :: c158 :: c159 :: c160 :: c161 :: c162 :: c163 :: c164 :: c165 :: c166 :: c167 :: c168 :: c169 :: c170 :: c171 :: c172 :: c173 :: c174 :: c175 :: c176 :: c177 :: c178 :: c179 :: c180 :: c181 :: c182 :: c183 :: c184 :: c185 :: c186 :: c187 :: c188 :: c189 :: c190 :: c191 :: u192 :: u193 :: u194 :: u195 :: u196 :: u197 :: u198 :: u199 :: u200 :: u201 :: u202 :: u203 :: c204 :: c205 :: c206 :: c207 :: c208 :: c209 :: c210 :: c211 :: c212 :: c213 :: c214 :: c215 :: c216 :: c217 :: c218 :: c219 :: c220 :: c221 :: []).toArray, []⟩ w') :
    Code.wp Try.prog (refSumLoop 5) Q ⟨(c0 :: c1 :: c2 :: .pointer (some ⟨g3, 0, none⟩) :: c4 :: c5 :: c6 :: c7 :: c8 :: c9 :: c10 :: .pointer (some ⟨g11, 0, none⟩) :: c12 :: c13 :: c14 :: c15 :: c16 :: c17 :: c18 :: c19 :: c20 :: c21 :: c22 :: c23 :: c24 :: c25 :: c26 :: c27 :: c28 :: c29 :: c30 :: c31 :: c32 :: c33 :: c34 :: c35 :: c36 :: c37 :: c38 :: c39 :: c40 :: c41 :: c42 :: c43 :: c44 :: c45 :: c46 :: c47 :: c48 :: c49 :: c50 :: c51 :: c52 :: c53 :: c54 :: c55 :: c56 :: c57 :: c58 :: c59 :: c60 :: c61 :: c62 :: c63 :: c64 :: c65 :: c66 :: c67 :: c68 :: c69 :: c70 :: c71 :: c72 :: c73 :: c74 :: c75 :: c76 :: c77 :: c78 :: c79 :: c80 :: c81 :: c82 :: c83 :: c84 :: c85 :: c86 :: c87 :: c88 :: c89 :: c90 :: c91 :: c92 :: c93 :: c94 :: c95 :: c96 :: c97 :: c98 :: c99 :: c100 :: c101 :: c102 :: c103 :: c104 :: c105 :: c106 :: c107 :: c108 :: c109 :: c110 :: c111 :: c112 :: c113 :: c114 :: c115 :: c116 :: c117 :: c118 :: c119 :: c120 :: c121 :: c122 :: c123 :: c124 :: c125 :: c126 :: c127 :: c128 :: c129 :: c130 :: c131 :: c132 :: c133 :: c134 :: c135 :: c136 :: c137 :: c138 :: c139 :: c140 :: c141 :: c142 :: c143 :: c144 :: c145 :: c146 :: c147 :: c148 :: c149 :: c150 :: c151 :: c152 :: c153 :: c154 :: c155 :: c156 :: c157 :: c158 :: c159 :: c160 :: c161 :: c162 :: c163 :: c164 :: c165 :: c166 :: c167 :: c168 :: c169 :: c170 :: c171 :: c172 :: c173 :: c174 :: c175 :: c176 :: c177 :: c178 :: c179 :: c180 :: c181 :: c182 :: c183 :: c184 :: c185 :: c186 :: c187 :: c188 :: c189 :: c190 :: c191 :: .int .i64 0 :: c193 :: c194 :: c195 :: c196 :: c197 :: c198 :: c199 :: c200 :: c201 :: c202 :: c203 :: c204 :: c205 :: c206 :: c207 :: c208 :: c209 :: c210 :: c211 :: c212 :: c213 :: c214 :: c215 :: c216 :: c217 :: c218 :: c219 :: c220 :: c221 :: []).toArray, []⟩ w0 := by
  conv => arg 2; whnf
  have Hexit := Lib.hid hexit
  have Hrow : Hid (Row w0 g3 58 (u32s (addR H s 0))) := Lib.hid hrow
  have Hrow11 := Lib.hid hrow11
  have HH := Lib.hid hH
  have HS := Lib.hid hs
  clear hexit hrow hrow11 hH hs
  go_loopw [192] (fun i wr => ∃ j : Nat, i = .int .i64 (j : Int) ∧ j ≤ 8 ∧ Hid (Row wr g3 58 (u32s (addR H s j))) ∧ Hid (Only [g3] w0 wr)) (fun i _ => 8 - (intOf i).toNat)
  case atStart => exact ⟨0, rfl, by omega, Hrow, Lib.hid (Only.refl _ _)⟩
  case round =>
    clear Hrow
    obtain ⟨j, rfl, hj, R, Ho⟩ := hrel
    by_cases hlt : j < 8
    · obtain ⟨x, hx⟩ : ∃ x, H[j]? = some x := ⟨_, List.getElem?_eq_getElem (by rw [HH.out]; exact hlt)⟩
      obtain ⟨y, hy⟩ : ∃ y, s[j]? = some y := ⟨_, List.getElem?_eq_getElem (by rw [HS.out]; exact hlt)⟩
      obtain ⟨hax, hset⟩ := addR_step HH.out HS.out hx hy
      have hcy := Ho.out.cell (Hrow11.out.cell (u32s_get hy)) (by simp; exact hg)
      obtain ⟨xy, hxy⟩ : ∃ z : UInt32, z = x + y := ⟨_, rfl⟩
      have hsum : IntKind.u32.wrap ((x.toNat : Int) + (y.toNat : Int)) = (xy.toNat : Int) := by rw [hxy]; exact u32_add_cell _ _
      rw [← hxy] at hset
      have Hset := Lib.hid hset
      have Hax := Lib.hid hax
      have Hsum := Lib.hid hsum
      clear hset hx hy hxy hax hsum
      have hji : (j : Int) < 8 := by omega
      go_wp2_with fail
      have hRr : ∀ a, Only [g3] a a := fun a => Only.refl _ _
      have hRt : ∀ a b e, Only [g3] a b → Only [g3] b e → Only [g3] a e := fun a b e h h2 => h.trans h2 (fun i hi _ => hi)
      have hRd : Only [g3] wr wr.drew := (Only.drew _).mono (by simp)
      have hC0 : ∀ i ∈ [8], (fun (_ : Nat) (a : World) => Row a g3 58 (u32s (addR H s j))) i wr.drew := fun _ _ => R.out.only0 (Only.drew _)
      -- <<r34
      refine wp_region_rg4 (Only [g3]) (Dirt [(8, [g3])]) (fun (_ : Nat) (a : World) => Row a g3 58 (u32s (addR H s j))) [8] [[(18, none)], [(3, none), (195, some 0)], [(196, some 0)], [(18, none)], [(11, none), (198, some 0)], [(199, some 0)], [(197, some 3), (200, some 0)], [(3, none), (195, some 6)], [(202, some 0), (201, some 1)]] [] [none, none, none, none, none, none, none, none, none, none, none, none, none, none, none, none, none, none, none, none, none, none, none, none, none, none, none, none, none, none, none, none, none, none, none, none, none, none, none, none, none, none, none, none, none, none, none, none, none, none, none, none, none, none, none, none, none, none, none, none, none, none, none, none, none, none, none, none, none, none, none, none, none, none, none, none, none, none, none, none, none, none, none, none, none, none, none, none, none, none, none, none, none, none, none, none, none, none, none, none, none, none, none, none, none, none, none, none, none, none, none, none, none, none, none, none, none, none, none, none, none, none, none, none, none, none, none, none, none, none, none, none, none, none, none, none, none, none, none, none, none, none, none, none, none, none, none, none, none, none, none, none, none, none, none, none, none, none, none, none, none, none, none, none, none, none, none, none, none, none, none, none, none, none, none, none, none, none, none, none, none, none, none, none, none, none, none, none, none, none, none, none, none, none, none, some 195, some 196, some 197, some 198, some 199, some 200, some 201, some 202, none, none, none, none, none, none, none, none, none, none, none, none, none, none, none, none, none, none, none] (by kernel_rfl) rfl (by kernel_rfl) hRr hRt (fun _ _ => Only.refl _ _) hRd hC0 (by kernel_rfl) (by kernel_rfl) ?_
      -- 0: s195 := move t18
      apply rgd_ev
      · intro a w hR hC hf
        obtain ⟨e18, -⟩ := hf
        replace e18 : a.tmps.getD 18 undef = _ := e18
        refine rg_plain rfl fun K hK => ?_
        go_simp
        exact hK _ _ rfl ⟨hRr _, Only.refl _ _, fun _ _ _ _ h => h⟩
      -- 1: s196 := indexAddr 58 t3 t195
      apply rgd_ev
      · intro a w hR hC hf
        obtain ⟨e3, e195, -⟩ := hf
        replace e3 : a.tmps.getD 3 undef = _ := e3
        replace e195 : a.tmps.getD 195 undef = _ := e195
        refine rg_plain rfl fun K hK => ?_
        go_simp
        exact hK _ _ rfl ⟨hRr _, Only.refl _ _, fun _ _ _ _ h => h⟩
      -- 2: s197 := load 57 t196
      apply rgd_ev
      · intro a w hR hC hf
        obtain ⟨e196, -⟩ := hf
        replace e196 : a.tmps.getD 196 undef = _ := e196
        refine rg_plain rfl fun K hK => ?_
        have hl := (hC 8 (by simp) (by kernel_rfl)).cell (u32s_get Hax.out)
        go_simp
        exact hK _ _ rfl ⟨hRr _, Only.refl _ _, fun _ _ _ _ h => h⟩
      -- 3: s198 := move t18
      apply rgd_ev
      · intro a w hR hC hf
        obtain ⟨e18, -⟩ := hf
        replace e18 : a.tmps.getD 18 undef = _ := e18
        refine rg_plain rfl fun K hK => ?_
        go_simp
        exact hK _ _ rfl ⟨hRr _, Only.refl _ _, fun _ _ _ _ h => h⟩
      -- 4: s199 := indexAddr 58 t11 t198
      apply rgd_ev
      · intro a w hR hC hf
        obtain ⟨e11, e198, -⟩ := hf
        replace e11 : a.tmps.getD 11 undef = _ := e11
        replace e198 : a.tmps.getD 198 undef = _ := e198
        refine rg_plain rfl fun K hK => ?_
        go_simp
        exact hK _ _ rfl ⟨hRr _, Only.refl _ _, fun _ _ _ _ h => h⟩
      -- 5: s200 := load 57 t199
      apply rgd_ev
      · intro a w hR hC hf
        obtain ⟨e199, -⟩ := hf
        replace e199 : a.tmps.getD 199 undef = _ := e199
        refine rg_plain rfl fun K hK => ?_
        have hl := hR.cell hcy (by simp; exact hg)
        go_simp
        exact hK _ _ rfl ⟨hRr _, Only.refl _ _, fun _ _ _ _ h => h⟩
      -- 6: s201 := binOp Binadd 57 t197 t200 57
      apply rgd_ev
      · intro a w hR hC hf
        obtain ⟨e197, e200, -⟩ := hf
        replace e197 : a.tmps.getD 197 undef = _ := e197
        replace e200 : a.tmps.getD 200 undef = _ := e200
        refine rg_plain rfl fun K hK => ?_
        have hv := Hsum.out
        go_simp
        exact hK _ _ rfl ⟨hRr _, Only.refl _ _, fun _ _ _ _ h => h⟩
      -- 7: s202 := indexAddr 58 t3 t195
      apply rgd_ev
      · intro a w hR hC hf
        obtain ⟨e3, e195, -⟩ := hf
        replace e3 : a.tmps.getD 3 undef = _ := e3
        replace e195 : a.tmps.getD 195 undef = _ := e195
        refine rg_plain rfl fun K hK => ?_
        go_simp
        exact hK _ _ rfl ⟨hRr _, Only.refl _ _, fun _ _ _ _ h => h⟩
      -- 8: sNone := store 57 t202 t201
      refine ⟨fun _ a => Row a g3 58 (u32s (addR H s (j + 1))), stands_of (fun _ _ _ h ho => h.only0 ho) (by intro x hx hk; obtain rfl := List.mem_singleton.1 hx; simp at hk), fun a w hR hC hf => ?_, ?_⟩
      · obtain ⟨e202, e201, -⟩ := hf
        replace e202 : a.tmps.getD 202 undef = _ := e202
        replace e201 : a.tmps.getD 201 undef = _ := e201
        refine rg_plain rfl fun K hK => ?_
        have hC8 := hC 8 (by simp) (by kernel_rfl)
        have hcc := hC8.cell (u32s_get Hax.out)
        have hff := hC8.free j
        go_simp
        have hst : Only [g3] w (w.setCell ⟨g3, j, none⟩ (u32v xy)) := Only.setCell w ⟨g3, j, none⟩ _
        refine hK undef _ ?_ ⟨hst, hst, fun i hi hne ha _ => absurd (List.mem_singleton.1 hi) hne⟩
        rw [← Hset.out, ← u32s_set]
        exact hC8.setCell j (u32v xy)
      intro f34 w34 hR34 hf hz34
      dsimp only [mergeT]
      -- r34>>
      obtain ⟨v8, r8⟩ := hz34 _ (List.mem_cons_self ..)
      go_wp2_with fail
      refine ⟨⟨j + 1, by go_num, by omega, Lib.hid r8, Lib.hid (Ho.out.trans hR34 (fun i hi _ => hi))⟩, by simp [intOf]; omega⟩
    · obtain rfl : j = 8 := by omega
      have r := R.out
      have hfull : addR H s 8 = List.zipWith (· + ·) H s := by unfold addR; rw [List.take_of_length_le (by rw [List.length_zipWith, HH.out, HS.out]; exact Nat.le_refl _), List.drop_eq_nil_of_le (by rw [HH.out]; exact Nat.le_refl _), List.append_nil]
      rw [hfull] at r
      have Hr := Lib.hid r
      clear r R hfull
      go_wp2_with fail
      exact Hexit.out _ _ _ _ _ _ _ _ _ _ _ _ _ wr Hr.out Ho.out
end Go.Proofs.Ytmddehbfimpjdaa
