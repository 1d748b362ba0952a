/- bollardref03.Sum's loop over the words of a block: the schedule. -/
import Derived.Test.YtmddehbfimpjdaaRefSum3
set_option linter.unusedVariables false
namespace Go.Proofs.Ytmddehbfimpjdaa
open Go.RowKit

set_option maxRecDepth 1000000 in
set_option maxHeartbeats 8000000 in
theorem refLoop2 {Q : Exit → Act → World → Prop} {c0 c1 c2 c3 c8 c9 c10 c11 c12 c13 c14 c15 c16 c17 c18 c19 c20 c21 c22 c23 c24 c25 c26 c27 c28 c29 c30 c31 c32 c33 c34 c35 c36 c37 c38 c39 c40 c41 c42 c43 c44 c45 c46 c47 c48 c49 c50 c51 c52 c53 c54 c55 c56 c57 c58 c59 c60 c61 c62 c63 c64 c65 c66 c67 c68 c69 c70 c71 c72 c73 c74 c75 c76 c77 c78 c79 c80 c81 c82 c83 c84 c85 c86 c87 c88 c89 c90 c91 c92 c93 c94 c95 c96 c97 c98 c99 c100 c101 c102 c103 c104 c105 c106 c107 c108 c109 c110 c111 c112 c113 c114 c115 c116 c117 c118 c119 c120 c121 c122 c123 c124 c125 c126 c127 c128 c129 c130 c131 c132 c133 c134 c135 c136 c137 c138 c139 c140 c141 c142 c143 c144 c145 c146 c147 c148 c149 c150 c151 c152 c153 c154 c155 c156 c157 c158 c159 c160 c161 c162 c163 c164 c165 c166 c167 c168 c169 c170 c171 c172 c173 c174 c175 c176 c177 c178 c179 c180 c181 c182 c183 c184 c185 c186 c187 c188 c189 c190 c191 c192 c193 c194 c195 c196 c197 c198 c199 c200 c201 c202 c203 c204 c205 c206 c207 c208 c209 c210 c211 c212 c213 c214 c215 c216 c217 c218 c219 c220 c221 : Value} (b4 off4 n4 c4 at_ g6 : Nat) (bs : List UInt8) (yb : Nat → UInt8) (w0 : World) (hbs : bs.length = 64) (hyb : ∀ i, i < 64 → bs[i]? = some (yb i)) (hrow : Row w0 g6 57 (u32s (List.replicate 64 0))) (hbg : b4 ≠ g6)
    (hm : ∀ i, i < 64 → w0.cell? ⟨b4, off4 + (at_ + i), none⟩ = some (.int .u8 ((yb i).toNat : Int))) (hat : at_ + 64 ≤ n4) (hn4 : n4 ≤ 9223372036854775807)
    (hexit : ∀ (u7 u8 u9 u10 u31 u32 u33 u34 u35 u36 u37 u38 u39 u40 u41 u42 u43 u44 u45 u46 u47 u48 u49 u50 u51 u52 u53 u54 u55 u56 u57 u58 u59 u60 u61 u62 u63 u64 u65 u66 u67 u68 u69 u70 u71 u72 u73 u74 u75 u76 u77 u78 u79 u80 u81 u82 u83 u84 u85 u86 u87 u88 u89 u90 u91 u92 u93 u94 u95 u96 u97 u98 u99 u100 u101 : Value) (w' : World), Row w' g6 57 (u32s (sched bs)) → Only [g6] w0 w' → Q (.exit 2) ⟨(c0 :: c1 :: c2 :: c3 :: .slice (some ⟨b4, off4, none⟩) n4 c4 :: .int .i64 (at_ : Int) :: .slice (some ⟨g6, 0, none⟩) 64 64 :: u7 :: u8 :: u9 :: u10 :: c11 :: c12 :: c13 :: c14 :: c15 :: c16 :: c17 :: c18 :: c19 :: c20 :: c21 :: c22 :: c23 :: c24 :: c25 :: c26 :: c27 :: c28 :: c29 :: c30 :: u31 :: u32 :: u33 :: u34 :: u35 :: u36 :: u37 :: u38 :: u39 :: u40 :: u41 :: u42 :: u43 :: u44 :: u45 :: u46 :: u47 :: u48 :: u49 :: u50 :: u51 :: u52 :: u53 :: u54 :: u55 :: u56 :: u57 :: u58 :: u59 :: u60 :: u61 :: u62 :: u63 :: u64 :: u65 :: u66 :: u67 :: u68 :: u69 :: u70 :: u71 :: u72 :: u73 :: u74 :: u75 :: u76 :: u77 :: u78 :: u79 :: u80 :: u81 :: u82 :: u83 :: u84 :: u85 :: u86 :: u87 :: u88 :: u89 :: u90 :: u91 :: u92 :: u93 :: u94 :: u95 :: u96 :: u97 :: u98 :: u99 :: u100 :: u101 :: c102 :: c103 :: c104 :: c105 :: c106 :: c107 :: c108 :: c109 :: c110 :: c111 :: c112 :: c113 :: c114 :: c115 :: c116 :: c117 :: c118 :: c119 :: c120 :: c121 :: c122 :: c123 :: c124 :: c125 :: c126 :: c127 :: c128 :: c129 :: c130 :: c131 :: c132 :: c133 :: c134 :: c135 :: c136 :: c137 :: c138 :: c139 :: c140 :: c141 :: c142 :: c143 :: c144 :: c145 :: c146 :: c147 :: c148 :: c149 :: c150 :: c151 :: c152 :: c153 :: c154 :: c155 :: c156 :: c157 :: c158 :: c159 :: c160 :: c161 :: c162 :: c163 :: c164 :: c165 :: c166 :: c167 :: c168 :: c169 :: c170 :: c171 :: c172 :: c173 :: c174 :: c175 :: c176 :: c177 :: c178 :: c179 :: c180 :: c181 :: c182 :: c183 :: c184 :: c185 :: c186 :: c187 :: c188 :: c189 :: c190 :: c191 :: c192 :: c193 :: c194 :: c195 :: c196 :: c197 :: c198 :: c199 :: c200 :: c201 :: c202 :: c203 :: c204 :: c205 :: c206 :: c207 :: c208 :: c209 :: c210 :: c211 :: c212 :: c213 :: c214 :: c215 :: c216 :: c217 :: c218 :: c219 :: c220 :: c221 :: []).toArray, []⟩ w') :
    Code.wp Try.prog (refSumLoop 1) Q ⟨(c0 :: c1 :: c2 :: c3 :: .slice (some ⟨b4, off4, none⟩) n4 c4 :: .int .i64 (at_ : Int) :: .slice (some ⟨g6, 0, none⟩) 64 64 :: .int .i64 0 :: c8 :: c9 :: c10 :: c11 :: c12 :: c13 :: c14 :: c15 :: c16 :: c17 :: c18 :: c19 :: c20 :: c21 :: c22 :: c23 :: c24 :: c25 :: c26 :: c27 :: c28 :: c29 :: c30 :: c31 :: c32 :: c33 :: c34 :: c35 :: c36 :: c37 :: c38 :: c39 :: c40 :: c41 :: c42 :: c43 :: c44 :: c45 :: c46 :: c47 :: c48 :: c49 :: c50 :: c51 :: c52 :: c53 :: c54 :: c55 :: c56 :: c57 :: c58 :: c59 :: c60 :: c61 :: c62 :: c63 :: c64 :: c65 :: c66 :: c67 :: c68 :: c69 :: c70 :: c71 :: c72 :: c73 :: c74 :: c75 :: c76 :: c77 :: c78 :: c79 :: c80 :: c81 :: c82 :: c83 :: c84 :: c85 :: c86 :: c87 :: c88 :: c89 :: c90 :: c91 :: c92 :: c93 :: c94 :: c95 :: c96 :: c97 :: c98 :: c99 :: c100 :: c101 :: c102 :: c103 :: c104 :: c105 :: c106 :: c107 :: c108 :: c109 :: c110 :: c111 :: c112 :: c113 :: c114 :: c115 :: c116 :: c117 :: c118 :: c119 :: c120 :: c121 :: c122 :: c123 :: c124 :: c125 :: c126 :: c127 :: c128 :: c129 :: c130 :: c131 :: c132 :: c133 :: c134 :: c135 :: c136 :: c137 :: c138 :: c139 :: c140 :: c141 :: c142 :: c143 :: c144 :: c145 :: c146 :: c147 :: c148 :: c149 :: c150 :: c151 :: c152 :: c153 :: c154 :: c155 :: c156 :: c157 :: c158 :: c159 :: c160 :: c161 :: c162 :: c163 :: c164 :: c165 :: c166 :: c167 :: c168 :: c169 :: c170 :: c171 :: c172 :: c173 :: c174 :: c175 :: c176 :: c177 :: c178 :: c179 :: c180 :: c181 :: c182 :: c183 :: c184 :: c185 :: c186 :: c187 :: c188 :: c189 :: c190 :: c191 :: c192 :: c193 :: c194 :: c195 :: c196 :: c197 :: c198 :: c199 :: c200 :: c201 :: c202 :: c203 :: c204 :: c205 :: c206 :: c207 :: c208 :: c209 :: c210 :: c211 :: c212 :: c213 :: c214 :: c215 :: c216 :: c217 :: c218 :: c219 :: c220 :: c221 :: []).toArray, []⟩ w0 := by
  conv => arg 2; whnf
  have hlS := sched_len bs hbs
  have hlo : ∀ (j : Nat), j < 16 → (sched bs)[j]? = some (word (yb (4 * j)) (yb (4 * j + 1)) (yb (4 * j + 2)) (yb (4 * j + 3))) := fun j hj => sched_lo bs hbs hj (hyb _ (by omega)) (hyb _ (by omega)) (hyb _ (by omega)) (hyb _ (by omega))
  have hhi : ∀ (t : Nat) (a b c d : UInt32), 16 ≤ t → t < 64 → (sched bs)[t - 16]? = some a → (sched bs)[t - 15]? = some b → (sched bs)[t - 7]? = some c → (sched bs)[t - 2]? = some d → (sched bs)[t]? = some (a + sig0 b + c + sig1 d) := fun t a b c d ht ht2 h1 h2 h3 h4 => sched_hi bs hbs ht ht2 h1 h2 h3 h4
  generalize sched bs = S at hlS hlo hhi hexit
  have Hm := Lib.hid hm
  have Hexit := Lib.hid hexit
  have Hlo := Lib.hid hlo
  have Hhi := Lib.hid hhi
  have HlS := Lib.hid hlS
  have Hrow : Hid (Row w0 g6 57 (u32s (fillR S 0))) := Lib.hid hrow
  clear hm hexit hlo hhi hlS hrow hyb hbs
  go_loopw [7] (fun i wr => ∃ t : Nat, i = .int .i64 (t : Int) ∧ t ≤ 64 ∧ Hid (Row wr g6 57 (u32s (fillR S t))) ∧ Hid (Only [g6] w0 wr)) (fun i _ => 64 - (intOf i).toNat)
  case atStart => exact ⟨0, rfl, by omega, Hrow, Lib.hid (Only.refl _ _)⟩
  case round =>
    clear Hrow
    obtain ⟨t, rfl, ht, R3, Ho⟩ := hrel
    by_cases h16 : t < 16
    · have h16i : (t : Int) < 16 := by omega
      have h64i : (t : Int) < 64 := by omega
      have hs := Hlo.out t h16
      have Hs := Lib.hid hs
      clear hs
      go_wp2_with fail
      have hget0 : (fillR S t)[t]? = some 0 := by
        unfold fillR
        rw [List.getElem?_append_right (by rw [List.length_take]; omega), List.length_take, HlS.out, Nat.min_eq_left (by omega), Nat.sub_self, List.getElem?_replicate_of_lt (by omega)]
      refine refLoop3 b4 off4 n4 c4 at_ g6 t (fillR S t) (fun i => yb (4 * t + i)) wr h16 (fillR_len S HlS.out t (by omega)) hget0 R3.out hbg (fun i hi => ?_) (by omega) hn4 ?_
      · have := Ho.out.cell (Hm.out (4 * t + i) (by omega)) (by simp; exact hbg)
        rw [← Nat.add_assoc at_]  at this
        exact this
      · intros
        rename_i w' hr ho
        have e : (fillR S t).set t (word (yb (4 * t + 0)) (yb (4 * t + 1)) (yb (4 * t + 2)) (yb (4 * t + 3))) = fillR S (t + 1) := fillR_set S HlS.out Hs.out
        rw [e] at hr
        have Hr := Lib.hid hr
        have Ho2 := Lib.hid (Ho.out.trans ho (fun i hi _ => hi))
        clear hr ho R3 Ho e hget0
        go_wp2_with fail
        refine ⟨⟨t + 1, by go_num, by omega, Hr, Ho2⟩, by simp [intOf]; omega⟩
    · by_cases hlt : t < 64
      · have h16i : ¬ (t : Int) < 16 := by omega
        have h64i : (t : Int) < 64 := by omega
        have hg : ∀ k, k < t → ∃ x, S[k]? = some x ∧ wr.cell? ⟨g6, k, none⟩ = some (.int .u32 (x.toNat : Int)) := fun k hk => by
          have hkl : k < S.length := by rw [HlS.out]; omega
          refine ⟨S[k], List.getElem?_eq_getElem hkl, R3.out.cell (u32s_get ?_)⟩
          rw [fillR_get S HlS.out hk, List.getElem?_eq_getElem hkl]
        obtain ⟨x16, s16, c16⟩ := hg (t - 16) (by omega)
        obtain ⟨x15, s15, c15⟩ := hg (t - 15) (by omega)
        obtain ⟨x7, s7, c7⟩ := hg (t - 7) (by omega)
        obtain ⟨x2, s2, c2⟩ := hg (t - 2) (by omega)
        have hnx := Hhi.out t _ _ _ _ (by omega) hlt s16 s15 s7 s2
        obtain ⟨xn, hxn⟩ : ∃ x, x = x16 + sig0 x15 + x7 + sig1 x2 := ⟨_, rfl⟩
        rw [← hxn] at hnx
        have Hxn := Lib.hid hxn
        have HS := Lib.hid hnx
        have S16 := Lib.hid s16
        have S7 := Lib.hid s7
        have l15 := x15.toNat_lt
        have l2 := x2.toNat_lt
        have Hw8 : Hid (IntKind.u32.wrap ((x15.toNat : Int) / 8) = (x15.toNat : Int) / 8) := Lib.hid (by simp [IntKind.wrap, IntKind.bits, IntKind.signed]; omega)
        have Hw1024 : Hid (IntKind.u32.wrap ((x2.toNat : Int) / 1024) = (x2.toNat : Int) / 1024) := Lib.hid (by simp [IntKind.wrap, IntKind.bits, IntKind.signed]; omega)
        clear hnx hxn hg s16 s15 s7 s2 c16 c7
        go_wp2_with fail
        -- <<r15
        refine wp_region_rg2 (Only []) [[(6, none)], [(7, none)], [(61, some 0)], [(60, some 2), (62, some 0)], [(63, some 0)], [(6, none)], [(7, none)], [(66, some 0)], [(65, some 2), (67, some 0)], [(68, some 0)], [(64, some 5)], [(69, some 1)]] [(9, 1), (10, 0)] [none, none, none, none, none, none, none, none, none, some 9, some 10, none, none, none, none, none, none, none, none, none, none, none, none, none, none, none, none, none, none, none, none, none, none, none, none, none, none, none, none, none, none, none, none, none, none, none, none, none, none, none, none, none, none, none, none, none, none, none, none, none, some 60, some 61, some 62, some 63, some 64, some 65, some 66, some 67, some 68, some 69, none, none, none, none, none, none, none, none, none, none, none, none, none, none, none, none, none, none, none, none, none, none, none, none, none, none, none, none, none, none, none, none, none, none, none, none, none, none, none, none, none, none, none, none, none, none, none, none, none, none, none, none, none, none, none, none, none, none, none, none, none, none, none, none, none, none, none, none, none, none, none, none, none, none, none, none, none, none, none, none, none, none, none, none, none, none, none, none, none, none, none, none, none, none, none, none, none, none, none, none, none, none, none, none, none, none, none, none, none, none, none, none, none, none, none, none, none, none, none, none, none, none, none, none, none, none, none, none, none, none, none, none, none, none, none, none, none, none, none, none, none, none, none, none, none, none, none, none, none, none, none, none] (by kernel_rfl) rfl (by kernel_rfl) (fun _ => Only.refl _ _) (fun _ _ _ h k => h.trans0 k) (Only.drew _) (by kernel_rfl) ?_
        -- 0: s60 := move t6
        apply rg_ev
        · intro a w hR hf
          obtain ⟨e6, -⟩ := hf
          replace e6 : a.tmps.getD 6 undef = _ := e6
          refine rg_plain rfl fun K hK => ?_
          go_simp
          exact hK _ _ rfl (Only.refl _ _)
        -- 1: s61 := move t7
        apply rg_ev
        · intro a w hR hf
          obtain ⟨e7, -⟩ := hf
          replace e7 : a.tmps.getD 7 undef = _ := e7
          refine rg_plain rfl fun K hK => ?_
          go_simp
          exact hK _ _ rfl (Only.refl _ _)
        -- 2: s62 := binOp Binsub 3 t61 (const (15:i64)) 3
        apply rg_ev
        · intro a w hR hf
          obtain ⟨e61, -⟩ := hf
          replace e61 : a.tmps.getD 61 undef = _ := e61
          refine rg_plain rfl fun K hK => ?_
          have hw := IntWalk.i64_in ((t : Int) - 15) (by omega)
          go_simp
          exact hK _ _ rfl (Only.refl _ _)
        -- 3: s63 := indexAddr 59 t60 t62
        apply rg_ev
        · intro a w hR hf
          obtain ⟨e60, e62, -⟩ := hf
          replace e60 : a.tmps.getD 60 undef = _ := e60
          replace e62 : a.tmps.getD 62 undef = _ := e62
          refine rg_plain rfl fun K hK => ?_
          have hi1 : (0 : Int) ≤ (t : Int) - 15 := by omega
          have hi2 : (t : Int) - 15 < 64 := by omega
          have hi3 : ((t : Int) - 15).toNat = t - 15 := by omega
          have hi4 : (15 : Int) ≤ (t : Int) := by omega
          go_simp
          exact hK _ _ rfl (Only.refl _ _)
        -- 4: s64 := load 57 t63
        apply rg_ev
        · intro a w hR hf
          obtain ⟨e63, -⟩ := hf
          replace e63 : a.tmps.getD 63 undef = _ := e63
          refine rg_plain rfl fun K hK => ?_
          have hl := hR.cell c15 (by simp)
          go_simp
          exact hK _ _ rfl (Only.refl _ _)
        -- 5: s65 := move t6
        apply rg_ev
        · intro a w hR hf
          obtain ⟨e6, -⟩ := hf
          replace e6 : a.tmps.getD 6 undef = _ := e6
          refine rg_plain rfl fun K hK => ?_
          go_simp
          exact hK _ _ rfl (Only.refl _ _)
        -- 6: s66 := move t7
        apply rg_ev
        · intro a w hR hf
          obtain ⟨e7, -⟩ := hf
          replace e7 : a.tmps.getD 7 undef = _ := e7
          refine rg_plain rfl fun K hK => ?_
          go_simp
          exact hK _ _ rfl (Only.refl _ _)
        -- 7: s67 := binOp Binsub 3 t66 (const (2:i64)) 3
        apply rg_ev
        · intro a w hR hf
          obtain ⟨e66, -⟩ := hf
          replace e66 : a.tmps.getD 66 undef = _ := e66
          refine rg_plain rfl fun K hK => ?_
          have hw := IntWalk.i64_in ((t : Int) - 2) (by omega)
          go_simp
          exact hK _ _ rfl (Only.refl _ _)
        -- 8: s68 := indexAddr 59 t65 t67
        apply rg_ev
        · intro a w hR hf
          obtain ⟨e65, e67, -⟩ := hf
          replace e65 : a.tmps.getD 65 undef = _ := e65
          replace e67 : a.tmps.getD 67 undef = _ := e67
          refine rg_plain rfl fun K hK => ?_
          have hi1 : (0 : Int) ≤ (t : Int) - 2 := by omega
          have hi2 : (t : Int) - 2 < 64 := by omega
          have hi3 : ((t : Int) - 2).toNat = t - 2 := by omega
          have hi4 : (2 : Int) ≤ (t : Int) := by omega
          go_simp
          exact hK _ _ rfl (Only.refl _ _)
        -- 9: s69 := load 57 t68
        apply rg_ev
        · intro a w hR hf
          obtain ⟨e68, -⟩ := hf
          replace e68 : a.tmps.getD 68 undef = _ := e68
          refine rg_plain rfl fun K hK => ?_
          have hl := hR.cell c2 (by simp)
          go_simp
          exact hK _ _ rfl (Only.refl _ _)
        -- 10: s9 := assign t64
        apply rg_ev
        · intro a w hR hf
          obtain ⟨e64, -⟩ := hf
          replace e64 : a.tmps.getD 64 undef = _ := e64
          refine rg_plain rfl fun K hK => ?_
          go_simp
          exact hK _ _ rfl (Only.refl _ _)
        -- 11: s10 := assign t69
        apply rg_ev
        · intro a w hR hf
          obtain ⟨e69, -⟩ := hf
          replace e69 : a.tmps.getD 69 undef = _ := e69
          refine rg_plain rfl fun K hK => ?_
          go_simp
          exact hK _ _ rfl (Only.refl _ _)
        intro f15 w15 hR15 hf
        dsimp only [mergeT]
        obtain ⟨e9, e10, -⟩ := hf
        replace e9 : f15 9 = _ := e9
        rw [e9]
        replace e10 : f15 10 = _ := e10
        rw [e10]
        -- r15>>
        go_wp2_with fail
        have k16f : ∀ a, Row a g6 57 (u32s (fillR S t)) → a.cell? ⟨g6, t - 16, none⟩ = some (.int .u32 (x16.toNat : Int)) := fun a h => h.cell (u32s_get (by rw [fillR_get S HlS.out (by omega)]; exact S16.out))
        have k7f : ∀ a, Row a g6 57 (u32s (fillR S t)) → a.cell? ⟨g6, t - 7, none⟩ = some (.int .u32 (x7.toNat : Int)) := fun a h => h.cell (u32s_get (by rw [fillR_get S HlS.out (by omega)]; exact S7.out))
        have hRr : ∀ a, Only [g6] a a := fun a => Only.refl _ _
        have hRt : ∀ a b e, Only [g6] a b → Only [g6] b e → Only [g6] a e := fun a b e h h2 => h.trans h2 (fun i hi _ => hi)
        have hRd : Only [g6] w15 w15.drew := (Only.drew _).mono (by simp)
        have hC0 : ∀ i ∈ [32], (fun (_ : Nat) (a : World) => Row a g6 57 (u32s (fillR S t))) i w15.drew := fun _ _ => (R3.out.only0 hR15).only0 (Only.drew _)
        -- <<r16
        refine wp_region_rg4 (Only [g6]) (Dirt [(32, [g6])]) (fun (_ : Nat) (a : World) => Row a g6 57 (u32s (fillR S t))) [32] [[(6, none)], [(7, none)], [(6, none)], [(7, none)], [(73, some 0)], [(72, some 2), (74, some 0)], [(75, some 0)], [(9, none)], [(77, some 0)], [(9, none)], [(79, some 0)], [(78, some 2), (80, some 0)], [(9, none)], [(82, some 0)], [(81, some 2), (83, some 0)], [(76, some 8), (84, some 0)], [(6, none)], [(7, none)], [(87, some 0)], [(86, some 2), (88, some 0)], [(89, some 0)], [(85, some 5), (90, some 0)], [(10, none)], [(92, some 0)], [(10, none)], [(94, some 0)], [(93, some 2), (95, some 0)], [(10, none)], [(97, some 0)], [(96, some 2), (98, some 0)], [(91, some 8), (99, some 0)], [(70, some 30), (71, some 29)], [(101, some 0), (100, some 1)]] [] [none, none, none, none, none, none, none, none, none, none, none, none, none, none, none, none, none, none, none, none, none, none, none, none, none, none, none, none, none, none, none, none, none, none, none, none, none, none, none, none, none, none, none, none, none, none, none, none, none, none, none, none, none, none, none, none, none, none, none, none, none, none, none, none, none, none, none, none, none, none, some 70, some 71, some 72, some 73, some 74, some 75, some 76, some 77, some 78, some 79, some 80, some 81, some 82, some 83, some 84, some 85, some 86, some 87, some 88, some 89, some 90, some 91, some 92, some 93, some 94, some 95, some 96, some 97, some 98, some 99, some 100, some 101, none, none, none, none, none, none, none, none, none, none, none, none, none, none, none, none, none, none, none, none, none, none, none, none, none, none, none, none, none, none, none, none, none, none, none, none, none, none, none, none, none, none, none, none, none, none, none, none, none, none, none, none, none, none, none, none, none, none, none, none, none, none, none, none, none, none, none, none, none, none, none, none, none, none, none, none, none, none, none, none, none, none, none, none, none, none, none, none, none, none, none, none, none, none, none, none, none, none, none, none, none, none, none, none, none, none, none, none, none, none, none, none, none, none, none, none, none, none, none, none] (by kernel_rfl) rfl (by kernel_rfl) hRr hRt (fun _ _ => Only.refl _ _) hRd hC0 (by kernel_rfl) (by kernel_rfl) ?_
        -- 0: s70 := move t6
        apply rgd_ev
        · intro a w hR hC hf
          obtain ⟨e6, -⟩ := hf
          replace e6 : a.tmps.getD 6 undef = _ := e6
          refine rg_plain rfl fun K hK => ?_
          go_simp
          exact hK _ _ rfl ⟨hRr _, Only.refl _ _, fun _ _ _ _ h => h⟩
        -- 1: s71 := move t7
        apply rgd_ev
        · intro a w hR hC hf
          obtain ⟨e7, -⟩ := hf
          replace e7 : a.tmps.getD 7 undef = _ := e7
          refine rg_plain rfl fun K hK => ?_
          go_simp
          exact hK _ _ rfl ⟨hRr _, Only.refl _ _, fun _ _ _ _ h => h⟩
        -- 2: s72 := move t6
        apply rgd_ev
        · intro a w hR hC hf
          obtain ⟨e6, -⟩ := hf
          replace e6 : a.tmps.getD 6 undef = _ := e6
          refine rg_plain rfl fun K hK => ?_
          go_simp
          exact hK _ _ rfl ⟨hRr _, Only.refl _ _, fun _ _ _ _ h => h⟩
        -- 3: s73 := move t7
        apply rgd_ev
        · intro a w hR hC hf
          obtain ⟨e7, -⟩ := hf
          replace e7 : a.tmps.getD 7 undef = _ := e7
          refine rg_plain rfl fun K hK => ?_
          go_simp
          exact hK _ _ rfl ⟨hRr _, Only.refl _ _, fun _ _ _ _ h => h⟩
        -- 4: s74 := binOp Binsub 3 t73 (const (16:i64)) 3
        apply rgd_ev
        · intro a w hR hC hf
          obtain ⟨e73, -⟩ := hf
          replace e73 : a.tmps.getD 73 undef = _ := e73
          refine rg_plain rfl fun K hK => ?_
          have hw := IntWalk.i64_in ((t : Int) - 16) (by omega)
          go_simp
          exact hK _ _ rfl ⟨hRr _, Only.refl _ _, fun _ _ _ _ h => h⟩
        -- 5: s75 := indexAddr 59 t72 t74
        apply rgd_ev
        · intro a w hR hC hf
          obtain ⟨e72, e74, -⟩ := hf
          replace e72 : a.tmps.getD 72 undef = _ := e72
          replace e74 : a.tmps.getD 74 undef = _ := e74
          refine rg_plain rfl fun K hK => ?_
          have hi1 : (0 : Int) ≤ (t : Int) - 16 := by omega
          have hi2 : (t : Int) - 16 < 64 := by omega
          have hi3 : ((t : Int) - 16).toNat = t - 16 := by omega
          have hi4 : (16 : Int) ≤ (t : Int) := by omega
          go_simp
          exact hK _ _ rfl ⟨hRr _, Only.refl _ _, fun _ _ _ _ h => h⟩
        -- 6: s76 := load 57 t75
        apply rgd_ev
        · intro a w hR hC hf
          obtain ⟨e75, -⟩ := hf
          replace e75 : a.tmps.getD 75 undef = _ := e75
          refine rg_plain rfl fun K hK => ?_
          have hl := k16f w ((hC 32 (by simp) (by kernel_rfl)))
          go_simp
          exact hK _ _ rfl ⟨hRr _, Only.refl _ _, fun _ _ _ _ h => h⟩
        -- 7: s77 := move t9
        apply rgd_ev
        · intro a w hR hC hf
          obtain ⟨e9, -⟩ := hf
          replace e9 : a.tmps.getD 9 undef = _ := e9
          refine rg_plain rfl fun K hK => ?_
          go_simp
          exact hK _ _ rfl ⟨hRr _, Only.refl _ _, fun _ _ _ _ h => h⟩
        -- 8: s78 := call { value (Operand.func 34), args := #[t77, const (7:u64)], #[57, 61] }
        apply rgd_ev
        · intro a w hR hC hf
          obtain ⟨e77, -⟩ := hf
          replace e77 : a.tmps.getD 77 undef = _ := e77
          refine rg_plain rfl fun K hK => ?_
          go_simp
          (with_reducible refine (refRot_any x15 7 (by simp) 7 rfl _ rfl w).mono ?_)
          rintro e w' ⟨rfl, rfl⟩
          exact hK _ _ rfl ⟨hRr _, Only.refl _ _, fun _ _ _ _ h => h⟩
        -- 9: s79 := move t9
        apply rgd_ev
        · intro a w hR hC hf
          obtain ⟨e9, -⟩ := hf
          replace e9 : a.tmps.getD 9 undef = _ := e9
          refine rg_plain rfl fun K hK => ?_
          go_simp
          exact hK _ _ rfl ⟨hRr _, Only.refl _ _, fun _ _ _ _ h => h⟩
        -- 10: s80 := call { value (Operand.func 34), args := #[t79, const (18:u64)], #[57, 61] }
        apply rgd_ev
        · intro a w hR hC hf
          obtain ⟨e79, -⟩ := hf
          replace e79 : a.tmps.getD 79 undef = _ := e79
          refine rg_plain rfl fun K hK => ?_
          go_simp
          (with_reducible refine (refRot_any x15 18 (by simp) 18 rfl _ rfl w).mono ?_)
          rintro e w' ⟨rfl, rfl⟩
          exact hK _ _ rfl ⟨hRr _, Only.refl _ _, fun _ _ _ _ h => h⟩
        -- 11: s81 := binOp Binxor 57 t78 t80 57
        apply rgd_ev
        · intro a w hR hC hf
          obtain ⟨e78, e80, -⟩ := hf
          replace e78 : a.tmps.getD 78 undef = _ := e78
          replace e80 : a.tmps.getD 80 undef = _ := e80
          refine rg_plain rfl fun K hK => ?_
          go_simp
          exact hK _ _ rfl ⟨hRr _, Only.refl _ _, fun _ _ _ _ h => h⟩
        -- 12: s82 := move t9
        apply rgd_ev
        · intro a w hR hC hf
          obtain ⟨e9, -⟩ := hf
          replace e9 : a.tmps.getD 9 undef = _ := e9
          refine rg_plain rfl fun K hK => ?_
          go_simp
          exact hK _ _ rfl ⟨hRr _, Only.refl _ _, fun _ _ _ _ h => h⟩
        -- 13: s83 := binOp Binquo 57 t82 (const (8:u32)) 57
        apply rgd_ev
        · intro a w hR hC hf
          obtain ⟨e82, -⟩ := hf
          replace e82 : a.tmps.getD 82 undef = _ := e82
          refine rg_plain rfl fun K hK => ?_
          have hw8 := Hw8.out
          go_simp
          exact hK _ _ rfl ⟨hRr _, Only.refl _ _, fun _ _ _ _ h => h⟩
        -- 14: s84 := binOp Binxor 57 t81 t83 57
        apply rgd_ev
        · intro a w hR hC hf
          obtain ⟨e81, e83, -⟩ := hf
          replace e81 : a.tmps.getD 81 undef = _ := e81
          replace e83 : a.tmps.getD 83 undef = _ := e83
          refine rg_plain rfl fun K hK => ?_
          go_simp
          exact hK _ _ rfl ⟨hRr _, Only.refl _ _, fun _ _ _ _ h => h⟩
        -- 15: s85 := binOp Binadd 57 t76 t84 57
        apply rgd_ev
        · intro a w hR hC hf
          obtain ⟨e76, e84, -⟩ := hf
          replace e76 : a.tmps.getD 76 undef = _ := e76
          replace e84 : a.tmps.getD 84 undef = _ := e84
          refine rg_plain rfl fun K hK => ?_
          go_simp
          exact hK _ _ rfl ⟨hRr _, Only.refl _ _, fun _ _ _ _ h => h⟩
        -- 16: s86 := move t6
        apply rgd_ev
        · intro a w hR hC hf
          obtain ⟨e6, -⟩ := hf
          replace e6 : a.tmps.getD 6 undef = _ := e6
          refine rg_plain rfl fun K hK => ?_
          go_simp
          exact hK _ _ rfl ⟨hRr _, Only.refl _ _, fun _ _ _ _ h => h⟩
        -- 17: s87 := move t7
        apply rgd_ev
        · intro a w hR hC hf
          obtain ⟨e7, -⟩ := hf
          replace e7 : a.tmps.getD 7 undef = _ := e7
          refine rg_plain rfl fun K hK => ?_
          go_simp
          exact hK _ _ rfl ⟨hRr _, Only.refl _ _, fun _ _ _ _ h => h⟩
        -- 18: s88 := binOp Binsub 3 t87 (const (7:i64)) 3
        apply rgd_ev
        · intro a w hR hC hf
          obtain ⟨e87, -⟩ := hf
          replace e87 : a.tmps.getD 87 undef = _ := e87
          refine rg_plain rfl fun K hK => ?_
          have hw := IntWalk.i64_in ((t : Int) - 7) (by omega)
          go_simp
          exact hK _ _ rfl ⟨hRr _, Only.refl _ _, fun _ _ _ _ h => h⟩
        -- 19: s89 := indexAddr 59 t86 t88
        apply rgd_ev
        · intro a w hR hC hf
          obtain ⟨e86, e88, -⟩ := hf
          replace e86 : a.tmps.getD 86 undef = _ := e86
          replace e88 : a.tmps.getD 88 undef = _ := e88
          refine rg_plain rfl fun K hK => ?_
          have hi1 : (0 : Int) ≤ (t : Int) - 7 := by omega
          have hi2 : (t : Int) - 7 < 64 := by omega
          have hi3 : ((t : Int) - 7).toNat = t - 7 := by omega
          have hi4 : (7 : Int) ≤ (t : Int) := by omega
          go_simp
          exact hK _ _ rfl ⟨hRr _, Only.refl _ _, fun _ _ _ _ h => h⟩
        -- 20: s90 := load 57 t89
        apply rgd_ev
        · intro a w hR hC hf
          obtain ⟨e89, -⟩ := hf
          replace e89 : a.tmps.getD 89 undef = _ := e89
          refine rg_plain rfl fun K hK => ?_
          have hl := k7f w ((hC 32 (by simp) (by kernel_rfl)))
          go_simp
          exact hK _ _ rfl ⟨hRr _, Only.refl _ _, fun _ _ _ _ h => h⟩
        -- 21: s91 := binOp Binadd 57 t85 t90 57
        apply rgd_ev
        · intro a w hR hC hf
          obtain ⟨e85, e90, -⟩ := hf
          replace e85 : a.tmps.getD 85 undef = _ := e85
          replace e90 : a.tmps.getD 90 undef = _ := e90
          refine rg_plain rfl fun K hK => ?_
          go_simp
          exact hK _ _ rfl ⟨hRr _, Only.refl _ _, fun _ _ _ _ h => h⟩
        -- 22: s92 := move t10
        apply rgd_ev
        · intro a w hR hC hf
          obtain ⟨e10, -⟩ := hf
          replace e10 : a.tmps.getD 10 undef = _ := e10
          refine rg_plain rfl fun K hK => ?_
          go_simp
          exact hK _ _ rfl ⟨hRr _, Only.refl _ _, fun _ _ _ _ h => h⟩
        -- 23: s93 := call { value (Operand.func 34), args := #[t92, const (17:u64)], #[57, 61] }
        apply rgd_ev
        · intro a w hR hC hf
          obtain ⟨e92, -⟩ := hf
          replace e92 : a.tmps.getD 92 undef = _ := e92
          refine rg_plain rfl fun K hK => ?_
          go_simp
          (with_reducible refine (refRot_any x2 17 (by simp) 17 rfl _ rfl w).mono ?_)
          rintro e w' ⟨rfl, rfl⟩
          exact hK _ _ rfl ⟨hRr _, Only.refl _ _, fun _ _ _ _ h => h⟩
        -- 24: s94 := move t10
        apply rgd_ev
        · intro a w hR hC hf
          obtain ⟨e10, -⟩ := hf
          replace e10 : a.tmps.getD 10 undef = _ := e10
          refine rg_plain rfl fun K hK => ?_
          go_simp
          exact hK _ _ rfl ⟨hRr _, Only.refl _ _, fun _ _ _ _ h => h⟩
        -- 25: s95 := call { value (Operand.func 34), args := #[t94, const (19:u64)], #[57, 61] }
        apply rgd_ev
        · intro a w hR hC hf
          obtain ⟨e94, -⟩ := hf
          replace e94 : a.tmps.getD 94 undef = _ := e94
          refine rg_plain rfl fun K hK => ?_
          go_simp
          (with_reducible refine (refRot_any x2 19 (by simp) 19 rfl _ rfl w).mono ?_)
          rintro e w' ⟨rfl, rfl⟩
          exact hK _ _ rfl ⟨hRr _, Only.refl _ _, fun _ _ _ _ h => h⟩
        -- 26: s96 := binOp Binxor 57 t93 t95 57
        apply rgd_ev
        · intro a w hR hC hf
          obtain ⟨e93, e95, -⟩ := hf
          replace e93 : a.tmps.getD 93 undef = _ := e93
          replace e95 : a.tmps.getD 95 undef = _ := e95
          refine rg_plain rfl fun K hK => ?_
          go_simp
          exact hK _ _ rfl ⟨hRr _, Only.refl _ _, fun _ _ _ _ h => h⟩
        -- 27: s97 := move t10
        apply rgd_ev
        · intro a w hR hC hf
          obtain ⟨e10, -⟩ := hf
          replace e10 : a.tmps.getD 10 undef = _ := e10
          refine rg_plain rfl fun K hK => ?_
          go_simp
          exact hK _ _ rfl ⟨hRr _, Only.refl _ _, fun _ _ _ _ h => h⟩
        -- 28: s98 := binOp Binquo 57 t97 (const (1024:u32)) 57
        apply rgd_ev
        · intro a w hR hC hf
          obtain ⟨e97, -⟩ := hf
          replace e97 : a.tmps.getD 97 undef = _ := e97
          refine rg_plain rfl fun K hK => ?_
          have hw1024 := Hw1024.out
          go_simp
          exact hK _ _ rfl ⟨hRr _, Only.refl _ _, fun _ _ _ _ h => h⟩
        -- 29: s99 := binOp Binxor 57 t96 t98 57
        apply rgd_ev
        · intro a w hR hC hf
          obtain ⟨e96, e98, -⟩ := hf
          replace e96 : a.tmps.getD 96 undef = _ := e96
          replace e98 : a.tmps.getD 98 undef = _ := e98
          refine rg_plain rfl fun K hK => ?_
          go_simp
          exact hK _ _ rfl ⟨hRr _, Only.refl _ _, fun _ _ _ _ h => h⟩
        -- 30: s100 := binOp Binadd 57 t91 t99 57
        apply rgd_ev
        · intro a w hR hC hf
          obtain ⟨e91, e99, -⟩ := hf
          replace e91 : a.tmps.getD 91 undef = _ := e91
          replace e99 : a.tmps.getD 99 undef = _ := e99
          refine rg_plain rfl fun K hK => ?_
          go_simp
          exact hK _ _ rfl ⟨hRr _, Only.refl _ _, fun _ _ _ _ h => h⟩
        -- 31: s101 := indexAddr 59 t70 t71
        apply rgd_ev
        · intro a w hR hC hf
          obtain ⟨e70, e71, -⟩ := hf
          replace e70 : a.tmps.getD 70 undef = _ := e70
          replace e71 : a.tmps.getD 71 undef = _ := e71
          refine rg_plain rfl fun K hK => ?_
          have hji : (t : Int) < 64 := by omega
          go_simp
          exact hK _ _ rfl ⟨hRr _, Only.refl _ _, fun _ _ _ _ h => h⟩
        -- 32: sNone := store 57 t101 t100
        refine ⟨fun _ a => Row a g6 57 (u32s (fillR S (t + 1))), stands_of (fun _ _ _ h ho => h.only0 ho) (by intro x hx hk; obtain rfl := List.mem_singleton.1 hx; simp at hk), fun a w hR hC hf => ?_, ?_⟩
        · obtain ⟨e101, e100, -⟩ := hf
          replace e101 : a.tmps.getD 101 undef = _ := e101
          replace e100 : a.tmps.getD 100 undef = _ := e100
          refine rg_plain rfl fun K hK => ?_
          have hC32 := hC 32 (by simp) (by kernel_rfl)
          obtain ⟨y, hy⟩ : ∃ y, (fillR S t)[t]? = some y := ⟨_, List.getElem?_eq_getElem (by rw [fillR_len S HlS.out t (by omega)]; omega)⟩
          have hcc := hC32.cell (u32s_get hy)
          have hff := hC32.free t
          have hwd := (next_cells x16 x15 x7 x2).trans (congrArg (fun z : UInt32 => (z.toNat : Int)) Hxn.out.symm)
          go_simp
          have hst : Only [g6] w (w.setCell ⟨g6, t, none⟩ (u32v xn)) := Only.setCell w ⟨g6, t, none⟩ _
          refine hK undef _ ?_ ⟨hst, hst, fun i hi hne ha _ => absurd (List.mem_singleton.1 hi) hne⟩
          rw [← fillR_set S HlS.out HS.out, ← u32s_set]
          exact hC32.setCell t (u32v xn)
        intro f16 w16 hR16 hf hz16
        dsimp only [mergeT]
        -- r16>>
        obtain ⟨v32, r32⟩ := hz16 _ (List.mem_cons_self ..)
        go_wp2_with fail
        refine ⟨⟨t + 1, by go_num, by omega, Lib.hid r32, Lib.hid ((Ho.out.trans0 hR15).trans hR16 (fun i hi _ => hi))⟩, by simp [intOf]; omega⟩
      · obtain rfl : t = 64 := by omega
        have r := R3.out
        have hfull : fillR S 64 = S := by unfold fillR; rw [List.take_of_length_le (by rw [HlS.out]; exact Nat.le_refl _)]; simp
        rw [hfull] at r
        have Hr := Lib.hid r
        clear r R3 hfull
        go_wp2_with fail
        exact Hexit.out _ _ _ _ _ _ _ _ _ _ _ _ _ _ _ _ _ _ _ _ _ _ _ _ _ _ _ _ _ _ _ _ _ _ _ _ _ _ _ _ _ _ _ _ _ _ _ _ _ _ _ _ _ _ _ _ _ _ _ _ _ _ _ _ _ _ _ _ _ _ _ _ _ _ _ wr Hr.out Ho.out
end Go.Proofs.Ytmddehbfimpjdaa
