/- bollardref03.Sum's inner loop: a word put together of four bytes. -/
import Derived.Test.YtmddehbfimpjdaaRefShaBase
import Derived.Test.YtmddehbfimpjdaaRegDirt
set_option linter.unusedVariables false
namespace Go.Proofs.Ytmddehbfimpjdaa
open Go.RowKit

set_option maxRecDepth 1000000 in
set_option maxHeartbeats 4000000 in
theorem refLoop3 {Q : Exit → Act → World → Prop} {c0 c1 c2 c3 c9 c10 c11 c12 c13 c14 c15 c16 c17 c18 c19 c20 c21 c22 c23 c24 c25 c26 c27 c28 c29 c30 c31 c32 c33 c34 c35 c36 c37 c38 c39 c40 c41 c42 c43 c44 c45 c46 c47 c48 c49 c50 c51 c52 c53 c54 c55 c56 c57 c58 c59 c60 c61 c62 c63 c64 c65 c66 c67 c68 c69 c70 c71 c72 c73 c74 c75 c76 c77 c78 c79 c80 c81 c82 c83 c84 c85 c86 c87 c88 c89 c90 c91 c92 c93 c94 c95 c96 c97 c98 c99 c100 c101 c102 c103 c104 c105 c106 c107 c108 c109 c110 c111 c112 c113 c114 c115 c116 c117 c118 c119 c120 c121 c122 c123 c124 c125 c126 c127 c128 c129 c130 c131 c132 c133 c134 c135 c136 c137 c138 c139 c140 c141 c142 c143 c144 c145 c146 c147 c148 c149 c150 c151 c152 c153 c154 c155 c156 c157 c158 c159 c160 c161 c162 c163 c164 c165 c166 c167 c168 c169 c170 c171 c172 c173 c174 c175 c176 c177 c178 c179 c180 c181 c182 c183 c184 c185 c186 c187 c188 c189 c190 c191 c192 c193 c194 c195 c196 c197 c198 c199 c200 c201 c202 c203 c204 c205 c206 c207 c208 c209 c210 c211 c212 c213 c214 c215 c216 c217 c218 c219 c220 c221 : Value} (b4 off4 n4 c4 at_ g6 t : Nat) (R : List UInt32) (xb : Nat → UInt8) (w0 : World) (ht : t < 16) (hR : R.length = 64) (hR0 : R[t]? = some 0) (hrow : Row w0 g6 57 (u32s R)) (hbg : b4 ≠ g6)
    (hm : ∀ i, i < 4 → w0.cell? ⟨b4, off4 + (at_ + 4 * t + i), none⟩ = some (.int .u8 ((xb i).toNat : Int))) (hat : at_ + 4 * t + 4 ≤ n4) (hn4 : n4 ≤ 9223372036854775807)
    (hexit : ∀ (u8 u37 u38 u39 u40 u41 u42 u43 u44 u45 u46 u47 u48 u49 u50 u51 u52 u53 u54 u55 u56 u57 u58 u59 : Value) (w' : World), Row w' g6 57 (u32s (R.set t (word (xb 0) (xb 1) (xb 2) (xb 3)))) → Only [g6] w0 w' → Q (.exit 4) ⟨(c0 :: c1 :: c2 :: c3 :: .slice (some ⟨b4, off4, none⟩) n4 c4 :: .int .i64 (at_ : Int) :: .slice (some ⟨g6, 0, none⟩) 64 64 :: .int .i64 (t : Int) :: u8 :: c9 :: c10 :: c11 :: c12 :: c13 :: c14 :: c15 :: c16 :: c17 :: c18 :: c19 :: c20 :: c21 :: c22 :: c23 :: c24 :: c25 :: c26 :: c27 :: c28 :: c29 :: c30 :: c31 :: c32 :: c33 :: c34 :: c35 :: c36 :: u37 :: u38 :: u39 :: u40 :: u41 :: u42 :: u43 :: u44 :: u45 :: u46 :: u47 :: u48 :: u49 :: u50 :: u51 :: u52 :: u53 :: u54 :: u55 :: u56 :: u57 :: u58 :: u59 :: c60 :: c61 :: c62 :: c63 :: c64 :: c65 :: c66 :: c67 :: c68 :: c69 :: c70 :: c71 :: c72 :: c73 :: c74 :: c75 :: c76 :: c77 :: c78 :: c79 :: c80 :: c81 :: c82 :: c83 :: c84 :: c85 :: c86 :: c87 :: c88 :: c89 :: c90 :: c91 :: c92 :: c93 :: c94 :: c95 :: c96 :: c97 :: c98 :: c99 :: c100 :: c101 :: c102 :: c103 :: c104 :: c105 :: c106 :: c107 :: c108 :: c109 :: c110 :: c111 :: c112 :: c113 :: c114 :: c115 :: c116 :: c117 :: c118 :: c119 :: c120 :: c121 :: c122 :: c123 :: c124 :: c125 :: c126 :: c127 :: c128 :: c129 :: c130 :: c131 :: c132 :: c133 :: c134 :: c135 :: c136 :: c137 :: c138 :: c139 :: c140 :: c141 :: c142 :: c143 :: c144 :: c145 :: c146 :: c147 :: c148 :: c149 :: c150 :: c151 :: c152 :: c153 :: c154 :: c155 :: c156 :: c157 :: c158 :: c159 :: c160 :: c161 :: c162 :: c163 :: c164 :: c165 :: c166 :: c167 :: c168 :: c169 :: c170 :: c171 :: c172 :: c173 :: c174 :: c175 :: c176 :: c177 :: c178 :: c179 :: c180 :: c181 :: c182 :: c183 :: c184 :: c185 :: c186 :: c187 :: c188 :: c189 :: c190 :: c191 :: c192 :: c193 :: c194 :: c195 :: c196 :: c197 :: c198 :: c199 :: c200 :: c201 :: c202 :: c203 :: c204 :: c205 :: c206 :: c207 :: c208 :: c209 :: c210 :: c211 :: c212 :: c213 :: c214 :: c215 :: c216 :: c217 :: c218 :: c219 :: c220 :: c221 :: []).toArray, []⟩ w') :
    Code.wp Try.prog (refSumLoop 2) Q ⟨(c0 :: c1 :: c2 :: c3 :: .slice (some ⟨b4, off4, none⟩) n4 c4 :: .int .i64 (at_ : Int) :: .slice (some ⟨g6, 0, none⟩) 64 64 :: .int .i64 (t : Int) :: .int .i64 0 :: c9 :: c10 :: c11 :: c12 :: c13 :: c14 :: c15 :: c16 :: c17 :: c18 :: c19 :: c20 :: c21 :: c22 :: c23 :: c24 :: c25 :: c26 :: c27 :: c28 :: c29 :: c30 :: c31 :: c32 :: c33 :: c34 :: c35 :: c36 :: c37 :: c38 :: c39 :: c40 :: c41 :: c42 :: c43 :: c44 :: c45 :: c46 :: c47 :: c48 :: c49 :: c50 :: c51 :: c52 :: c53 :: c54 :: c55 :: c56 :: c57 :: c58 :: c59 :: c60 :: c61 :: c62 :: c63 :: c64 :: c65 :: c66 :: c67 :: c68 :: c69 :: c70 :: c71 :: c72 :: c73 :: c74 :: c75 :: c76 :: c77 :: c78 :: c79 :: c80 :: c81 :: c82 :: c83 :: c84 :: c85 :: c86 :: c87 :: c88 :: c89 :: c90 :: c91 :: c92 :: c93 :: c94 :: c95 :: c96 :: c97 :: c98 :: c99 :: c100 :: c101 :: c102 :: c103 :: c104 :: c105 :: c106 :: c107 :: c108 :: c109 :: c110 :: c111 :: c112 :: c113 :: c114 :: c115 :: c116 :: c117 :: c118 :: c119 :: c120 :: c121 :: c122 :: c123 :: c124 :: c125 :: c126 :: c127 :: c128 :: c129 :: c130 :: c131 :: c132 :: c133 :: c134 :: c135 :: c136 :: c137 :: c138 :: c139 :: c140 :: c141 :: c142 :: c143 :: c144 :: c145 :: c146 :: c147 :: c148 :: c149 :: c150 :: c151 :: c152 :: c153 :: c154 :: c155 :: c156 :: c157 :: c158 :: c159 :: c160 :: c161 :: c162 :: c163 :: c164 :: c165 :: c166 :: c167 :: c168 :: c169 :: c170 :: c171 :: c172 :: c173 :: c174 :: c175 :: c176 :: c177 :: c178 :: c179 :: c180 :: c181 :: c182 :: c183 :: c184 :: c185 :: c186 :: c187 :: c188 :: c189 :: c190 :: c191 :: c192 :: c193 :: c194 :: c195 :: c196 :: c197 :: c198 :: c199 :: c200 :: c201 :: c202 :: c203 :: c204 :: c205 :: c206 :: c207 :: c208 :: c209 :: c210 :: c211 :: c212 :: c213 :: c214 :: c215 :: c216 :: c217 :: c218 :: c219 :: c220 :: c221 :: []).toArray, []⟩ w0 := by
  conv => arg 2; whnf
  have Hm := Lib.hid hm
  have Hexit := Lib.hid hexit
  have HR := Lib.hid hR
  have hset0 : R.set t 0 = R := by
    apply List.ext_getElem?
    intro i
    rw [List.getElem?_set]
    split
    · subst_vars
      have := (List.getElem?_eq_some_iff.1 hR0).1
      rw [if_pos this, hR0]
    · rfl
  have Hset0 := Lib.hid hset0
  have hacc := accW_word xb
  have Hacc := Lib.hid hacc
  clear hm hexit hR hR0 hset0 hacc
  go_loopw [8] (fun i wr => ∃ k : Nat, i = .int .i64 (k : Int) ∧ k ≤ 4 ∧ Hid (Row wr g6 57 (u32s (R.set t (accW xb k)))) ∧ Hid (Only [g6] w0 wr)) (fun i _ => 4 - (intOf i).toNat)
  case atStart => exact ⟨0, rfl, by omega, Lib.hid (by show Row w0 g6 _ (u32s (R.set t 0)); rw [Hset0.out]; exact hrow), Lib.hid (Only.refl _ _)⟩
  case round =>
    clear hrow
    obtain ⟨k, rfl, hk, Rw, Ho⟩ := hrel
    by_cases hlt : k < 4
    · have hcm := Ho.out.cell (Hm.out k hlt) (by simp; exact hbg)
      have hstep : accW xb (k + 1) = accW xb k * 256 + (xb k).toUInt32 := rfl
      obtain ⟨x, hx⟩ : ∃ x, x = xb k := ⟨_, rfl⟩
      rw [← hx] at hcm hstep
      obtain ⟨acc, hac⟩ : ∃ a, a = accW xb k := ⟨_, rfl⟩
      obtain ⟨acc2, hac2⟩ : ∃ a, a = accW xb (k + 1) := ⟨_, rfl⟩
      rw [← hac] at Rw hstep
      rw [← hac2] at hstep
      have hcell := acc_cell acc x
      rw [← hstep] at hcell
      have hget : (R.set t acc)[t]? = some acc := by rw [List.getElem?_set_self (by rw [HR.out]; omega)]
      have hki : (k : Int) < 4 := by omega
      have Hstep := Lib.hid hstep
      have Hac2 := Lib.hid hac2
      have Hget := Lib.hid hget
      clear hx hstep hac hac2 hget
      go_wp2_with fail
      have hRr : ∀ a, Only [g6] a a := fun a => Only.refl _ _
      have hRt : ∀ a b e, Only [g6] a b → Only [g6] b e → Only [g6] a e := fun a b e h h2 => h.trans h2 (fun i hi _ => hi)
      have hRd : Only [g6] wr wr.drew := (Only.drew _).mono (by simp)
      have hC0 : ∀ i ∈ [19], (fun (_ : Nat) (a : World) => Row a g6 57 (u32s (R.set t acc))) i wr.drew := fun _ _ => Rw.out.only0 (Only.drew _)
      -- <<r14
      refine wp_region_rg4 (Only [g6]) (Dirt [(19, [g6])]) (fun (_ : Nat) (a : World) => Row a g6 57 (u32s (R.set t acc))) [19] [[(6, none)], [(7, none)], [(6, none)], [(7, none)], [(43, some 1), (44, some 0)], [(45, some 0)], [(46, some 0)], [(4, none)], [(5, none)], [(7, none)], [(50, some 0)], [(49, some 2), (51, some 0)], [(8, none)], [(52, some 1), (53, some 0)], [(48, some 6), (54, some 0)], [(55, some 0)], [(56, some 0)], [(47, some 10), (57, some 0)], [(41, some 17), (42, some 16)], [(59, some 0), (58, some 1)]] [] [none, none, none, none, none, none, none, none, none, none, none, none, none, none, none, none, none, none, none, none, none, none, none, none, none, none, none, none, none, none, none, none, none, none, none, none, none, none, none, none, none, some 41, some 42, some 43, some 44, some 45, some 46, some 47, some 48, some 49, some 50, some 51, some 52, some 53, some 54, some 55, some 56, some 57, some 58, some 59, none, none, none, none, none, none, none, none, none, none, none, none, none, none, none, none, none, none, none, none, none, none, none, none, none, none, none, none, none, none, none, none, none, none, none, none, none, none, none, none, none, none, none, none, none, none, none, none, none, none, none, none, none, none, none, none, none, none, none, none, none, none, none, none, none, none, none, none, none, none, none, none, none, none, none, none, none, none, none, none, none, none, none, none, none, none, none, none, none, none, none, none, none, none, none, none, none, none, none, none, none, none, none, none, none, none, none, none, none, none, none, none, none, none, none, none, none, none, none, none, none, none, none, none, none, none, none, none, none, none, none, none, none, none, none, none, none, none, none, none, none, none, none, none, none, none, none, none, none, none, none, none, none, none, none, none, none, none, none, none, none, none] (by kernel_rfl) rfl (by kernel_rfl) hRr hRt (fun _ _ => Only.refl _ _) hRd hC0 (by kernel_rfl) (by kernel_rfl) ?_
      -- 0: s41 := move t6
      apply rgd_ev
      · intro a w hR hC hf
        obtain ⟨e6, -⟩ := hf
        replace e6 : a.tmps.getD 6 undef = _ := e6
        refine rg_plain rfl fun K hK => ?_
        go_simp
        exact hK _ _ rfl ⟨hRr _, Only.refl _ _, fun _ _ _ _ h => h⟩
      -- 1: s42 := move t7
      apply rgd_ev
      · intro a w hR hC hf
        obtain ⟨e7, -⟩ := hf
        replace e7 : a.tmps.getD 7 undef = _ := e7
        refine rg_plain rfl fun K hK => ?_
        go_simp
        exact hK _ _ rfl ⟨hRr _, Only.refl _ _, fun _ _ _ _ h => h⟩
      -- 2: s43 := move t6
      apply rgd_ev
      · intro a w hR hC hf
        obtain ⟨e6, -⟩ := hf
        replace e6 : a.tmps.getD 6 undef = _ := e6
        refine rg_plain rfl fun K hK => ?_
        go_simp
        exact hK _ _ rfl ⟨hRr _, Only.refl _ _, fun _ _ _ _ h => h⟩
      -- 3: s44 := move t7
      apply rgd_ev
      · intro a w hR hC hf
        obtain ⟨e7, -⟩ := hf
        replace e7 : a.tmps.getD 7 undef = _ := e7
        refine rg_plain rfl fun K hK => ?_
        go_simp
        exact hK _ _ rfl ⟨hRr _, Only.refl _ _, fun _ _ _ _ h => h⟩
      -- 4: s45 := indexAddr 59 t43 t44
      apply rgd_ev
      · intro a w hR hC hf
        obtain ⟨e43, e44, -⟩ := hf
        replace e43 : a.tmps.getD 43 undef = _ := e43
        replace e44 : a.tmps.getD 44 undef = _ := e44
        refine rg_plain rfl fun K hK => ?_
        have hti : (t : Int) < 64 := by omega
        go_simp
        exact hK _ _ rfl ⟨hRr _, Only.refl _ _, fun _ _ _ _ h => h⟩
      -- 5: s46 := load 57 t45
      apply rgd_ev
      · intro a w hR hC hf
        obtain ⟨e45, -⟩ := hf
        replace e45 : a.tmps.getD 45 undef = _ := e45
        refine rg_plain rfl fun K hK => ?_
        have hl := (hC 19 (by simp) (by kernel_rfl)).cell (u32s_get Hget.out)
        go_simp
        exact hK _ _ rfl ⟨hRr _, Only.refl _ _, fun _ _ _ _ h => h⟩
      -- 6: s47 := binOp Binmul 57 t46 (const (256:u32)) 57
      apply rgd_ev
      · intro a w hR hC hf
        obtain ⟨e46, -⟩ := hf
        replace e46 : a.tmps.getD 46 undef = _ := e46
        refine rg_plain rfl fun K hK => ?_
        go_simp
        exact hK _ _ rfl ⟨hRr _, Only.refl _ _, fun _ _ _ _ h => h⟩
      -- 7: s48 := move t4
      apply rgd_ev
      · intro a w hR hC hf
        obtain ⟨e4, -⟩ := hf
        replace e4 : a.tmps.getD 4 undef = _ := e4
        refine rg_plain rfl fun K hK => ?_
        go_simp
        exact hK _ _ rfl ⟨hRr _, Only.refl _ _, fun _ _ _ _ h => h⟩
      -- 8: s49 := move t5
      apply rgd_ev
      · intro a w hR hC hf
        obtain ⟨e5, -⟩ := hf
        replace e5 : a.tmps.getD 5 undef = _ := e5
        refine rg_plain rfl fun K hK => ?_
        go_simp
        exact hK _ _ rfl ⟨hRr _, Only.refl _ _, fun _ _ _ _ h => h⟩
      -- 9: s50 := move t7
      apply rgd_ev
      · intro a w hR hC hf
        obtain ⟨e7, -⟩ := hf
        replace e7 : a.tmps.getD 7 undef = _ := e7
        refine rg_plain rfl fun K hK => ?_
        go_simp
        exact hK _ _ rfl ⟨hRr _, Only.refl _ _, fun _ _ _ _ h => h⟩
      -- 10: s51 := binOp Binmul 3 (const (4:i64)) t50 3
      apply rgd_ev
      · intro a w hR hC hf
        obtain ⟨e50, -⟩ := hf
        replace e50 : a.tmps.getD 50 undef = _ := e50
        refine rg_plain rfl fun K hK => ?_
        have hw := IntWalk.i64_in (4 * (t : Int)) (by omega)
        go_simp
        exact hK _ _ rfl ⟨hRr _, Only.refl _ _, fun _ _ _ _ h => h⟩
      -- 11: s52 := binOp Binadd 3 t49 t51 3
      apply rgd_ev
      · intro a w hR hC hf
        obtain ⟨e49, e51, -⟩ := hf
        replace e49 : a.tmps.getD 49 undef = _ := e49
        replace e51 : a.tmps.getD 51 undef = _ := e51
        refine rg_plain rfl fun K hK => ?_
        have hw := IntWalk.i64_in ((at_ : Int) + 4 * (t : Int)) (by omega)
        go_simp
        exact hK _ _ rfl ⟨hRr _, Only.refl _ _, fun _ _ _ _ h => h⟩
      -- 12: s53 := move t8
      apply rgd_ev
      · intro a w hR hC hf
        obtain ⟨e8, -⟩ := hf
        replace e8 : a.tmps.getD 8 undef = _ := e8
        refine rg_plain rfl fun K hK => ?_
        go_simp
        exact hK _ _ rfl ⟨hRr _, Only.refl _ _, fun _ _ _ _ h => h⟩
      -- 13: s54 := binOp Binadd 3 t52 t53 3
      apply rgd_ev
      · intro a w hR hC hf
        obtain ⟨e52, e53, -⟩ := hf
        replace e52 : a.tmps.getD 52 undef = _ := e52
        replace e53 : a.tmps.getD 53 undef = _ := e53
        refine rg_plain rfl fun K hK => ?_
        have hw := IntWalk.i64_in ((at_ : Int) + 4 * (t : Int) + (k : Int)) (by omega)
        go_simp
        exact hK _ _ rfl ⟨hRr _, Only.refl _ _, fun _ _ _ _ h => h⟩
      -- 14: s55 := indexAddr 22 t48 t54
      apply rgd_ev
      · intro a w hR hC hf
        obtain ⟨e48, e54, -⟩ := hf
        replace e48 : a.tmps.getD 48 undef = _ := e48
        replace e54 : a.tmps.getD 54 undef = _ := e54
        refine rg_plain rfl fun K hK => ?_
        have hi1 : (0 : Int) ≤ (at_ : Int) + 4 * (t : Int) + (k : Int) := by omega
        have hi2 : (at_ : Int) + 4 * (t : Int) + (k : Int) < (n4 : Int) := by omega
        have hi3 : ((at_ : Int) + 4 * (t : Int) + (k : Int)).toNat = at_ + 4 * t + k := by omega
        go_simp
        exact hK _ _ rfl ⟨hRr _, Only.refl _ _, fun _ _ _ _ h => h⟩
      -- 15: s56 := load 5 t55
      apply rgd_ev
      · intro a w hR hC hf
        obtain ⟨e55, -⟩ := hf
        replace e55 : a.tmps.getD 55 undef = _ := e55
        refine rg_plain rfl fun K hK => ?_
        have hl := hR.cell hcm (by simp; exact hbg)
        go_simp
        exact hK _ _ rfl ⟨hRr _, Only.refl _ _, fun _ _ _ _ h => h⟩
      -- 16: s57 := convert 5 57 t56
      apply rgd_ev
      · intro a w hR hC hf
        obtain ⟨e56, -⟩ := hf
        replace e56 : a.tmps.getD 56 undef = _ := e56
        refine rg_plain rfl fun K hK => ?_
        go_simp
        exact hK _ _ rfl ⟨hRr _, Only.refl _ _, fun _ _ _ _ h => h⟩
      -- 17: s58 := binOp Binadd 57 t47 t57 57
      apply rgd_ev
      · intro a w hR hC hf
        obtain ⟨e47, e57, -⟩ := hf
        replace e47 : a.tmps.getD 47 undef = _ := e47
        replace e57 : a.tmps.getD 57 undef = _ := e57
        refine rg_plain rfl fun K hK => ?_
        go_simp
        exact hK _ _ rfl ⟨hRr _, Only.refl _ _, fun _ _ _ _ h => h⟩
      -- 18: s59 := indexAddr 59 t41 t42
      apply rgd_ev
      · intro a w hR hC hf
        obtain ⟨e41, e42, -⟩ := hf
        replace e41 : a.tmps.getD 41 undef = _ := e41
        replace e42 : a.tmps.getD 42 undef = _ := e42
        refine rg_plain rfl fun K hK => ?_
        have hti : (t : Int) < 64 := by omega
        go_simp
        exact hK _ _ rfl ⟨hRr _, Only.refl _ _, fun _ _ _ _ h => h⟩
      -- 19: sNone := store 57 t59 t58
      refine ⟨fun _ a => Row a g6 57 (u32s (R.set t acc2)), stands_of (fun _ _ _ h ho => h.only0 ho) (by intro x hx hk; obtain rfl := List.mem_singleton.1 hx; simp at hk), fun a w hR hC hf => ?_, ?_⟩
      · obtain ⟨e59, e58, -⟩ := hf
        replace e59 : a.tmps.getD 59 undef = _ := e59
        replace e58 : a.tmps.getD 58 undef = _ := e58
        refine rg_plain rfl fun K hK => ?_
        have hC19 := hC 19 (by simp) (by kernel_rfl)
        have hcc := hC19.cell (u32s_get Hget.out)
        have hff := hC19.free t
        go_simp
        have hst : Only [g6] w (w.setCell ⟨g6, t, none⟩ (u32v acc2)) := Only.setCell w ⟨g6, t, none⟩ _
        refine hK undef _ ?_ ⟨hst, hst, fun i hi hne ha _ => absurd (List.mem_singleton.1 hi) hne⟩
        have hrs := hC19.setCell t (u32v acc2)
        rw [u32s_set, List.set_set] at hrs
        exact hrs
      intro f14 w14 hR14 hf hz14
      dsimp only [mergeT]
      -- r14>>
      obtain ⟨v19, r19⟩ := hz14 _ (List.mem_cons_self ..)
      go_wp2_with fail
      refine ⟨⟨k + 1, by go_num, by omega, Lib.hid (by rw [← Hac2.out]; exact r19), Lib.hid (Ho.out.trans hR14 (fun i hi _ => hi))⟩, by simp [intOf]; omega⟩
    · obtain rfl : k = 4 := by omega
      have r := Rw.out
      rw [Hacc.out] at r
      go_wp2_with fail
      exact Hexit.out _ _ _ _ _ _ _ _ _ _ _ _ _ _ _ _ _ _ _ _ _ _ _ _ wr r Ho.out
end Go.Proofs.Ytmddehbfimpjdaa
