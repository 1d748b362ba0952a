/- bollardref03: rot, k; the loops of Sum as codes of their own; plain laws; bollardref03.Sum's inner loop: a word put together of four bytes; bollardref03.Sum's loop over the words of a block: the schedule; bollardref03.Sum's inner loop: the eight words move on by one; bollardref03.Sum's 64 rounds; bollardref03.Sum: the state is added; bollardref03.Sum: block by block; bollardref03.Sum: the digest's bytes; The walk of bollardref03.message; The walk of bollardref03.Sum. -/
import Derived.Test.YtfoplbolbjcggaaDoorShaDigW
import Derived.Test.YtfoplbolbjcggaaDoorShaSums0
import Derived.Great.BuildSlice
import Derived.Test.YtfoplbolbjcggaaDoorRegions
import Derived.Test.YtfoplbolbjcggaaDoorShaRound
set_option linter.unusedVariables false
set_option maxRecDepth 100000
section
set_option linter.unusedVariables false
namespace Go.Proofs.YtfoplbolbjcggaaDoor
open Go.RowKit

/-- the loops of a code, in the order in which they open -/
def loopsOf : Code → List Code
  | .loop c => .loop c :: loopsOf c
  | .seq a b => loopsOf a ++ loopsOf b
  | .block _ c => loopsOf c
  | .scope c => loopsOf c
  | .cond _ a b => loopsOf a ++ loopsOf b
  | _ => []
noncomputable def refSumLoop (k : Nat) : Code := ((loopsOf ((Tryd.f67.body).getD .skip))[k]?).getD .skip

theorem or_add (a b i : Nat) (h : b < 2 ^ i) : a * 2 ^ i ||| b = a * 2 ^ i + b := by
  rw [← Nat.shiftLeft_eq, ← Nat.shiftLeft_add_eq_or_of_lt h]
theorem word_nat (a b c d : UInt8) : (word a b c d).toNat = a.toNat * 16777216 + b.toNat * 65536 + c.toNat * 256 + d.toNat := by
  have ha := a.toNat_lt
  have hb := b.toNat_lt
  have hc := c.toNat_lt
  have hd := d.toNat_lt
  have e24 : (a.toUInt32 <<< 24).toNat = a.toNat * 16777216 := by
    rw [UInt32.toNat_shiftLeft, show ((24 : UInt32).toNat % 32) = 24 from rfl, Nat.shiftLeft_eq, UInt8.toNat_toUInt32, Nat.mod_eq_of_lt (by omega)]
  have e16 : (b.toUInt32 <<< 16).toNat = b.toNat * 65536 := by
    rw [UInt32.toNat_shiftLeft, show ((16 : UInt32).toNat % 32) = 16 from rfl, Nat.shiftLeft_eq, UInt8.toNat_toUInt32, Nat.mod_eq_of_lt (by omega)]
  have e8 : (c.toUInt32 <<< 8).toNat = c.toNat * 256 := by
    rw [UInt32.toNat_shiftLeft, show ((8 : UInt32).toNat % 32) = 8 from rfl, Nat.shiftLeft_eq, UInt8.toNat_toUInt32, Nat.mod_eq_of_lt (by omega)]
  unfold word
  rw [UInt32.toNat_or, UInt32.toNat_or, UInt32.toNat_or, e24, e16, e8, UInt8.toNat_toUInt32]
  have h1 := or_add a.toNat (b.toNat * 65536) 24 (by omega)
  have h2 := or_add (a.toNat * 256 + b.toNat) (c.toNat * 256) 16 (by omega)
  have h3 := or_add (a.toNat * 65536 + b.toNat * 256 + c.toNat) d.toNat 8 (by omega)
  rw [show (2 : Nat) ^ 24 = 16777216 from rfl] at h1
  rw [show (2 : Nat) ^ 16 = 65536 from rfl] at h2
  rw [show (2 : Nat) ^ 8 = 256 from rfl] at h3
  rw [h1, show a.toNat * 16777216 + b.toNat * 65536 = (a.toNat * 256 + b.toNat) * 65536 by omega, h2, show (a.toNat * 256 + b.toNat) * 65536 + c.toNat * 256 = (a.toNat * 65536 + b.toNat * 256 + c.toNat) * 256 by omega, h3]
/-- a word put together byte by byte -/
def accW (f : Nat → UInt8) : Nat → UInt32
  | 0 => 0
  | i + 1 => accW f i * 256 + (f i).toUInt32
theorem accW_word (f : Nat → UInt8) : accW f 4 = word (f 0) (f 1) (f 2) (f 3) := by
  apply UInt32.toNat_inj.1
  rw [word_nat]
  have h0 := (f 0).toNat_lt
  have h1 := (f 1).toNat_lt
  have h2 := (f 2).toNat_lt
  have h3 := (f 3).toNat_lt
  simp only [accW, UInt32.toNat_add, UInt32.toNat_mul, UInt8.toNat_toUInt32, UInt32.toNat_zero, show (256 : UInt32).toNat = 256 from rfl]
  omega
theorem acc_cell (a : UInt32) (x : UInt8) : IntKind.u32.wrap (IntKind.u32.wrap ((a.toNat : Int) * 256) + IntKind.u32.wrap (x.toNat : Int)) = ((a * 256 + x.toUInt32).toNat : Int) := by
  have hx := x.toNat_lt
  have h1 := u32_mul_u32 a 256
  have e1 : IntKind.u32.wrap ((a.toNat : Int) * 256) = ((a * 256).toNat : Int) := by
    rw [← h1]; simp [IntKind.wrap, IntKind.bits, IntKind.signed]
  have e2 : IntKind.u32.wrap (x.toNat : Int) = ((x.toUInt32).toNat : Int) := by rw [UInt8.toNat_toUInt32]; exact u32_wrap_nat _ (by omega)
  rw [e1, e2, u32_add_cell]

theorem refRot_any (x : UInt32) (n : Nat) (hn : n = 2 ∨ n = 6 ∨ n = 7 ∨ n = 11 ∨ n = 13 ∨ n = 17 ∨ n = 18 ∨ n = 19 ∨ n = 22 ∨ n = 25) (v : Int) (hv : v = (n : Int)) (r : UInt32) (hr : rotr x (UInt32.ofNat n) = r) (w : World) : Calls Tryd.prog 97 #[.int .u32 (x.toNat : Int), .int .u64 v] w fun e w' => e = .returned (.int .u32 (r.toNat : Int)) ∧ w = w' := by
  have h1 := shr_nat x n (by omega)
  have h2 := shl_nat x (32 - n) (by omega)
  have e : (32 : UInt32) - UInt32.ofNat n = UInt32.ofNat (32 - n) := by
    apply UInt32.toNat_inj.1
    rw [UInt32.toNat_sub, UInt32.toNat_ofNat', UInt32.toNat_ofNat', show (32 : UInt32).toNat = 32 from rfl]; omega
  have h3 : bits .or .u32 ((x.toNat : Int) / 2 ^ n) ((x.toNat : Int) * 2 ^ (32 - n) % 4294967296) = (r.toNat : Int) := by
    rw [h1, h2, u32_or_u32, ← hr]; unfold rotr; rw [e]
  subst hv
  clear h1 h2 e hr
  have hn32 : n < 32 := by omega
  rcases hn with rfl | rfl | rfl | rfl | rfl | rfl | rfl | rfl | rfl | rfl <;>
  · skip
    go_enter Tryd.func97, Tryd.ntmps97
    go_wp2_with fail
    go_ret
    refine ⟨congrArg (fun z => Ending.returned (.int .u32 z)) ?_, rfl⟩
    simpa using h3
theorem infoU32 : (Tryd.prog.info? 160).map (fun i => (i.zero, i.size, i.bytes)) = some (some (.int .u32 0), 1, 4) := by kernel_rfl
set_option maxRecDepth 100000 in
theorem refK_any (j : Nat) (x : UInt32) (hx : shaK[j]? = some x) (ww : World) : Calls Tryd.prog 98 #[.int .i64 (j : Int)] ww fun e w' => e = .returned (.int .u32 (x.toNat : Int)) ∧ Only [] ww w' := by
  obtain ⟨ie, hie, hz0, hz1, hz2⟩ := info_parts infoU32
  have hj : j < 64 := (List.getElem?_eq_some_iff.1 hx).1
  have hji : (j : Int) < 64 := by omega
  have r := Row.new ww 160 (u32s shaK)
  have hc := r.cell (u32s_get hx)
  have ho : Only [] ww (ww.alloc (.cells (u32s shaK).toArray 160)) := Only.alloc _ _
  clear hx r
  go_enter Tryd.func98, Tryd.ntmps98
  go_wp2_with (first | ((with_reducible show wpList _ _ _ _ _ _); refine wpList_buildSlice rfl 176 160 64 _ rfl (u32s shaK).toArray ie (.int .u32 0) Tryd.underlying176 hie hz0 (by rw [hz1]; decide) (by rw [hz1]; decide) (by rw [hz1]; kernel_rfl) ?_))
  go_ret
  exact ⟨rfl, ho⟩
end Go.Proofs.YtfoplbolbjcggaaDoor
end
section
set_option linter.unusedVariables false
namespace Go.Proofs.YtfoplbolbjcggaaDoor
open Go.RowKit

set_option maxRecDepth 1000000 in
set_option maxHeartbeats 4000000 in
theorem refLoop3 {Q : Exit → Act → World → Prop} {c0 c1 c2 c3 c9 c10 c11 c12 c13 c14 c15 c16 c17 c18 c19 c20 c21 c22 c23 c24 c25 c26 c27 c28 c29 c30 c31 c32 c33 c34 c35 c36 c37 c38 c39 c40 c41 c42 c43 c44 c45 c46 c47 c48 c49 c50 c51 c52 c53 c54 c55 c56 c57 c58 c59 c60 c61 c62 c63 c64 c65 c66 c67 c68 c69 c70 c71 c72 c73 c74 c75 c76 c77 c78 c79 c80 c81 c82 c83 c84 c85 c86 c87 c88 c89 c90 c91 c92 c93 c94 c95 c96 c97 c98 c99 c100 c101 c102 c103 c104 c105 c106 c107 c108 c109 c110 c111 c112 c113 c114 c115 c116 c117 c118 c119 c120 c121 c122 c123 c124 c125 c126 c127 c128 c129 c130 c131 c132 c133 c134 c135 c136 c137 c138 c139 c140 c141 c142 c143 c144 c145 c146 c147 c148 c149 c150 c151 c152 c153 c154 c155 c156 c157 c158 c159 c160 c161 c162 c163 c164 c165 c166 c167 c168 c169 c170 c171 c172 c173 c174 c175 c176 c177 c178 c179 c180 c181 c182 c183 c184 c185 c186 c187 c188 c189 c190 c191 c192 c193 c194 c195 c196 c197 c198 c199 c200 c201 c202 c203 c204 c205 c206 c207 c208 c209 c210 c211 c212 c213 c214 c215 c216 c217 c218 c219 c220 c221 : Value} (b4 off4 n4 c4 at_ g6 t : Nat) (R : List UInt32) (xb : Nat → UInt8) (w0 : World) (ht : t < 16) (hR : R.length = 64) (hR0 : R[t]? = some 0) (hrow : Row w0 g6 160 (u32s R)) (hbg : b4 ≠ g6)
    (hm : ∀ i, i < 4 → w0.cell? ⟨b4, off4 + (at_ + 4 * t + i), none⟩ = some (.int .u8 ((xb i).toNat : Int))) (hat : at_ + 4 * t + 4 ≤ n4) (hn4 : n4 ≤ 9223372036854775807)
    (hexit : ∀ (u8 u37 u38 u39 u40 u41 u42 u43 u44 u45 u46 u47 u48 u49 u50 u51 u52 u53 u54 u55 u56 u57 u58 u59 : Value) (w' : World), Row w' g6 160 (u32s (R.set t (word (xb 0) (xb 1) (xb 2) (xb 3)))) → Only [g6] w0 w' → Q (.exit 4) ⟨(c0 :: c1 :: c2 :: c3 :: .slice (some ⟨b4, off4, none⟩) n4 c4 :: .int .i64 (at_ : Int) :: .slice (some ⟨g6, 0, none⟩) 64 64 :: .int .i64 (t : Int) :: u8 :: c9 :: c10 :: c11 :: c12 :: c13 :: c14 :: c15 :: c16 :: c17 :: c18 :: c19 :: c20 :: c21 :: c22 :: c23 :: c24 :: c25 :: c26 :: c27 :: c28 :: c29 :: c30 :: c31 :: c32 :: c33 :: c34 :: c35 :: c36 :: u37 :: u38 :: u39 :: u40 :: u41 :: u42 :: u43 :: u44 :: u45 :: u46 :: u47 :: u48 :: u49 :: u50 :: u51 :: u52 :: u53 :: u54 :: u55 :: u56 :: u57 :: u58 :: u59 :: c60 :: c61 :: c62 :: c63 :: c64 :: c65 :: c66 :: c67 :: c68 :: c69 :: c70 :: c71 :: c72 :: c73 :: c74 :: c75 :: c76 :: c77 :: c78 :: c79 :: c80 :: c81 :: c82 :: c83 :: c84 :: c85 :: c86 :: c87 :: c88 :: c89 :: c90 :: c91 :: c92 :: c93 :: c94 :: c95 :: c96 :: c97 :: c98 :: c99 :: c100 :: c101 :: c102 :: c103 :: c104 :: c105 :: c106 :: c107 :: c108 :: c109 :: c110 :: c111 :: c112 :: c113 :: c114 :: c115 :: c116 :: c117 :: c118 :: c119 :: c120 :: c121 :: c122 :: c123 :: c124 :: c125 :: c126 :: c127 :: c128 :: c129 :: c130 :: c131 :: c132 :: c133 :: c134 :: c135 :: c136 :: c137 :: c138 :: c139 :: c140 :: c141 :: c142 :: c143 :: c144 :: c145 :: c146 :: c147 :: c148 :: c149 :: c150 :: c151 :: c152 :: c153 :: c154 :: c155 :: c156 :: c157 :: c158 :: c159 :: c160 :: c161 :: c162 :: c163 :: c164 :: c165 :: c166 :: c167 :: c168 :: c169 :: c170 :: c171 :: c172 :: c173 :: c174 :: c175 :: c176 :: c177 :: c178 :: c179 :: c180 :: c181 :: c182 :: c183 :: c184 :: c185 :: c186 :: c187 :: c188 :: c189 :: c190 :: c191 :: c192 :: c193 :: c194 :: c195 :: c196 :: c197 :: c198 :: c199 :: c200 :: c201 :: c202 :: c203 :: c204 :: c205 :: c206 :: c207 :: c208 :: c209 :: c210 :: c211 :: c212 :: c213 :: c214 :: c215 :: c216 :: c217 :: c218 :: c219 :: c220 :: c221 :: []).toArray, []⟩ w') :
    Code.wp Tryd.prog (refSumLoop 2) Q ⟨(c0 :: c1 :: c2 :: c3 :: .slice (some ⟨b4, off4, none⟩) n4 c4 :: .int .i64 (at_ : Int) :: .slice (some ⟨g6, 0, none⟩) 64 64 :: .int .i64 (t : Int) :: .int .i64 0 :: c9 :: c10 :: c11 :: c12 :: c13 :: c14 :: c15 :: c16 :: c17 :: c18 :: c19 :: c20 :: c21 :: c22 :: c23 :: c24 :: c25 :: c26 :: c27 :: c28 :: c29 :: c30 :: c31 :: c32 :: c33 :: c34 :: c35 :: c36 :: c37 :: c38 :: c39 :: c40 :: c41 :: c42 :: c43 :: c44 :: c45 :: c46 :: c47 :: c48 :: c49 :: c50 :: c51 :: c52 :: c53 :: c54 :: c55 :: c56 :: c57 :: c58 :: c59 :: c60 :: c61 :: c62 :: c63 :: c64 :: c65 :: c66 :: c67 :: c68 :: c69 :: c70 :: c71 :: c72 :: c73 :: c74 :: c75 :: c76 :: c77 :: c78 :: c79 :: c80 :: c81 :: c82 :: c83 :: c84 :: c85 :: c86 :: c87 :: c88 :: c89 :: c90 :: c91 :: c92 :: c93 :: c94 :: c95 :: c96 :: c97 :: c98 :: c99 :: c100 :: c101 :: c102 :: c103 :: c104 :: c105 :: c106 :: c107 :: c108 :: c109 :: c110 :: c111 :: c112 :: c113 :: c114 :: c115 :: c116 :: c117 :: c118 :: c119 :: c120 :: c121 :: c122 :: c123 :: c124 :: c125 :: c126 :: c127 :: c128 :: c129 :: c130 :: c131 :: c132 :: c133 :: c134 :: c135 :: c136 :: c137 :: c138 :: c139 :: c140 :: c141 :: c142 :: c143 :: c144 :: c145 :: c146 :: c147 :: c148 :: c149 :: c150 :: c151 :: c152 :: c153 :: c154 :: c155 :: c156 :: c157 :: c158 :: c159 :: c160 :: c161 :: c162 :: c163 :: c164 :: c165 :: c166 :: c167 :: c168 :: c169 :: c170 :: c171 :: c172 :: c173 :: c174 :: c175 :: c176 :: c177 :: c178 :: c179 :: c180 :: c181 :: c182 :: c183 :: c184 :: c185 :: c186 :: c187 :: c188 :: c189 :: c190 :: c191 :: c192 :: c193 :: c194 :: c195 :: c196 :: c197 :: c198 :: c199 :: c200 :: c201 :: c202 :: c203 :: c204 :: c205 :: c206 :: c207 :: c208 :: c209 :: c210 :: c211 :: c212 :: c213 :: c214 :: c215 :: c216 :: c217 :: c218 :: c219 :: c220 :: c221 :: []).toArray, []⟩ w0 := by
  conv => arg 2; whnf
  have Hm := Lib.hid hm
  have Hexit := Lib.hid hexit
  have HR := Lib.hid hR
  have hset0 : R.set t 0 = R := by
    apply List.ext_getElem?
    intro i
    rw [List.getElem?_set]
    split
    · subst_vars
      have := (List.getElem?_eq_some_iff.1 hR0).1
      rw [if_pos this, hR0]
    · rfl
  have Hset0 := Lib.hid hset0
  have hacc := accW_word xb
  have Hacc := Lib.hid hacc
  clear hm hexit hR hR0 hset0 hacc
  go_loopw [8] (fun i wr => ∃ k : Nat, i = .int .i64 (k : Int) ∧ k ≤ 4 ∧ Hid (Row wr g6 160 (u32s (R.set t (accW xb k)))) ∧ Hid (Only [g6] w0 wr)) (fun i _ => 4 - (intOf i).toNat)
  case atStart => exact ⟨0, rfl, by omega, Lib.hid (by show Row w0 g6 _ (u32s (R.set t 0)); rw [Hset0.out]; exact hrow), Lib.hid (Only.refl _ _)⟩
  case round =>
    clear hrow
    obtain ⟨k, rfl, hk, Rw, Ho⟩ := hrel
    by_cases hlt : k < 4
    · have hcm := Ho.out.cell (Hm.out k hlt) (by simp; exact hbg)
      have hstep : accW xb (k + 1) = accW xb k * 256 + (xb k).toUInt32 := rfl
      obtain ⟨x, hx⟩ : ∃ x, x = xb k := ⟨_, rfl⟩
      rw [← hx] at hcm hstep
      obtain ⟨acc, hac⟩ : ∃ a, a = accW xb k := ⟨_, rfl⟩
      obtain ⟨acc2, hac2⟩ : ∃ a, a = accW xb (k + 1) := ⟨_, rfl⟩
      rw [← hac] at Rw hstep
      rw [← hac2] at hstep
      have hcell := acc_cell acc x
      rw [← hstep] at hcell
      have hget : (R.set t acc)[t]? = some acc := by rw [List.getElem?_set_self (by rw [HR.out]; omega)]
      have hki : (k : Int) < 4 := by omega
      have Hstep := Lib.hid hstep
      have Hac2 := Lib.hid hac2
      have Hget := Lib.hid hget
      clear hx hstep hac hac2 hget
      go_wp2_with fail
      have hRr : ∀ a, Only [g6] a a := fun a => Only.refl _ _
      have hRt : ∀ a b e, Only [g6] a b → Only [g6] b e → Only [g6] a e := fun a b e h h2 => h.trans h2 (fun i hi _ => hi)
      have hRd : Only [g6] wr wr.drew := (Only.drew _).mono (by simp)
      have hC0 : ∀ i ∈ [19], (fun (_ : Nat) (a : World) => Row a g6 160 (u32s (R.set t acc))) i wr.drew := fun _ _ => Rw.out.only0 (Only.drew _)
      -- <<r14
      refine wp_region_rg4 (Only [g6]) (Dirt [(19, [g6])]) (fun (_ : Nat) (a : World) => Row a g6 160 (u32s (R.set t acc))) [19] [[(6, none)], [(7, none)], [(6, none)], [(7, none)], [(43, some 1), (44, some 0)], [(45, some 0)], [(46, some 0)], [(4, none)], [(5, none)], [(7, none)], [(50, some 0)], [(49, some 2), (51, some 0)], [(8, none)], [(52, some 1), (53, some 0)], [(48, some 6), (54, some 0)], [(55, some 0)], [(56, some 0)], [(47, some 10), (57, some 0)], [(41, some 17), (42, some 16)], [(59, some 0), (58, some 1)]] [] [none, none, none, none, none, none, none, none, none, none, none, none, none, none, none, none, none, none, none, none, none, none, none, none, none, none, none, none, none, none, none, none, none, none, none, none, none, none, none, none, none, some 41, some 42, some 43, some 44, some 45, some 46, some 47, some 48, some 49, some 50, some 51, some 52, some 53, some 54, some 55, some 56, some 57, some 58, some 59, none, none, none, none, none, none, none, none, none, none, none, none, none, none, none, none, none, none, none, none, none, none, none, none, none, none, none, none, none, none, none, none, none, none, none, none, none, none, none, none, none, none, none, none, none, none, none, none, none, none, none, none, none, none, none, none, none, none, none, none, none, none, none, none, none, none, none, none, none, none, none, none, none, none, none, none, none, none, none, none, none, none, none, none, none, none, none, none, none, none, none, none, none, none, none, none, none, none, none, none, none, none, none, none, none, none, none, none, none, none, none, none, none, none, none, none, none, none, none, none, none, none, none, none, none, none, none, none, none, none, none, none, none, none, none, none, none, none, none, none, none, none, none, none, none, none, none, none, none, none, none, none, none, none, none, none, none, none, none, none, none, none] (by kernel_rfl) rfl (by kernel_rfl) hRr hRt (fun _ _ => Only.refl _ _) hRd hC0 (by kernel_rfl) (by kernel_rfl) ?_
      -- 0: s41 := move t6
      apply rgd_ev
      · intro a w hR hC hf
        obtain ⟨e6, -⟩ := hf
        replace e6 : a.tmps.getD 6 undef = _ := e6
        refine rg_plain rfl fun K hK => ?_
        go_simp
        exact hK _ _ rfl ⟨hRr _, Only.refl _ _, fun _ _ _ _ h => h⟩
      -- 1: s42 := move t7
      apply rgd_ev
      · intro a w hR hC hf
        obtain ⟨e7, -⟩ := hf
        replace e7 : a.tmps.getD 7 undef = _ := e7
        refine rg_plain rfl fun K hK => ?_
        go_simp
        exact hK _ _ rfl ⟨hRr _, Only.refl _ _, fun _ _ _ _ h => h⟩
      -- 2: s43 := move t6
      apply rgd_ev
      · intro a w hR hC hf
        obtain ⟨e6, -⟩ := hf
        replace e6 : a.tmps.getD 6 undef = _ := e6
        refine rg_plain rfl fun K hK => ?_
        go_simp
        exact hK _ _ rfl ⟨hRr _, Only.refl _ _, fun _ _ _ _ h => h⟩
      -- 3: s44 := move t7
      apply rgd_ev
      · intro a w hR hC hf
        obtain ⟨e7, -⟩ := hf
        replace e7 : a.tmps.getD 7 undef = _ := e7
        refine rg_plain rfl fun K hK => ?_
        go_simp
        exact hK _ _ rfl ⟨hRr _, Only.refl _ _, fun _ _ _ _ h => h⟩
      -- 4: s45 := indexAddr 59 t43 t44
      apply rgd_ev
      · intro a w hR hC hf
        obtain ⟨e43, e44, -⟩ := hf
        replace e43 : a.tmps.getD 43 undef = _ := e43
        replace e44 : a.tmps.getD 44 undef = _ := e44
        refine rg_plain rfl fun K hK => ?_
        have hti : (t : Int) < 64 := by omega
        go_simp
        exact hK _ _ rfl ⟨hRr _, Only.refl _ _, fun _ _ _ _ h => h⟩
      -- 5: s46 := load 57 t45
      apply rgd_ev
      · intro a w hR hC hf
        obtain ⟨e45, -⟩ := hf
        replace e45 : a.tmps.getD 45 undef = _ := e45
        refine rg_plain rfl fun K hK => ?_
        have hl := (hC 19 (by simp) (by kernel_rfl)).cell (u32s_get Hget.out)
        go_simp
        exact hK _ _ rfl ⟨hRr _, Only.refl _ _, fun _ _ _ _ h => h⟩
      -- 6: s47 := binOp Binmul 57 t46 (const (256:u32)) 57
      apply rgd_ev
      · intro a w hR hC hf
        obtain ⟨e46, -⟩ := hf
        replace e46 : a.tmps.getD 46 undef = _ := e46
        refine rg_plain rfl fun K hK => ?_
        go_simp
        exact hK _ _ rfl ⟨hRr _, Only.refl _ _, fun _ _ _ _ h => h⟩
      -- 7: s48 := move t4
      apply rgd_ev
      · intro a w hR hC hf
        obtain ⟨e4, -⟩ := hf
        replace e4 : a.tmps.getD 4 undef = _ := e4
        refine rg_plain rfl fun K hK => ?_
        go_simp
        exact hK _ _ rfl ⟨hRr _, Only.refl _ _, fun _ _ _ _ h => h⟩
      -- 8: s49 := move t5
      apply rgd_ev
      · intro a w hR hC hf
        obtain ⟨e5, -⟩ := hf
        replace e5 : a.tmps.getD 5 undef = _ := e5
        refine rg_plain rfl fun K hK => ?_
        go_simp
        exact hK _ _ rfl ⟨hRr _, Only.refl _ _, fun _ _ _ _ h => h⟩
      -- 9: s50 := move t7
      apply rgd_ev
      · intro a w hR hC hf
        obtain ⟨e7, -⟩ := hf
        replace e7 : a.tmps.getD 7 undef = _ := e7
        refine rg_plain rfl fun K hK => ?_
        go_simp
        exact hK _ _ rfl ⟨hRr _, Only.refl _ _, fun _ _ _ _ h => h⟩
      -- 10: s51 := binOp Binmul 3 (const (4:i64)) t50 3
      apply rgd_ev
      · intro a w hR hC hf
        obtain ⟨e50, -⟩ := hf
        replace e50 : a.tmps.getD 50 undef = _ := e50
        refine rg_plain rfl fun K hK => ?_
        have hw := IntWalk.i64_in (4 * (t : Int)) (by omega)
        go_simp
        exact hK _ _ rfl ⟨hRr _, Only.refl _ _, fun _ _ _ _ h => h⟩
      -- 11: s52 := binOp Binadd 3 t49 t51 3
      apply rgd_ev
      · intro a w hR hC hf
        obtain ⟨e49, e51, -⟩ := hf
        replace e49 : a.tmps.getD 49 undef = _ := e49
        replace e51 : a.tmps.getD 51 undef = _ := e51
        refine rg_plain rfl fun K hK => ?_
        have hw := IntWalk.i64_in ((at_ : Int) + 4 * (t : Int)) (by omega)
        go_simp
        exact hK _ _ rfl ⟨hRr _, Only.refl _ _, fun _ _ _ _ h => h⟩
      -- 12: s53 := move t8
      apply rgd_ev
      · intro a w hR hC hf
        obtain ⟨e8, -⟩ := hf
        replace e8 : a.tmps.getD 8 undef = _ := e8
        refine rg_plain rfl fun K hK => ?_
        go_simp
        exact hK _ _ rfl ⟨hRr _, Only.refl _ _, fun _ _ _ _ h => h⟩
      -- 13: s54 := binOp Binadd 3 t52 t53 3
      apply rgd_ev
      · intro a w hR hC hf
        obtain ⟨e52, e53, -⟩ := hf
        replace e52 : a.tmps.getD 52 undef = _ := e52
        replace e53 : a.tmps.getD 53 undef = _ := e53
        refine rg_plain rfl fun K hK => ?_
        have hw := IntWalk.i64_in ((at_ : Int) + 4 * (t : Int) + (k : Int)) (by omega)
        go_simp
        exact hK _ _ rfl ⟨hRr _, Only.refl _ _, fun _ _ _ _ h => h⟩
      -- 14: s55 := indexAddr 22 t48 t54
      apply rgd_ev
      · intro a w hR hC hf
        obtain ⟨e48, e54, -⟩ := hf
        replace e48 : a.tmps.getD 48 undef = _ := e48
        replace e54 : a.tmps.getD 54 undef = _ := e54
        refine rg_plain rfl fun K hK => ?_
        have hi1 : (0 : Int) ≤ (at_ : Int) + 4 * (t : Int) + (k : Int) := by omega
        have hi2 : (at_ : Int) + 4 * (t : Int) + (k : Int) < (n4 : Int) := by omega
        have hi3 : ((at_ : Int) + 4 * (t : Int) + (k : Int)).toNat = at_ + 4 * t + k := by omega
        go_simp
        exact hK _ _ rfl ⟨hRr _, Only.refl _ _, fun _ _ _ _ h => h⟩
      -- 15: s56 := load 5 t55
      apply rgd_ev
      · intro a w hR hC hf
        obtain ⟨e55, -⟩ := hf
        replace e55 : a.tmps.getD 55 undef = _ := e55
        refine rg_plain rfl fun K hK => ?_
        have hl := hR.cell hcm (by simp; exact hbg)
        go_simp
        exact hK _ _ rfl ⟨hRr _, Only.refl _ _, fun _ _ _ _ h => h⟩
      -- 16: s57 := convert 5 57 t56
      apply rgd_ev
      · intro a w hR hC hf
        obtain ⟨e56, -⟩ := hf
        replace e56 : a.tmps.getD 56 undef = _ := e56
        refine rg_plain rfl fun K hK => ?_
        go_simp
        exact hK _ _ rfl ⟨hRr _, Only.refl _ _, fun _ _ _ _ h => h⟩
      -- 17: s58 := binOp Binadd 57 t47 t57 57
      apply rgd_ev
      · intro a w hR hC hf
        obtain ⟨e47, e57, -⟩ := hf
        replace e47 : a.tmps.getD 47 undef = _ := e47
        replace e57 : a.tmps.getD 57 undef = _ := e57
        refine rg_plain rfl fun K hK => ?_
        go_simp
        exact hK _ _ rfl ⟨hRr _, Only.refl _ _, fun _ _ _ _ h => h⟩
      -- 18: s59 := indexAddr 59 t41 t42
      apply rgd_ev
      · intro a w hR hC hf
        obtain ⟨e41, e42, -⟩ := hf
        replace e41 : a.tmps.getD 41 undef = _ := e41
        replace e42 : a.tmps.getD 42 undef = _ := e42
        refine rg_plain rfl fun K hK => ?_
        have hti : (t : Int) < 64 := by omega
        go_simp
        exact hK _ _ rfl ⟨hRr _, Only.refl _ _, fun _ _ _ _ h => h⟩
      -- 19: sNone := store 57 t59 t58
      refine ⟨fun _ a => Row a g6 160 (u32s (R.set t acc2)), stands_of (fun _ _ _ h ho => h.only0 ho) (by intro x hx hk; obtain rfl := List.mem_singleton.1 hx; simp at hk), fun a w hR hC hf => ?_, ?_⟩
      · obtain ⟨e59, e58, -⟩ := hf
        replace e59 : a.tmps.getD 59 undef = _ := e59
        replace e58 : a.tmps.getD 58 undef = _ := e58
        refine rg_plain rfl fun K hK => ?_
        have hC19 := hC 19 (by simp) (by kernel_rfl)
        have hcc := hC19.cell (u32s_get Hget.out)
        have hff := hC19.free t
        go_simp
        have hst : Only [g6] w (w.setCell ⟨g6, t, none⟩ (u32v acc2)) := Only.setCell w ⟨g6, t, none⟩ _
        refine hK undef _ ?_ ⟨hst, hst, fun i hi hne ha _ => absurd (List.mem_singleton.1 hi) hne⟩
        have hrs := hC19.setCell t (u32v acc2)
        rw [u32s_set, List.set_set] at hrs
        exact hrs
      intro f14 w14 hR14 hf hz14
      dsimp only [mergeT]
      -- r14>>
      obtain ⟨v19, r19⟩ := hz14 _ (List.mem_cons_self ..)
      go_wp2_with fail
      refine ⟨⟨k + 1, by go_num, by omega, Lib.hid (by rw [← Hac2.out]; exact r19), Lib.hid (Ho.out.trans hR14 (fun i hi _ => hi))⟩, by simp [intOf]; omega⟩
    · obtain rfl : k = 4 := by omega
      have r := Rw.out
      rw [Hacc.out] at r
      go_wp2_with fail
      exact Hexit.out _ _ _ _ _ _ _ _ _ _ _ _ _ _ _ _ _ _ _ _ _ _ _ _ wr r Ho.out
end Go.Proofs.YtfoplbolbjcggaaDoor
end
section
set_option linter.unusedVariables false
namespace Go.Proofs.YtfoplbolbjcggaaDoor
open Go.RowKit

set_option maxRecDepth 1000000 in
set_option maxHeartbeats 8000000 in
theorem refLoop2 {Q : Exit → Act → World → Prop} {c0 c1 c2 c3 c8 c9 c10 c11 c12 c13 c14 c15 c16 c17 c18 c19 c20 c21 c22 c23 c24 c25 c26 c27 c28 c29 c30 c31 c32 c33 c34 c35 c36 c37 c38 c39 c40 c41 c42 c43 c44 c45 c46 c47 c48 c49 c50 c51 c52 c53 c54 c55 c56 c57 c58 c59 c60 c61 c62 c63 c64 c65 c66 c67 c68 c69 c70 c71 c72 c73 c74 c75 c76 c77 c78 c79 c80 c81 c82 c83 c84 c85 c86 c87 c88 c89 c90 c91 c92 c93 c94 c95 c96 c97 c98 c99 c100 c101 c102 c103 c104 c105 c106 c107 c108 c109 c110 c111 c112 c113 c114 c115 c116 c117 c118 c119 c120 c121 c122 c123 c124 c125 c126 c127 c128 c129 c130 c131 c132 c133 c134 c135 c136 c137 c138 c139 c140 c141 c142 c143 c144 c145 c146 c147 c148 c149 c150 c151 c152 c153 c154 c155 c156 c157 c158 c159 c160 c161 c162 c163 c164 c165 c166 c167 c168 c169 c170 c171 c172 c173 c174 c175 c176 c177 c178 c179 c180 c181 c182 c183 c184 c185 c186 c187 c188 c189 c190 c191 c192 c193 c194 c195 c196 c197 c198 c199 c200 c201 c202 c203 c204 c205 c206 c207 c208 c209 c210 c211 c212 c213 c214 c215 c216 c217 c218 c219 c220 c221 : Value} (b4 off4 n4 c4 at_ g6 : Nat) (bs : List UInt8) (yb : Nat → UInt8) (w0 : World) (hbs : bs.length = 64) (hyb : ∀ i, i < 64 → bs[i]? = some (yb i)) (hrow : Row w0 g6 160 (u32s (List.replicate 64 0))) (hbg : b4 ≠ g6)
    (hm : ∀ i, i < 64 → w0.cell? ⟨b4, off4 + (at_ + i), none⟩ = some (.int .u8 ((yb i).toNat : Int))) (hat : at_ + 64 ≤ n4) (hn4 : n4 ≤ 9223372036854775807)
    (hexit : ∀ (u7 u8 u9 u10 u31 u32 u33 u34 u35 u36 u37 u38 u39 u40 u41 u42 u43 u44 u45 u46 u47 u48 u49 u50 u51 u52 u53 u54 u55 u56 u57 u58 u59 u60 u61 u62 u63 u64 u65 u66 u67 u68 u69 u70 u71 u72 u73 u74 u75 u76 u77 u78 u79 u80 u81 u82 u83 u84 u85 u86 u87 u88 u89 u90 u91 u92 u93 u94 u95 u96 u97 u98 u99 u100 u101 : Value) (w' : World), Row w' g6 160 (u32s (sched bs)) → Only [g6] w0 w' → Q (.exit 2) ⟨(c0 :: c1 :: c2 :: c3 :: .slice (some ⟨b4, off4, none⟩) n4 c4 :: .int .i64 (at_ : Int) :: .slice (some ⟨g6, 0, none⟩) 64 64 :: u7 :: u8 :: u9 :: u10 :: c11 :: c12 :: c13 :: c14 :: c15 :: c16 :: c17 :: c18 :: c19 :: c20 :: c21 :: c22 :: c23 :: c24 :: c25 :: c26 :: c27 :: c28 :: c29 :: c30 :: u31 :: u32 :: u33 :: u34 :: u35 :: u36 :: u37 :: u38 :: u39 :: u40 :: u41 :: u42 :: u43 :: u44 :: u45 :: u46 :: u47 :: u48 :: u49 :: u50 :: u51 :: u52 :: u53 :: u54 :: u55 :: u56 :: u57 :: u58 :: u59 :: u60 :: u61 :: u62 :: u63 :: u64 :: u65 :: u66 :: u67 :: u68 :: u69 :: u70 :: u71 :: u72 :: u73 :: u74 :: u75 :: u76 :: u77 :: u78 :: u79 :: u80 :: u81 :: u82 :: u83 :: u84 :: u85 :: u86 :: u87 :: u88 :: u89 :: u90 :: u91 :: u92 :: u93 :: u94 :: u95 :: u96 :: u97 :: u98 :: u99 :: u100 :: u101 :: c102 :: c103 :: c104 :: c105 :: c106 :: c107 :: c108 :: c109 :: c110 :: c111 :: c112 :: c113 :: c114 :: c115 :: c116 :: c117 :: c118 :: c119 :: c120 :: c121 :: c122 :: c123 :: c124 :: c125 :: c126 :: c127 :: c128 :: c129 :: c130 :: c131 :: c132 :: c133 :: c134 :: c135 :: c136 :: c137 :: c138 :: c139 :: c140 :: c141 :: c142 :: c143 :: c144 :: c145 :: c146 :: c147 :: c148 :: c149 :: c150 :: c151 :: c152 :: c153 :: c154 :: c155 :: c156 :: c157 :: c158 :: c159 :: c160 :: c161 :: c162 :: c163 :: c164 :: c165 :: c166 :: c167 :: c168 :: c169 :: c170 :: c171 :: c172 :: c173 :: c174 :: c175 :: c176 :: c177 :: c178 :: c179 :: c180 :: c181 :: c182 :: c183 :: c184 :: c185 :: c186 :: c187 :: c188 :: c189 :: c190 :: c191 :: c192 :: c193 :: c194 :: c195 :: c196 :: c197 :: c198 :: c199 :: c200 :: c201 :: c202 :: c203 :: c204 :: c205 :: c206 :: c207 :: c208 :: c209 :: c210 :: c211 :: c212 :: c213 :: c214 :: c215 :: c216 :: c217 :: c218 :: c219 :: c220 :: c221 :: []).toArray, []⟩ w') :
    Code.wp Tryd.prog (refSumLoop 1) Q ⟨(c0 :: c1 :: c2 :: c3 :: .slice (some ⟨b4, off4, none⟩) n4 c4 :: .int .i64 (at_ : Int) :: .slice (some ⟨g6, 0, none⟩) 64 64 :: .int .i64 0 :: c8 :: c9 :: c10 :: c11 :: c12 :: c13 :: c14 :: c15 :: c16 :: c17 :: c18 :: c19 :: c20 :: c21 :: c22 :: c23 :: c24 :: c25 :: c26 :: c27 :: c28 :: c29 :: c30 :: c31 :: c32 :: c33 :: c34 :: c35 :: c36 :: c37 :: c38 :: c39 :: c40 :: c41 :: c42 :: c43 :: c44 :: c45 :: c46 :: c47 :: c48 :: c49 :: c50 :: c51 :: c52 :: c53 :: c54 :: c55 :: c56 :: c57 :: c58 :: c59 :: c60 :: c61 :: c62 :: c63 :: c64 :: c65 :: c66 :: c67 :: c68 :: c69 :: c70 :: c71 :: c72 :: c73 :: c74 :: c75 :: c76 :: c77 :: c78 :: c79 :: c80 :: c81 :: c82 :: c83 :: c84 :: c85 :: c86 :: c87 :: c88 :: c89 :: c90 :: c91 :: c92 :: c93 :: c94 :: c95 :: c96 :: c97 :: c98 :: c99 :: c100 :: c101 :: c102 :: c103 :: c104 :: c105 :: c106 :: c107 :: c108 :: c109 :: c110 :: c111 :: c112 :: c113 :: c114 :: c115 :: c116 :: c117 :: c118 :: c119 :: c120 :: c121 :: c122 :: c123 :: c124 :: c125 :: c126 :: c127 :: c128 :: c129 :: c130 :: c131 :: c132 :: c133 :: c134 :: c135 :: c136 :: c137 :: c138 :: c139 :: c140 :: c141 :: c142 :: c143 :: c144 :: c145 :: c146 :: c147 :: c148 :: c149 :: c150 :: c151 :: c152 :: c153 :: c154 :: c155 :: c156 :: c157 :: c158 :: c159 :: c160 :: c161 :: c162 :: c163 :: c164 :: c165 :: c166 :: c167 :: c168 :: c169 :: c170 :: c171 :: c172 :: c173 :: c174 :: c175 :: c176 :: c177 :: c178 :: c179 :: c180 :: c181 :: c182 :: c183 :: c184 :: c185 :: c186 :: c187 :: c188 :: c189 :: c190 :: c191 :: c192 :: c193 :: c194 :: c195 :: c196 :: c197 :: c198 :: c199 :: c200 :: c201 :: c202 :: c203 :: c204 :: c205 :: c206 :: c207 :: c208 :: c209 :: c210 :: c211 :: c212 :: c213 :: c214 :: c215 :: c216 :: c217 :: c218 :: c219 :: c220 :: c221 :: []).toArray, []⟩ w0 := by
  conv => arg 2; whnf
  have hlS := sched_len bs hbs
  have hlo : ∀ (j : Nat), j < 16 → (sched bs)[j]? = some (word (yb (4 * j)) (yb (4 * j + 1)) (yb (4 * j + 2)) (yb (4 * j + 3))) := fun j hj => sched_lo bs hbs hj (hyb _ (by omega)) (hyb _ (by omega)) (hyb _ (by omega)) (hyb _ (by omega))
  have hhi : ∀ (t : Nat) (a b c d : UInt32), 16 ≤ t → t < 64 → (sched bs)[t - 16]? = some a → (sched bs)[t - 15]? = some b → (sched bs)[t - 7]? = some c → (sched bs)[t - 2]? = some d → (sched bs)[t]? = some (a + sig0 b + c + sig1 d) := fun t a b c d ht ht2 h1 h2 h3 h4 => sched_hi bs hbs ht ht2 h1 h2 h3 h4
  generalize sched bs = S at hlS hlo hhi hexit
  have Hm := Lib.hid hm
  have Hexit := Lib.hid hexit
  have Hlo := Lib.hid hlo
  have Hhi := Lib.hid hhi
  have HlS := Lib.hid hlS
  have Hrow : Hid (Row w0 g6 160 (u32s (fillR S 0))) := Lib.hid hrow
  clear hm hexit hlo hhi hlS hrow hyb hbs
  go_loopw [7] (fun i wr => ∃ t : Nat, i = .int .i64 (t : Int) ∧ t ≤ 64 ∧ Hid (Row wr g6 160 (u32s (fillR S t))) ∧ Hid (Only [g6] w0 wr)) (fun i _ => 64 - (intOf i).toNat)
  case atStart => exact ⟨0, rfl, by omega, Hrow, Lib.hid (Only.refl _ _)⟩
  case round =>
    clear Hrow
    obtain ⟨t, rfl, ht, R3, Ho⟩ := hrel
    by_cases h16 : t < 16
    · have h16i : (t : Int) < 16 := by omega
      have h64i : (t : Int) < 64 := by omega
      have hs := Hlo.out t h16
      have Hs := Lib.hid hs
      clear hs
      go_wp2_with fail
      have hget0 : (fillR S t)[t]? = some 0 := by
        unfold fillR
        rw [List.getElem?_append_right (by rw [List.length_take]; omega), List.length_take, HlS.out, Nat.min_eq_left (by omega), Nat.sub_self, List.getElem?_replicate_of_lt (by omega)]
      refine refLoop3 b4 off4 n4 c4 at_ g6 t (fillR S t) (fun i => yb (4 * t + i)) wr h16 (fillR_len S HlS.out t (by omega)) hget0 R3.out hbg (fun i hi => ?_) (by omega) hn4 ?_
      · have := Ho.out.cell (Hm.out (4 * t + i) (by omega)) (by simp; exact hbg)
        rw [← Nat.add_assoc at_]  at this
        exact this
      · intros
        rename_i w' hr ho
        have e : (fillR S t).set t (word (yb (4 * t + 0)) (yb (4 * t + 1)) (yb (4 * t + 2)) (yb (4 * t + 3))) = fillR S (t + 1) := fillR_set S HlS.out Hs.out
        rw [e] at hr
        have Hr := Lib.hid hr
        have Ho2 := Lib.hid (Ho.out.trans ho (fun i hi _ => hi))
        clear hr ho R3 Ho e hget0
        go_wp2_with fail
        refine ⟨⟨t + 1, by go_num, by omega, Hr, Ho2⟩, by simp [intOf]; omega⟩
    · by_cases hlt : t < 64
      · have h16i : ¬ (t : Int) < 16 := by omega
        have h64i : (t : Int) < 64 := by omega
        have hg : ∀ k, k < t → ∃ x, S[k]? = some x ∧ wr.cell? ⟨g6, k, none⟩ = some (.int .u32 (x.toNat : Int)) := fun k hk => by
          have hkl : k < S.length := by rw [HlS.out]; omega
          refine ⟨S[k], List.getElem?_eq_getElem hkl, R3.out.cell (u32s_get ?_)⟩
          rw [fillR_get S HlS.out hk, List.getElem?_eq_getElem hkl]
        obtain ⟨x16, s16, c16⟩ := hg (t - 16) (by omega)
        obtain ⟨x15, s15, c15⟩ := hg (t - 15) (by omega)
        obtain ⟨x7, s7, c7⟩ := hg (t - 7) (by omega)
        obtain ⟨x2, s2, c2⟩ := hg (t - 2) (by omega)
        have hnx := Hhi.out t _ _ _ _ (by omega) hlt s16 s15 s7 s2
        obtain ⟨xn, hxn⟩ : ∃ x, x = x16 + sig0 x15 + x7 + sig1 x2 := ⟨_, rfl⟩
        rw [← hxn] at hnx
        have Hxn := Lib.hid hxn
        have HS := Lib.hid hnx
        have S16 := Lib.hid s16
        have S7 := Lib.hid s7
        have l15 := x15.toNat_lt
        have l2 := x2.toNat_lt
        have Hw8 : Hid (IntKind.u32.wrap ((x15.toNat : Int) / 8) = (x15.toNat : Int) / 8) := Lib.hid (by simp [IntKind.wrap, IntKind.bits, IntKind.signed]; omega)
        have Hw1024 : Hid (IntKind.u32.wrap ((x2.toNat : Int) / 1024) = (x2.toNat : Int) / 1024) := Lib.hid (by simp [IntKind.wrap, IntKind.bits, IntKind.signed]; omega)
        clear hnx hxn hg s16 s15 s7 s2 c16 c7
        go_wp2_with fail
        -- <<r15
        refine wp_region_rg2 (Only []) [[(6, none)], [(7, none)], [(61, some 0)], [(60, some 2), (62, some 0)], [(63, some 0)], [(6, none)], [(7, none)], [(66, some 0)], [(65, some 2), (67, some 0)], [(68, some 0)], [(64, some 5)], [(69, some 1)]] [(9, 1), (10, 0)] [none, none, none, none, none, none, none, none, none, some 9, some 10, none, none, none, none, none, none, none, none, none, none, none, none, none, none, none, none, none, none, none, none, none, none, none, none, none, none, none, none, none, none, none, none, none, none, none, none, none, none, none, none, none, none, none, none, none, none, none, none, none, some 60, some 61, some 62, some 63, some 64, some 65, some 66, some 67, some 68, some 69, none, none, none, none, none, none, none, none, none, none, none, none, none, none, none, none, none, none, none, none, none, none, none, none, none, none, none, none, none, none, none, none, none, none, none, none, none, none, none, none, none, none, none, none, none, none, none, none, none, none, none, none, none, none, none, none, none, none, none, none, none, none, none, none, none, none, none, none, none, none, none, none, none, none, none, none, none, none, none, none, none, none, none, none, none, none, none, none, none, none, none, none, none, none, none, none, none, none, none, none, none, none, none, none, none, none, none, none, none, none, none, none, none, none, none, none, none, none, none, none, none, none, none, none, none, none, none, none, none, none, none, none, none, none, none, none, none, none, none, none, none, none, none, none, none, none, none, none, none, none, none, none] (by kernel_rfl) rfl (by kernel_rfl) (fun _ => Only.refl _ _) (fun _ _ _ h k => h.trans0 k) (Only.drew _) (by kernel_rfl) ?_
        -- 0: s60 := move t6
        apply rg_ev
        · intro a w hR hf
          obtain ⟨e6, -⟩ := hf
          replace e6 : a.tmps.getD 6 undef = _ := e6
          refine rg_plain rfl fun K hK => ?_
          go_simp
          exact hK _ _ rfl (Only.refl _ _)
        -- 1: s61 := move t7
        apply rg_ev
        · intro a w hR hf
          obtain ⟨e7, -⟩ := hf
          replace e7 : a.tmps.getD 7 undef = _ := e7
          refine rg_plain rfl fun K hK => ?_
          go_simp
          exact hK _ _ rfl (Only.refl _ _)
        -- 2: s62 := binOp Binsub 3 t61 (const (15:i64)) 3
        apply rg_ev
        · intro a w hR hf
          obtain ⟨e61, -⟩ := hf
          replace e61 : a.tmps.getD 61 undef = _ := e61
          refine rg_plain rfl fun K hK => ?_
          have hw := IntWalk.i64_in ((t : Int) - 15) (by omega)
          go_simp
          exact hK _ _ rfl (Only.refl _ _)
        -- 3: s63 := indexAddr 59 t60 t62
        apply rg_ev
        · intro a w hR hf
          obtain ⟨e60, e62, -⟩ := hf
          replace e60 : a.tmps.getD 60 undef = _ := e60
          replace e62 : a.tmps.getD 62 undef = _ := e62
          refine rg_plain rfl fun K hK => ?_
          have hi1 : (0 : Int) ≤ (t : Int) - 15 := by omega
          have hi2 : (t : Int) - 15 < 64 := by omega
          have hi3 : ((t : Int) - 15).toNat = t - 15 := by omega
          have hi4 : (15 : Int) ≤ (t : Int) := by omega
          go_simp
          exact hK _ _ rfl (Only.refl _ _)
        -- 4: s64 := load 57 t63
        apply rg_ev
        · intro a w hR hf
          obtain ⟨e63, -⟩ := hf
          replace e63 : a.tmps.getD 63 undef = _ := e63
          refine rg_plain rfl fun K hK => ?_
          have hl := hR.cell c15 (by simp)
          go_simp
          exact hK _ _ rfl (Only.refl _ _)
        -- 5: s65 := move t6
        apply rg_ev
        · intro a w hR hf
          obtain ⟨e6, -⟩ := hf
          replace e6 : a.tmps.getD 6 undef = _ := e6
          refine rg_plain rfl fun K hK => ?_
          go_simp
          exact hK _ _ rfl (Only.refl _ _)
        -- 6: s66 := move t7
        apply rg_ev
        · intro a w hR hf
          obtain ⟨e7, -⟩ := hf
          replace e7 : a.tmps.getD 7 undef = _ := e7
          refine rg_plain rfl fun K hK => ?_
          go_simp
          exact hK _ _ rfl (Only.refl _ _)
        -- 7: s67 := binOp Binsub 3 t66 (const (2:i64)) 3
        apply rg_ev
        · intro a w hR hf
          obtain ⟨e66, -⟩ := hf
          replace e66 : a.tmps.getD 66 undef = _ := e66
          refine rg_plain rfl fun K hK => ?_
          have hw := IntWalk.i64_in ((t : Int) - 2) (by omega)
          go_simp
          exact hK _ _ rfl (Only.refl _ _)
        -- 8: s68 := indexAddr 59 t65 t67
        apply rg_ev
        · intro a w hR hf
          obtain ⟨e65, e67, -⟩ := hf
          replace e65 : a.tmps.getD 65 undef = _ := e65
          replace e67 : a.tmps.getD 67 undef = _ := e67
          refine rg_plain rfl fun K hK => ?_
          have hi1 : (0 : Int) ≤ (t : Int) - 2 := by omega
          have hi2 : (t : Int) - 2 < 64 := by omega
          have hi3 : ((t : Int) - 2).toNat = t - 2 := by omega
          have hi4 : (2 : Int) ≤ (t : Int) := by omega
          go_simp
          exact hK _ _ rfl (Only.refl _ _)
        -- 9: s69 := load 57 t68
        apply rg_ev
        · intro a w hR hf
          obtain ⟨e68, -⟩ := hf
          replace e68 : a.tmps.getD 68 undef = _ := e68
          refine rg_plain rfl fun K hK => ?_
          have hl := hR.cell c2 (by simp)
          go_simp
          exact hK _ _ rfl (Only.refl _ _)
        -- 10: s9 := assign t64
        apply rg_ev
        · intro a w hR hf
          obtain ⟨e64, -⟩ := hf
          replace e64 : a.tmps.getD 64 undef = _ := e64
          refine rg_plain rfl fun K hK => ?_
          go_simp
          exact hK _ _ rfl (Only.refl _ _)
        -- 11: s10 := assign t69
        apply rg_ev
        · intro a w hR hf
          obtain ⟨e69, -⟩ := hf
          replace e69 : a.tmps.getD 69 undef = _ := e69
          refine rg_plain rfl fun K hK => ?_
          go_simp
          exact hK _ _ rfl (Only.refl _ _)
        intro f15 w15 hR15 hf
        dsimp only [mergeT]
        obtain ⟨e9, e10, -⟩ := hf
        replace e9 : f15 9 = _ := e9
        rw [e9]
        replace e10 : f15 10 = _ := e10
        rw [e10]
        -- r15>>
        go_wp2_with fail
        have k16f : ∀ a, Row a g6 160 (u32s (fillR S t)) → a.cell? ⟨g6, t - 16, none⟩ = some (.int .u32 (x16.toNat : Int)) := fun a h => h.cell (u32s_get (by rw [fillR_get S HlS.out (by omega)]; exact S16.out))
        have k7f : ∀ a, Row a g6 160 (u32s (fillR S t)) → a.cell? ⟨g6, t - 7, none⟩ = some (.int .u32 (x7.toNat : Int)) := fun a h => h.cell (u32s_get (by rw [fillR_get S HlS.out (by omega)]; exact S7.out))
        have hRr : ∀ a, Only [g6] a a := fun a => Only.refl _ _
        have hRt : ∀ a b e, Only [g6] a b → Only [g6] b e → Only [g6] a e := fun a b e h h2 => h.trans h2 (fun i hi _ => hi)
        have hRd : Only [g6] w15 w15.drew := (Only.drew _).mono (by simp)
        have hC0 : ∀ i ∈ [32], (fun (_ : Nat) (a : World) => Row a g6 160 (u32s (fillR S t))) i w15.drew := fun _ _ => (R3.out.only0 hR15).only0 (Only.drew _)
        -- <<r16
        refine wp_region_rg4 (Only [g6]) (Dirt [(32, [g6])]) (fun (_ : Nat) (a : World) => Row a g6 160 (u32s (fillR S t))) [32] [[(6, none)], [(7, none)], [(6, none)], [(7, none)], [(73, some 0)], [(72, some 2), (74, some 0)], [(75, some 0)], [(9, none)], [(77, some 0)], [(9, none)], [(79, some 0)], [(78, some 2), (80, some 0)], [(9, none)], [(82, some 0)], [(81, some 2), (83, some 0)], [(76, some 8), (84, some 0)], [(6, none)], [(7, none)], [(87, some 0)], [(86, some 2), (88, some 0)], [(89, some 0)], [(85, some 5), (90, some 0)], [(10, none)], [(92, some 0)], [(10, none)], [(94, some 0)], [(93, some 2), (95, some 0)], [(10, none)], [(97, some 0)], [(96, some 2), (98, some 0)], [(91, some 8), (99, some 0)], [(70, some 30), (71, some 29)], [(101, some 0), (100, some 1)]] [] [none, none, none, none, none, none, none, none, none, none, none, none, none, none, none, none, none, none, none, none, none, none, none, none, none, none, none, none, none, none, none, none, none, none, none, none, none, none, none, none, none, none, none, none, none, none, none, none, none, none, none, none, none, none, none, none, none, none, none, none, none, none, none, none, none, none, none, none, none, none, some 70, some 71, some 72, some 73, some 74, some 75, some 76, some 77, some 78, some 79, some 80, some 81, some 82, some 83, some 84, some 85, some 86, some 87, some 88, some 89, some 90, some 91, some 92, some 93, some 94, some 95, some 96, some 97, some 98, some 99, some 100, some 101, none, none, none, none, none, none, none, none, none, none, none, none, none, none, none, none, none, none, none, none, none, none, none, none, none, none, none, none, none, none, none, none, none, none, none, none, none, none, none, none, none, none, none, none, none, none, none, none, none, none, none, none, none, none, none, none, none, none, none, none, none, none, none, none, none, none, none, none, none, none, none, none, none, none, none, none, none, none, none, none, none, none, none, none, none, none, none, none, none, none, none, none, none, none, none, none, none, none, none, none, none, none, none, none, none, none, none, none, none, none, none, none, none, none, none, none, none, none, none, none] (by kernel_rfl) rfl (by kernel_rfl) hRr hRt (fun _ _ => Only.refl _ _) hRd hC0 (by kernel_rfl) (by kernel_rfl) ?_
        -- 0: s70 := move t6
        apply rgd_ev
        · intro a w hR hC hf
          obtain ⟨e6, -⟩ := hf
          replace e6 : a.tmps.getD 6 undef = _ := e6
          refine rg_plain rfl fun K hK => ?_
          go_simp
          exact hK _ _ rfl ⟨hRr _, Only.refl _ _, fun _ _ _ _ h => h⟩
        -- 1: s71 := move t7
        apply rgd_ev
        · intro a w hR hC hf
          obtain ⟨e7, -⟩ := hf
          replace e7 : a.tmps.getD 7 undef = _ := e7
          refine rg_plain rfl fun K hK => ?_
          go_simp
          exact hK _ _ rfl ⟨hRr _, Only.refl _ _, fun _ _ _ _ h => h⟩
        -- 2: s72 := move t6
        apply rgd_ev
        · intro a w hR hC hf
          obtain ⟨e6, -⟩ := hf
          replace e6 : a.tmps.getD 6 undef = _ := e6
          refine rg_plain rfl fun K hK => ?_
          go_simp
          exact hK _ _ rfl ⟨hRr _, Only.refl _ _, fun _ _ _ _ h => h⟩
        -- 3: s73 := move t7
        apply rgd_ev
        · intro a w hR hC hf
          obtain ⟨e7, -⟩ := hf
          replace e7 : a.tmps.getD 7 undef = _ := e7
          refine rg_plain rfl fun K hK => ?_
          go_simp
          exact hK _ _ rfl ⟨hRr _, Only.refl _ _, fun _ _ _ _ h => h⟩
        -- 4: s74 := binOp Binsub 3 t73 (const (16:i64)) 3
        apply rgd_ev
        · intro a w hR hC hf
          obtain ⟨e73, -⟩ := hf
          replace e73 : a.tmps.getD 73 undef = _ := e73
          refine rg_plain rfl fun K hK => ?_
          have hw := IntWalk.i64_in ((t : Int) - 16) (by omega)
          go_simp
          exact hK _ _ rfl ⟨hRr _, Only.refl _ _, fun _ _ _ _ h => h⟩
        -- 5: s75 := indexAddr 59 t72 t74
        apply rgd_ev
        · intro a w hR hC hf
          obtain ⟨e72, e74, -⟩ := hf
          replace e72 : a.tmps.getD 72 undef = _ := e72
          replace e74 : a.tmps.getD 74 undef = _ := e74
          refine rg_plain rfl fun K hK => ?_
          have hi1 : (0 : Int) ≤ (t : Int) - 16 := by omega
          have hi2 : (t : Int) - 16 < 64 := by omega
          have hi3 : ((t : Int) - 16).toNat = t - 16 := by omega
          have hi4 : (16 : Int) ≤ (t : Int) := by omega
          go_simp
          exact hK _ _ rfl ⟨hRr _, Only.refl _ _, fun _ _ _ _ h => h⟩
        -- 6: s76 := load 57 t75
        apply rgd_ev
        · intro a w hR hC hf
          obtain ⟨e75, -⟩ := hf
          replace e75 : a.tmps.getD 75 undef = _ := e75
          refine rg_plain rfl fun K hK => ?_
          have hl := k16f w ((hC 32 (by simp) (by kernel_rfl)))
          go_simp
          exact hK _ _ rfl ⟨hRr _, Only.refl _ _, fun _ _ _ _ h => h⟩
        -- 7: s77 := move t9
        apply rgd_ev
        · intro a w hR hC hf
          obtain ⟨e9, -⟩ := hf
          replace e9 : a.tmps.getD 9 undef = _ := e9
          refine rg_plain rfl fun K hK => ?_
          go_simp
          exact hK _ _ rfl ⟨hRr _, Only.refl _ _, fun _ _ _ _ h => h⟩
        -- 8: s78 := call { value (Operand.func 34), args := #[t77, const (7:u64)], #[57, 61] }
        apply rgd_ev
        · intro a w hR hC hf
          obtain ⟨e77, -⟩ := hf
          replace e77 : a.tmps.getD 77 undef = _ := e77
          refine rg_plain rfl fun K hK => ?_
          go_simp
          (with_reducible refine (refRot_any x15 7 (by simp) 7 rfl _ rfl w).mono ?_)
          rintro e w' ⟨rfl, rfl⟩
          exact hK _ _ rfl ⟨hRr _, Only.refl _ _, fun _ _ _ _ h => h⟩
        -- 9: s79 := move t9
        apply rgd_ev
        · intro a w hR hC hf
          obtain ⟨e9, -⟩ := hf
          replace e9 : a.tmps.getD 9 undef = _ := e9
          refine rg_plain rfl fun K hK => ?_
          go_simp
          exact hK _ _ rfl ⟨hRr _, Only.refl _ _, fun _ _ _ _ h => h⟩
        -- 10: s80 := call { value (Operand.func 34), args := #[t79, const (18:u64)], #[57, 61] }
        apply rgd_ev
        · intro a w hR hC hf
          obtain ⟨e79, -⟩ := hf
          replace e79 : a.tmps.getD 79 undef = _ := e79
          refine rg_plain rfl fun K hK => ?_
          go_simp
          (with_reducible refine (refRot_any x15 18 (by simp) 18 rfl _ rfl w).mono ?_)
          rintro e w' ⟨rfl, rfl⟩
          exact hK _ _ rfl ⟨hRr _, Only.refl _ _, fun _ _ _ _ h => h⟩
        -- 11: s81 := binOp Binxor 57 t78 t80 57
        apply rgd_ev
        · intro a w hR hC hf
          obtain ⟨e78, e80, -⟩ := hf
          replace e78 : a.tmps.getD 78 undef = _ := e78
          replace e80 : a.tmps.getD 80 undef = _ := e80
          refine rg_plain rfl fun K hK => ?_
          go_simp
          exact hK _ _ rfl ⟨hRr _, Only.refl _ _, fun _ _ _ _ h => h⟩
        -- 12: s82 := move t9
        apply rgd_ev
        · intro a w hR hC hf
          obtain ⟨e9, -⟩ := hf
          replace e9 : a.tmps.getD 9 undef = _ := e9
          refine rg_plain rfl fun K hK => ?_
          go_simp
          exact hK _ _ rfl ⟨hRr _, Only.refl _ _, fun _ _ _ _ h => h⟩
        -- 13: s83 := binOp Binquo 57 t82 (const (8:u32)) 57
        apply rgd_ev
        · intro a w hR hC hf
          obtain ⟨e82, -⟩ := hf
          replace e82 : a.tmps.getD 82 undef = _ := e82
          refine rg_plain rfl fun K hK => ?_
          have hw8 := Hw8.out
          go_simp
          exact hK _ _ rfl ⟨hRr _, Only.refl _ _, fun _ _ _ _ h => h⟩
        -- 14: s84 := binOp Binxor 57 t81 t83 57
        apply rgd_ev
        · intro a w hR hC hf
          obtain ⟨e81, e83, -⟩ := hf
          replace e81 : a.tmps.getD 81 undef = _ := e81
          replace e83 : a.tmps.getD 83 undef = _ := e83
          refine rg_plain rfl fun K hK => ?_
          go_simp
          exact hK _ _ rfl ⟨hRr _, Only.refl _ _, fun _ _ _ _ h => h⟩
        -- 15: s85 := binOp Binadd 57 t76 t84 57
        apply rgd_ev
        · intro a w hR hC hf
          obtain ⟨e76, e84, -⟩ := hf
          replace e76 : a.tmps.getD 76 undef = _ := e76
          replace e84 : a.tmps.getD 84 undef = _ := e84
          refine rg_plain rfl fun K hK => ?_
          go_simp
          exact hK _ _ rfl ⟨hRr _, Only.refl _ _, fun _ _ _ _ h => h⟩
        -- 16: s86 := move t6
        apply rgd_ev
        · intro a w hR hC hf
          obtain ⟨e6, -⟩ := hf
          replace e6 : a.tmps.getD 6 undef = _ := e6
          refine rg_plain rfl fun K hK => ?_
          go_simp
          exact hK _ _ rfl ⟨hRr _, Only.refl _ _, fun _ _ _ _ h => h⟩
        -- 17: s87 := move t7
        apply rgd_ev
        · intro a w hR hC hf
          obtain ⟨e7, -⟩ := hf
          replace e7 : a.tmps.getD 7 undef = _ := e7
          refine rg_plain rfl fun K hK => ?_
          go_simp
          exact hK _ _ rfl ⟨hRr _, Only.refl _ _, fun _ _ _ _ h => h⟩
        -- 18: s88 := binOp Binsub 3 t87 (const (7:i64)) 3
        apply rgd_ev
        · intro a w hR hC hf
          obtain ⟨e87, -⟩ := hf
          replace e87 : a.tmps.getD 87 undef = _ := e87
          refine rg_plain rfl fun K hK => ?_
          have hw := IntWalk.i64_in ((t : Int) - 7) (by omega)
          go_simp
          exact hK _ _ rfl ⟨hRr _, Only.refl _ _, fun _ _ _ _ h => h⟩
        -- 19: s89 := indexAddr 59 t86 t88
        apply rgd_ev
        · intro a w hR hC hf
          obtain ⟨e86, e88, -⟩ := hf
          replace e86 : a.tmps.getD 86 undef = _ := e86
          replace e88 : a.tmps.getD 88 undef = _ := e88
          refine rg_plain rfl fun K hK => ?_
          have hi1 : (0 : Int) ≤ (t : Int) - 7 := by omega
          have hi2 : (t : Int) - 7 < 64 := by omega
          have hi3 : ((t : Int) - 7).toNat = t - 7 := by omega
          have hi4 : (7 : Int) ≤ (t : Int) := by omega
          go_simp
          exact hK _ _ rfl ⟨hRr _, Only.refl _ _, fun _ _ _ _ h => h⟩
        -- 20: s90 := load 57 t89
        apply rgd_ev
        · intro a w hR hC hf
          obtain ⟨e89, -⟩ := hf
          replace e89 : a.tmps.getD 89 undef = _ := e89
          refine rg_plain rfl fun K hK => ?_
          have hl := k7f w ((hC 32 (by simp) (by kernel_rfl)))
          go_simp
          exact hK _ _ rfl ⟨hRr _, Only.refl _ _, fun _ _ _ _ h => h⟩
        -- 21: s91 := binOp Binadd 57 t85 t90 57
        apply rgd_ev
        · intro a w hR hC hf
          obtain ⟨e85, e90, -⟩ := hf
          replace e85 : a.tmps.getD 85 undef = _ := e85
          replace e90 : a.tmps.getD 90 undef = _ := e90
          refine rg_plain rfl fun K hK => ?_
          go_simp
          exact hK _ _ rfl ⟨hRr _, Only.refl _ _, fun _ _ _ _ h => h⟩
        -- 22: s92 := move t10
        apply rgd_ev
        · intro a w hR hC hf
          obtain ⟨e10, -⟩ := hf
          replace e10 : a.tmps.getD 10 undef = _ := e10
          refine rg_plain rfl fun K hK => ?_
          go_simp
          exact hK _ _ rfl ⟨hRr _, Only.refl _ _, fun _ _ _ _ h => h⟩
        -- 23: s93 := call { value (Operand.func 34), args := #[t92, const (17:u64)], #[57, 61] }
        apply rgd_ev
        · intro a w hR hC hf
          obtain ⟨e92, -⟩ := hf
          replace e92 : a.tmps.getD 92 undef = _ := e92
          refine rg_plain rfl fun K hK => ?_
          go_simp
          (with_reducible refine (refRot_any x2 17 (by simp) 17 rfl _ rfl w).mono ?_)
          rintro e w' ⟨rfl, rfl⟩
          exact hK _ _ rfl ⟨hRr _, Only.refl _ _, fun _ _ _ _ h => h⟩
        -- 24: s94 := move t10
        apply rgd_ev
        · intro a w hR hC hf
          obtain ⟨e10, -⟩ := hf
          replace e10 : a.tmps.getD 10 undef = _ := e10
          refine rg_plain rfl fun K hK => ?_
          go_simp
          exact hK _ _ rfl ⟨hRr _, Only.refl _ _, fun _ _ _ _ h => h⟩
        -- 25: s95 := call { value (Operand.func 34), args := #[t94, const (19:u64)], #[57, 61] }
        apply rgd_ev
        · intro a w hR hC hf
          obtain ⟨e94, -⟩ := hf
          replace e94 : a.tmps.getD 94 undef = _ := e94
          refine rg_plain rfl fun K hK => ?_
          go_simp
          (with_reducible refine (refRot_any x2 19 (by simp) 19 rfl _ rfl w).mono ?_)
          rintro e w' ⟨rfl, rfl⟩
          exact hK _ _ rfl ⟨hRr _, Only.refl _ _, fun _ _ _ _ h => h⟩
        -- 26: s96 := binOp Binxor 57 t93 t95 57
        apply rgd_ev
        · intro a w hR hC hf
          obtain ⟨e93, e95, -⟩ := hf
          replace e93 : a.tmps.getD 93 undef = _ := e93
          replace e95 : a.tmps.getD 95 undef = _ := e95
          refine rg_plain rfl fun K hK => ?_
          go_simp
          exact hK _ _ rfl ⟨hRr _, Only.refl _ _, fun _ _ _ _ h => h⟩
        -- 27: s97 := move t10
        apply rgd_ev
        · intro a w hR hC hf
          obtain ⟨e10, -⟩ := hf
          replace e10 : a.tmps.getD 10 undef = _ := e10
          refine rg_plain rfl fun K hK => ?_
          go_simp
          exact hK _ _ rfl ⟨hRr _, Only.refl _ _, fun _ _ _ _ h => h⟩
        -- 28: s98 := binOp Binquo 57 t97 (const (1024:u32)) 57
        apply rgd_ev
        · intro a w hR hC hf
          obtain ⟨e97, -⟩ := hf
          replace e97 : a.tmps.getD 97 undef = _ := e97
          refine rg_plain rfl fun K hK => ?_
          have hw1024 := Hw1024.out
          go_simp
          exact hK _ _ rfl ⟨hRr _, Only.refl _ _, fun _ _ _ _ h => h⟩
        -- 29: s99 := binOp Binxor 57 t96 t98 57
        apply rgd_ev
        · intro a w hR hC hf
          obtain ⟨e96, e98, -⟩ := hf
          replace e96 : a.tmps.getD 96 undef = _ := e96
          replace e98 : a.tmps.getD 98 undef = _ := e98
          refine rg_plain rfl fun K hK => ?_
          go_simp
          exact hK _ _ rfl ⟨hRr _, Only.refl _ _, fun _ _ _ _ h => h⟩
        -- 30: s100 := binOp Binadd 57 t91 t99 57
        apply rgd_ev
        · intro a w hR hC hf
          obtain ⟨e91, e99, -⟩ := hf
          replace e91 : a.tmps.getD 91 undef = _ := e91
          replace e99 : a.tmps.getD 99 undef = _ := e99
          refine rg_plain rfl fun K hK => ?_
          go_simp
          exact hK _ _ rfl ⟨hRr _, Only.refl _ _, fun _ _ _ _ h => h⟩
        -- 31: s101 := indexAddr 59 t70 t71
        apply rgd_ev
        · intro a w hR hC hf
          obtain ⟨e70, e71, -⟩ := hf
          replace e70 : a.tmps.getD 70 undef = _ := e70
          replace e71 : a.tmps.getD 71 undef = _ := e71
          refine rg_plain rfl fun K hK => ?_
          have hji : (t : Int) < 64 := by omega
          go_simp
          exact hK _ _ rfl ⟨hRr _, Only.refl _ _, fun _ _ _ _ h => h⟩
        -- 32: sNone := store 57 t101 t100
        refine ⟨fun _ a => Row a g6 160 (u32s (fillR S (t + 1))), stands_of (fun _ _ _ h ho => h.only0 ho) (by intro x hx hk; obtain rfl := List.mem_singleton.1 hx; simp at hk), fun a w hR hC hf => ?_, ?_⟩
        · obtain ⟨e101, e100, -⟩ := hf
          replace e101 : a.tmps.getD 101 undef = _ := e101
          replace e100 : a.tmps.getD 100 undef = _ := e100
          refine rg_plain rfl fun K hK => ?_
          have hC32 := hC 32 (by simp) (by kernel_rfl)
          obtain ⟨y, hy⟩ : ∃ y, (fillR S t)[t]? = some y := ⟨_, List.getElem?_eq_getElem (by rw [fillR_len S HlS.out t (by omega)]; omega)⟩
          have hcc := hC32.cell (u32s_get hy)
          have hff := hC32.free t
          have hwd := (next_cells x16 x15 x7 x2).trans (congrArg (fun z : UInt32 => (z.toNat : Int)) Hxn.out.symm)
          go_simp
          have hst : Only [g6] w (w.setCell ⟨g6, t, none⟩ (u32v xn)) := Only.setCell w ⟨g6, t, none⟩ _
          refine hK undef _ ?_ ⟨hst, hst, fun i hi hne ha _ => absurd (List.mem_singleton.1 hi) hne⟩
          rw [← fillR_set S HlS.out HS.out, ← u32s_set]
          exact hC32.setCell t (u32v xn)
        intro f16 w16 hR16 hf hz16
        dsimp only [mergeT]
        -- r16>>
        obtain ⟨v32, r32⟩ := hz16 _ (List.mem_cons_self ..)
        go_wp2_with fail
        refine ⟨⟨t + 1, by go_num, by omega, Lib.hid r32, Lib.hid ((Ho.out.trans0 hR15).trans hR16 (fun i hi _ => hi))⟩, by simp [intOf]; omega⟩
      · obtain rfl : t = 64 := by omega
        have r := R3.out
        have hfull : fillR S 64 = S := by unfold fillR; rw [List.take_of_length_le (by rw [HlS.out]; exact Nat.le_refl _)]; simp
        rw [hfull] at r
        have Hr := Lib.hid r
        clear r R3 hfull
        go_wp2_with fail
        exact Hexit.out _ _ _ _ _ _ _ _ _ _ _ _ _ _ _ _ _ _ _ _ _ _ _ _ _ _ _ _ _ _ _ _ _ _ _ _ _ _ _ _ _ _ _ _ _ _ _ _ _ _ _ _ _ _ _ _ _ _ _ _ _ _ _ _ _ _ _ _ _ _ _ _ _ _ _ wr Hr.out Ho.out
end Go.Proofs.YtfoplbolbjcggaaDoor
end
section
set_option linter.unusedVariables false
namespace Go.Proofs.YtfoplbolbjcggaaDoor
open Go.RowKit

/-- the row while it is moved: all behind k is moved -/
def shR (l : List UInt32) (k : Nat) : List UInt32 := l.take (k + 1) ++ (l.drop k).take (7 - k)
theorem shR_step (l : List UInt32) (h : l.length = 8) (k : Nat) (hk : k + 1 < 8) {x : UInt32} (hx : l[k]? = some x) : (shR l (k + 1))[k]? = some x ∧ (shR l (k + 1)).set (k + 1) x = shR l k := by
  have hl : (l.take (k + 1)).length = k + 1 := by rw [List.length_take]; omega
  have e1 : l.take (k + 1 + 1) = l.take (k + 1) ++ [l[k + 1]'(by omega)] := by rw [List.take_add_one, List.getElem?_eq_getElem (by omega)]; rfl
  have hd : l.drop k = x :: l.drop (k + 1) := by
    rw [List.drop_eq_getElem_cons (by omega)]
    have := List.getElem?_eq_getElem (show k < l.length by omega)
    rw [hx] at this
    rw [Option.some.inj this]
  unfold shR
  constructor
  · rw [List.getElem?_append_left (by rw [List.length_take]; omega), List.getElem?_take, if_pos (by omega), hx]
  · rw [e1, List.append_assoc, List.set_append_right _ _ (by omega), hl, Nat.sub_self]
    simp only [List.cons_append, List.nil_append, List.set_cons_zero]
    rw [hd, show 7 - k = (7 - (k + 1)) + 1 by omega, List.take_succ_cons]
theorem shR_len (l : List UInt32) (h : l.length = 8) (k : Nat) (hk : k < 8) : (shR l k).length = 8 := by
  unfold shR; rw [List.length_append, List.length_take, List.length_take, List.length_drop]; omega
set_option maxRecDepth 1000000 in
set_option maxHeartbeats 4000000 in
theorem refLoop5 {Q : Exit → Act → World → Prop} {c0 c1 c2 c3 c4 c5 c6 c7 c8 c9 c10 c12 c13 c14 c15 c16 c18 c19 c20 c21 c22 c23 c24 c25 c26 c27 c28 c29 c30 c31 c32 c33 c34 c35 c36 c37 c38 c39 c40 c41 c42 c43 c44 c45 c46 c47 c48 c49 c50 c51 c52 c53 c54 c55 c56 c57 c58 c59 c60 c61 c62 c63 c64 c65 c66 c67 c68 c69 c70 c71 c72 c73 c74 c75 c76 c77 c78 c79 c80 c81 c82 c83 c84 c85 c86 c87 c88 c89 c90 c91 c92 c93 c94 c95 c96 c97 c98 c99 c100 c101 c102 c103 c104 c105 c106 c107 c108 c109 c110 c111 c112 c113 c114 c115 c116 c117 c118 c119 c120 c121 c122 c123 c124 c125 c126 c127 c128 c129 c130 c131 c132 c133 c134 c135 c136 c137 c138 c139 c140 c141 c142 c143 c144 c145 c146 c147 c148 c149 c150 c151 c152 c153 c154 c155 c156 c157 c158 c159 c160 c161 c162 c163 c164 c165 c166 c167 c168 c169 c170 c171 c172 c173 c174 c175 c176 c177 c178 c179 c180 c181 c182 c183 c184 c185 c186 c187 c188 c189 c190 c191 c192 c193 c194 c195 c196 c197 c198 c199 c200 c201 c202 c203 c204 c205 c206 c207 c208 c209 c210 c211 c212 c213 c214 c215 c216 c217 c218 c219 c220 c221 : Value} (g11 : Nat) (R : List UInt32) (w0 : World) (hR : R.length = 8) (hrow : Row w0 g11 175 (u32s R))
    (hexit : ∀ (u17 u173 u174 u175 u176 u177 u178 u179 u180 u181 u182 : Value) (w' : World), Row w' g11 175 (u32s (shR R 0)) → Only [g11] w0 w' → Q (.exit 8) ⟨(c0 :: c1 :: c2 :: c3 :: c4 :: c5 :: c6 :: c7 :: c8 :: c9 :: c10 :: .pointer (some ⟨g11, 0, none⟩) :: c12 :: c13 :: c14 :: c15 :: c16 :: u17 :: c18 :: c19 :: c20 :: c21 :: c22 :: c23 :: c24 :: c25 :: c26 :: c27 :: c28 :: c29 :: c30 :: c31 :: c32 :: c33 :: c34 :: c35 :: c36 :: c37 :: c38 :: c39 :: c40 :: c41 :: c42 :: c43 :: c44 :: c45 :: c46 :: c47 :: c48 :: c49 :: c50 :: c51 :: c52 :: c53 :: c54 :: c55 :: c56 :: c57 :: c58 :: c59 :: c60 :: c61 :: c62 :: c63 :: c64 :: c65 :: c66 :: c67 :: c68 :: c69 :: c70 :: c71 :: c72 :: c73 :: c74 :: c75 :: c76 :: c77 :: c78 :: c79 :: c80 :: c81 :: c82 :: c83 :: c84 :: c85 :: c86 :: c87 :: c88 :: c89 :: c90 :: c91 :: c92 :: c93 :: c94 :: c95 :: c96 :: c97 :: c98 :: c99 :: c100 :: c101 :: c102 :: c103 :: c104 :: c105 :: c106 :: c107 :: c108 :: c109 :: c110 :: c111 :: c112 :: c113 :: c114 :: c115 :: c116 :: c117 :: c118 :: c119 :: c120 :: c121 :: c122 :: c123 :: c124 :: c125 :: c126 :: c127 :: c128 :: c129 :: c130 :: c131 :: c132 :: c133 :: c134 :: c135 :: c136 :: c137 :: c138 :: c139 :: c140 :: c141 :: c142 :: c143 :: c144 :: c145 :: c146 :: c147 :: c148 :: c149 :: c150 :: c151 :: c152 :: c153 :: c154 :: c155 :: c156 :: c157 :: c158 :: c159 :: c160 :: c161 :: c162 :: c163 :: c164 :: c165 :: c166 :: c167 :: c168 :: c169 :: c170 :: c171 :: c172 :: u173 :: u174 :: u175 :: u176 :: u177 :: u178 :: u179 :: u180 :: u181 :: u182 :: c183 :: c184 :: c185 :: c186 :: c187 :: c188 :: c189 :: c190 :: c191 :: c192 :: c193 :: c194 :: c195 :: c196 :: c197 :: c198 :: c199 :: c200 :: c201 :: c202 :: c203 :: c204 :: c205 :: c206 :: c207 :: c208 :: c209 :: c210 :: c211 :: c212 :: c213 :: c214 :: c215 :: c216 :: c217 :: c218 :: c219 :: c220 :: c221 :: []).toArray, []⟩ w') :
    Code.wp Tryd.prog (refSumLoop 4) Q ⟨(c0 :: c1 :: c2 :: c3 :: c4 :: c5 :: c6 :: c7 :: c8 :: c9 :: c10 :: .pointer (some ⟨g11, 0, none⟩) :: c12 :: c13 :: c14 :: c15 :: c16 :: .int .i64 7 :: c18 :: c19 :: c20 :: c21 :: c22 :: c23 :: c24 :: c25 :: c26 :: c27 :: c28 :: c29 :: c30 :: c31 :: c32 :: c33 :: c34 :: c35 :: c36 :: c37 :: c38 :: c39 :: c40 :: c41 :: c42 :: c43 :: c44 :: c45 :: c46 :: c47 :: c48 :: c49 :: c50 :: c51 :: c52 :: c53 :: c54 :: c55 :: c56 :: c57 :: c58 :: c59 :: c60 :: c61 :: c62 :: c63 :: c64 :: c65 :: c66 :: c67 :: c68 :: c69 :: c70 :: c71 :: c72 :: c73 :: c74 :: c75 :: c76 :: c77 :: c78 :: c79 :: c80 :: c81 :: c82 :: c83 :: c84 :: c85 :: c86 :: c87 :: c88 :: c89 :: c90 :: c91 :: c92 :: c93 :: c94 :: c95 :: c96 :: c97 :: c98 :: c99 :: c100 :: c101 :: c102 :: c103 :: c104 :: c105 :: c106 :: c107 :: c108 :: c109 :: c110 :: c111 :: c112 :: c113 :: c114 :: c115 :: c116 :: c117 :: c118 :: c119 :: c120 :: c121 :: c122 :: c123 :: c124 :: c125 :: c126 :: c127 :: c128 :: c129 :: c130 :: c131 :: c132 :: c133 :: c134 :: c135 :: c136 :: c137 :: c138 :: c139 :: c140 :: c141 :: c142 :: c143 :: c144 :: c145 :: c146 :: c147 :: c148 :: c149 :: c150 :: c151 :: c152 :: c153 :: c154 :: c155 :: c156 :: c157 :: c158 :: c159 :: c160 :: c161 :: c162 :: c163 :: c164 :: c165 :: c166 :: c167 :: c168 :: c169 :: c170 :: c171 :: c172 :: c173 :: c174 :: c175 :: c176 :: c177 :: c178 :: c179 :: c180 :: c181 :: c182 :: c183 :: c184 :: c185 :: c186 :: c187 :: c188 :: c189 :: c190 :: c191 :: c192 :: c193 :: c194 :: c195 :: c196 :: c197 :: c198 :: c199 :: c200 :: c201 :: c202 :: c203 :: c204 :: c205 :: c206 :: c207 :: c208 :: c209 :: c210 :: c211 :: c212 :: c213 :: c214 :: c215 :: c216 :: c217 :: c218 :: c219 :: c220 :: c221 :: []).toArray, []⟩ w0 := by
  conv => arg 2; whnf
  have Hexit := Lib.hid hexit
  have HR := Lib.hid hR
  have e7 : shR R 7 = R := by unfold shR; rw [List.take_of_length_le (by omega)]; simp
  have Hrow : Hid (Row w0 g11 175 (u32s (shR R 7))) := Lib.hid (by rw [e7]; exact hrow)
  clear hexit hR hrow e7
  go_loopw [17] (fun i wr => ∃ k : Nat, i = .int .i64 (k : Int) ∧ k ≤ 7 ∧ Hid (Row wr g11 175 (u32s (shR R k))) ∧ Hid (Only [g11] w0 wr)) (fun i _ => (intOf i).toNat)
  case atStart => exact ⟨7, rfl, by omega, Hrow, Lib.hid (Only.refl _ _)⟩
  case round =>
    clear Hrow
    obtain ⟨k, rfl, hk, Rw, Ho⟩ := hrel
    cases k with
    | zero =>
      go_wp2_with fail
      exact Hexit.out _ _ _ _ _ _ _ _ _ _ _ wr Rw.out Ho.out
    | succ k =>
      obtain ⟨x, hx⟩ : ∃ x, R[k]? = some x := ⟨_, List.getElem?_eq_getElem (by rw [HR.out]; omega)⟩
      obtain ⟨h1, h2⟩ := shR_step R HR.out k (by omega) hx
      have hl := shR_len R HR.out (k + 1) (by omega)
      have hc0 := Rw.out.cell (u32s_get h1)
      obtain ⟨y, hy⟩ : ∃ y, (shR R (k + 1))[k + 1]? = some y := ⟨_, List.getElem?_eq_getElem (by omega)⟩
      have hc1 := Rw.out.cell (u32s_get hy)
      have hf := Rw.out.free (k + 1)
      have r2 := Rw.out.setCell (k + 1) (u32v x)
      rw [u32s_set, h2] at r2
      have o2 : Only [g11] wr (wr.setCell ⟨g11, k + 1, none⟩ (u32v x)) := Only.setCell _ ⟨g11, k + 1, none⟩ _
      have R2 := Lib.hid r2
      have Ho2 := Lib.hid (Ho.out.trans o2 (fun i hi _ => hi))
      have hk7 : (k : Int) + 1 < 8 := by omega
      have hk0 : (0 : Int) < (k : Int) + 1 := by omega
      have hk8 : (k : Int) < 8 := by omega
      have ht1 : ((k : Int) + 1).toNat = k + 1 := by omega
      clear h1 h2 hx hy r2 o2 hl Rw Ho
      go_wp2_with fail
      refine ⟨⟨k, by go_num, by omega, R2, Ho2⟩, by simp [intOf]⟩
end Go.Proofs.YtfoplbolbjcggaaDoor
end
section
set_option linter.unusedVariables false
namespace Go.Proofs.YtfoplbolbjcggaaDoor
open Go.RowKit

theorem choose_cells (e f g : UInt32) : bits .xor .u32 (bits .and .u32 (e.toNat : Int) (f.toNat : Int)) (bits .and .u32 (bits .xor .u32 (e.toNat : Int) 4294967295) (g.toNat : Int)) = ((choose e f g).toNat : Int) := by
  have h : bits .xor .u32 (e.toNat : Int) 4294967295 = ((~~~e).toNat : Int) := by
    have := u32_xor_u32 e 4294967295
    rw [show ((4294967295 : UInt32).toNat : Int) = 4294967295 by decide] at this
    rw [this]
    congr 2
    rw [UInt32.xor_comm]
    rfl
  rw [h, u32_and_u32, u32_and_u32, u32_xor_u32]; rfl
theorem most_cells (a b c : UInt32) : bits .xor .u32 (bits .xor .u32 (bits .and .u32 (a.toNat : Int) (b.toNat : Int)) (bits .and .u32 (a.toNat : Int) (c.toNat : Int))) (bits .and .u32 (b.toNat : Int) (c.toNat : Int)) = ((most a b c).toNat : Int) := by
  rw [u32_and_u32, u32_and_u32, u32_and_u32, u32_xor_u32, u32_xor_u32]; rfl
set_option maxRecDepth 1000000 in
set_option maxHeartbeats 8000000 in
theorem refLoop4 {Q : Exit → Act → World → Prop} {c0 c1 c2 c3 c4 c5 c7 c8 c9 c10 c13 c14 c15 c16 c17 c18 c19 c20 c21 c22 c23 c24 c25 c26 c27 c28 c29 c30 c31 c32 c33 c34 c35 c36 c37 c38 c39 c40 c41 c42 c43 c44 c45 c46 c47 c48 c49 c50 c51 c52 c53 c54 c55 c56 c57 c58 c59 c60 c61 c62 c63 c64 c65 c66 c67 c68 c69 c70 c71 c72 c73 c74 c75 c76 c77 c78 c79 c80 c81 c82 c83 c84 c85 c86 c87 c88 c89 c90 c91 c92 c93 c94 c95 c96 c97 c98 c99 c100 c101 c102 c103 c104 c105 c106 c107 c108 c109 c110 c111 c112 c113 c114 c115 c116 c117 c118 c119 c120 c121 c122 c123 c124 c125 c126 c127 c128 c129 c130 c131 c132 c133 c134 c135 c136 c137 c138 c139 c140 c141 c142 c143 c144 c145 c146 c147 c148 c149 c150 c151 c152 c153 c154 c155 c156 c157 c158 c159 c160 c161 c162 c163 c164 c165 c166 c167 c168 c169 c170 c171 c172 c173 c174 c175 c176 c177 c178 c179 c180 c181 c182 c183 c184 c185 c186 c187 c188 c189 c190 c191 c192 c193 c194 c195 c196 c197 c198 c199 c200 c201 c202 c203 c204 c205 c206 c207 c208 c209 c210 c211 c212 c213 c214 c215 c216 c217 c218 c219 c220 c221 : Value} (g6 g11 : Nat) (S : List UInt32) (s : St) (w0 : World) (hS : S.length = 64) (hrow6 : Row w0 g6 160 (u32s S)) (hrow : Row w0 g11 175 (u32s s.l)) (hg : g6 ≠ g11)
    (hexit : ∀ (u12 u13 u14 u15 u16 u17 u103 u104 u105 u106 u107 u108 u109 u110 u111 u112 u113 u114 u115 u116 u117 u118 u119 u120 u121 u122 u123 u124 u125 u126 u127 u128 u129 u130 u131 u132 u133 u134 u135 u136 u137 u138 u139 u140 u141 u142 u143 u144 u145 u146 u147 u148 u149 u150 u151 u152 u153 u154 u155 u156 u157 u158 u159 u160 u161 u162 u163 u164 u165 u166 u167 u168 u169 u170 u171 u172 u173 u174 u175 u176 u177 u178 u179 u180 u181 u182 u183 u184 u185 u186 u187 u188 u189 u190 u191 : Value) (w' : World), Row w' g11 175 (u32s (rnds s shaK S).l) → Only [g11] w0 w' → Q (.exit 6) ⟨(c0 :: c1 :: c2 :: c3 :: c4 :: c5 :: .slice (some ⟨g6, 0, none⟩) 64 64 :: c7 :: c8 :: c9 :: c10 :: .pointer (some ⟨g11, 0, none⟩) :: u12 :: u13 :: u14 :: u15 :: u16 :: u17 :: c18 :: c19 :: c20 :: c21 :: c22 :: c23 :: c24 :: c25 :: c26 :: c27 :: c28 :: c29 :: c30 :: c31 :: c32 :: c33 :: c34 :: c35 :: c36 :: c37 :: c38 :: c39 :: c40 :: c41 :: c42 :: c43 :: c44 :: c45 :: c46 :: c47 :: c48 :: c49 :: c50 :: c51 :: c52 :: c53 :: c54 :: c55 :: c56 :: c57 :: c58 :: c59 :: c60 :: c61 :: c62 :: c63 :: c64 :: c65 :: c66 :: c67 :: c68 :: c69 :: c70 :: c71 :: c72 :: c73 :: c74 :: c75 :: c76 :: c77 :: c78 :: c79 :: c80 :: c81 :: c82 :: c83 :: c84 :: c85 :: c86 :: c87 :: c88 :: c89 :: c90 :: c91 :: c92 :: c93 :: c94 :: c95 :: c96 :: c97 :: c98 :: c99 :: c100 :: c101 :: c102 :: u103 :: u104 :: u105 :: u106 :: u107 :: u108 :: u109 :: u110 :: u111 :: u112 :: u113 :: u114 :: u115 :: u116 :: u117 :: u118 :: u119 :: u120 :: u121 :: u122 :: u123 :: u124 :: u125 :: u126 :: u127 :: u128 :: u129 :: u130 :: u131 :: u132 :: u133 :: u134 :: u135 :: u136 :: u137 :: u138 :: u139 :: u140 :: u141 :: u142 :: u143 :: u144 :: u145 :: u146 :: u147 :: u148 :: u149 :: u150 :: u151 :: u152 :: u153 :: u154 :: u155 :: u156 :: u157 :: u158 :: u159 :: u160 :: u161 :: u162 :: u163 :: u164 :: u165 :: u166 :: u167 :: u168 :: u169 :: u170 :: u171 :: u172 :: u173 :: u174 :: u175 :: u176 :: u177 :: u178 :: u179 :: u180 :: u181 :: u182 :: u183 :: u184 :: u185 :: u186 :: u187 :: u188 :: u189 :: u190 :: u191 :: c192 :: c193 :: c194 :: c195 :: c196 :: c197 :: c198 :: c199 :: c200 :: c201 :: c202 :: c203 :: c204 :: c205 :: c206 :: c207 :: c208 :: c209 :: c210 :: c211 :: c212 :: c213 :: c214 :: c215 :: c216 :: c217 :: c218 :: c219 :: c220 :: c221 :: []).toArray, []⟩ w') :
    Code.wp Tryd.prog (refSumLoop 3) Q ⟨(c0 :: c1 :: c2 :: c3 :: c4 :: c5 :: .slice (some ⟨g6, 0, none⟩) 64 64 :: c7 :: c8 :: c9 :: c10 :: .pointer (some ⟨g11, 0, none⟩) :: .int .i64 0 :: c13 :: c14 :: c15 :: c16 :: c17 :: c18 :: c19 :: c20 :: c21 :: c22 :: c23 :: c24 :: c25 :: c26 :: c27 :: c28 :: c29 :: c30 :: c31 :: c32 :: c33 :: c34 :: c35 :: c36 :: c37 :: c38 :: c39 :: c40 :: c41 :: c42 :: c43 :: c44 :: c45 :: c46 :: c47 :: c48 :: c49 :: c50 :: c51 :: c52 :: c53 :: c54 :: c55 :: c56 :: c57 :: c58 :: c59 :: c60 :: c61 :: c62 :: c63 :: c64 :: c65 :: c66 :: c67 :: c68 :: c69 :: c70 :: c71 :: c72 :: c73 :: c74 :: c75 :: c76 :: c77 :: c78 :: c79 :: c80 :: c81 :: c82 :: c83 :: c84 :: c85 :: c86 :: c87 :: c88 :: c89 :: c90 :: c91 :: c92 :: c93 :: c94 :: c95 :: c96 :: c97 :: c98 :: c99 :: c100 :: c101 :: c102 :: c103 :: c104 :: c105 :: c106 :: c107 :: c108 :: c109 :: c110 :: c111 :: c112 :: c113 :: c114 :: c115 :: c116 :: c117 :: c118 :: c119 :: c120 :: c121 :: c122 :: c123 :: c124 :: c125 :: c126 :: c127 :: c128 :: c129 :: c130 :: c131 :: c132 :: c133 :: c134 :: c135 :: c136 :: c137 :: c138 :: c139 :: c140 :: c141 :: c142 :: c143 :: c144 :: c145 :: c146 :: c147 :: c148 :: c149 :: c150 :: c151 :: c152 :: c153 :: c154 :: c155 :: c156 :: c157 :: c158 :: c159 :: c160 :: c161 :: c162 :: c163 :: c164 :: c165 :: c166 :: c167 :: c168 :: c169 :: c170 :: c171 :: c172 :: c173 :: c174 :: c175 :: c176 :: c177 :: c178 :: c179 :: c180 :: c181 :: c182 :: c183 :: c184 :: c185 :: c186 :: c187 :: c188 :: c189 :: c190 :: c191 :: c192 :: c193 :: c194 :: c195 :: c196 :: c197 :: c198 :: c199 :: c200 :: c201 :: c202 :: c203 :: c204 :: c205 :: c206 :: c207 :: c208 :: c209 :: c210 :: c211 :: c212 :: c213 :: c214 :: c215 :: c216 :: c217 :: c218 :: c219 :: c220 :: c221 :: []).toArray, []⟩ w0 := by
  conv => arg 2; whnf
  have Hexit := Lib.hid hexit
  have HS := Lib.hid hS
  have Hrow := Lib.hid hrow
  have Hrow6 := Lib.hid hrow6
  have HlK : Hid (shaK.length = 64) := Lib.hid rfl
  have Hkk : Hid (∀ (j : Nat) x, shaK[j]? = some x → ∀ ww, Calls Tryd.prog 98 #[.int .i64 (j : Int)] ww fun e w' => e = .returned (.int .u32 (x.toNat : Int)) ∧ Only [] ww w') := Lib.hid fun j x hx ww => refK_any j x hx ww
  clear hexit hS hrow hrow6
  go_loopw [12] (fun i wr => ∃ (t : Nat) (st : St), i = .int .i64 (t : Int) ∧ t ≤ 64 ∧ Hid (st = rnds s (shaK.take t) (S.take t)) ∧ Hid (Row wr g11 175 (u32s st.l)) ∧ Hid (Only [g11] w0 wr)) (fun i _ => 64 - (intOf i).toNat)
  case atStart => exact ⟨0, s, rfl, by omega, Lib.hid rfl, Hrow, Lib.hid (Only.refl _ _)⟩
  case round =>
    clear Hrow
    obtain ⟨t, st, rfl, ht, Hst, R, Ho⟩ := hrel
    by_cases hlt : t < 64
    · obtain ⟨a0, a1, a2, a3, a4, a5, a6, a7⟩ := st
      have hc0 := R.out.cell (u32s_get (i := 0) rfl)
      have hc1 := R.out.cell (u32s_get (i := 1) rfl)
      have hc2 := R.out.cell (u32s_get (i := 2) rfl)
      have hc4 := R.out.cell (u32s_get (i := 4) rfl)
      have hc5 := R.out.cell (u32s_get (i := 5) rfl)
      have hc6 := R.out.cell (u32s_get (i := 6) rfl)
      have hc7 := R.out.cell (u32s_get (i := 7) rfl)
      dsimp only at hc0 hc1 hc2 hc4 hc5 hc6 hc7
      obtain ⟨xk, hxk⟩ : ∃ x, shaK[t]? = some x := ⟨_, List.getElem?_eq_getElem (by rw [HlK.out]; exact hlt)⟩
      obtain ⟨xs, hxs⟩ : ∃ x, S[t]? = some x := ⟨_, List.getElem?_eq_getElem (by rw [HS.out]; exact hlt)⟩
      have R6 := Hrow6.out.only Ho.out (by simp; exact hg)
      have hcs := R6.cell (u32s_get hxs)
      have Hstep := Lib.hid (rnds_step s shaK S t xk xs hxk hxs)
      have Hxk := Lib.hid hxk
      have hti : (t : Int) < 64 := by omega
      obtain ⟨r6, hr6⟩ : ∃ z : UInt32, z = rotr a4 (UInt32.ofNat 6) := ⟨_, rfl⟩
      have Hr6 : Hid (rotr a4 (UInt32.ofNat 6) = r6) := Lib.hid hr6.symm
      obtain ⟨r11, hr11⟩ : ∃ z : UInt32, z = rotr a4 (UInt32.ofNat 11) := ⟨_, rfl⟩
      have Hr11 : Hid (rotr a4 (UInt32.ofNat 11) = r11) := Lib.hid hr11.symm
      obtain ⟨r25, hr25⟩ : ∃ z : UInt32, z = rotr a4 (UInt32.ofNat 25) := ⟨_, rfl⟩
      have Hr25 : Hid (rotr a4 (UInt32.ofNat 25) = r25) := Lib.hid hr25.symm
      obtain ⟨r2, hr2⟩ : ∃ z : UInt32, z = rotr a0 (UInt32.ofNat 2) := ⟨_, rfl⟩
      have Hr2 : Hid (rotr a0 (UInt32.ofNat 2) = r2) := Lib.hid hr2.symm
      obtain ⟨r13, hr13⟩ : ∃ z : UInt32, z = rotr a0 (UInt32.ofNat 13) := ⟨_, rfl⟩
      have Hr13 : Hid (rotr a0 (UInt32.ofNat 13) = r13) := Lib.hid hr13.symm
      obtain ⟨r22, hr22⟩ : ∃ z : UInt32, z = rotr a0 (UInt32.ofNat 22) := ⟨_, rfl⟩
      have Hr22 : Hid (rotr a0 (UInt32.ofNat 22) = r22) := Lib.hid hr22.symm
      obtain ⟨ch, hch⟩ : ∃ z : UInt32, z = choose a4 a5 a6 := ⟨_, rfl⟩
      obtain ⟨mo, hmo⟩ : ∃ z : UInt32, z = most a0 a1 a2 := ⟨_, rfl⟩
      have hchc : bits .xor .u32 (bits .and .u32 (a4.toNat : Int) (a5.toNat : Int)) (bits .and .u32 (bits .xor .u32 (a4.toNat : Int) 4294967295) (a6.toNat : Int)) = (ch.toNat : Int) := by rw [hch]; exact choose_cells a4 a5 a6
      have hmoc : bits .xor .u32 (bits .xor .u32 (bits .and .u32 (a0.toNat : Int) (a1.toNat : Int)) (bits .and .u32 (a0.toNat : Int) (a2.toNat : Int))) (bits .and .u32 (a1.toNat : Int) (a2.toNat : Int)) = (mo.toNat : Int) := by rw [hmo]; exact most_cells a0 a1 a2
      obtain ⟨x1, hx1⟩ : ∃ z : UInt32, z = r6 ^^^ r11 := ⟨_, rfl⟩
      have X1 : Hid (bits .xor .u32 (r6.toNat : Int) (r11.toNat : Int) = (x1.toNat : Int)) := Lib.hid (by rw [hx1]; exact u32_xor_u32 _ _)
      obtain ⟨b1, hb1⟩ : ∃ z : UInt32, z = x1 ^^^ r25 := ⟨_, rfl⟩
      have X2 : Hid (bits .xor .u32 (x1.toNat : Int) (r25.toNat : Int) = (b1.toNat : Int)) := Lib.hid (by rw [hb1]; exact u32_xor_u32 _ _)
      obtain ⟨v1, hv1⟩ : ∃ z : UInt32, z = a7 + b1 := ⟨_, rfl⟩
      have V1 : Hid (IntKind.u32.wrap ((a7.toNat : Int) + (b1.toNat : Int)) = (v1.toNat : Int)) := Lib.hid (by rw [hv1]; exact u32_add_cell _ _)
      obtain ⟨v2, hv2⟩ : ∃ z : UInt32, z = v1 + ch := ⟨_, rfl⟩
      have V2 : Hid (IntKind.u32.wrap ((v1.toNat : Int) + (ch.toNat : Int)) = (v2.toNat : Int)) := Lib.hid (by rw [hv2]; exact u32_add_cell _ _)
      obtain ⟨v3, hv3⟩ : ∃ z : UInt32, z = v2 + xk := ⟨_, rfl⟩
      have V3 : Hid (IntKind.u32.wrap ((v2.toNat : Int) + (xk.toNat : Int)) = (v3.toNat : Int)) := Lib.hid (by rw [hv3]; exact u32_add_cell _ _)
      obtain ⟨t1, ht1⟩ : ∃ z : UInt32, z = v3 + xs := ⟨_, rfl⟩
      have V4 : Hid (IntKind.u32.wrap ((v3.toNat : Int) + (xs.toNat : Int)) = (t1.toNat : Int)) := Lib.hid (by rw [ht1]; exact u32_add_cell _ _)
      obtain ⟨y1, hy1⟩ : ∃ z : UInt32, z = r2 ^^^ r13 := ⟨_, rfl⟩
      have Y1 : Hid (bits .xor .u32 (r2.toNat : Int) (r13.toNat : Int) = (y1.toNat : Int)) := Lib.hid (by rw [hy1]; exact u32_xor_u32 _ _)
      obtain ⟨b0, hb0⟩ : ∃ z : UInt32, z = y1 ^^^ r22 := ⟨_, rfl⟩
      have Y2 : Hid (bits .xor .u32 (y1.toNat : Int) (r22.toNat : Int) = (b0.toNat : Int)) := Lib.hid (by rw [hb0]; exact u32_xor_u32 _ _)
      obtain ⟨t2, ht2⟩ : ∃ z : UInt32, z = b0 + mo := ⟨_, rfl⟩
      have V5 : Hid (IntKind.u32.wrap ((b0.toNat : Int) + (mo.toNat : Int)) = (t2.toNat : Int)) := Lib.hid (by rw [ht2]; exact u32_add_cell _ _)
      obtain ⟨u0, hu0⟩ : ∃ x : UInt32, x = t1 + t2 := ⟨_, rfl⟩
      obtain ⟨u4, hu4⟩ : ∃ x : UInt32, x = a3 + t1 := ⟨_, rfl⟩
      have hs0 : ((t1.toNat : Int) + (t2.toNat : Int)) % 4294967296 = (u0.toNat : Int) := by rw [hu0]; exact u32_add_u32 _ _
      have hs4 : ((a3.toNat : Int) + (t1.toNat : Int)) % 4294967296 = (u4.toNat : Int) := by rw [hu4]; exact u32_add_u32 _ _
      have hnew : (⟨u0, a0, a1, a2, u4, a4, a5, a6⟩ : St) = rnds s (shaK.take (t + 1)) (S.take (t + 1)) := by
        rw [Hstep.out, ← Hst.out, hu0, hu4, ht1, hv3, hv2, hv1, hb1, hx1, hr6, hr11, hr25, hch, ht2, hb0, hy1, hr2, hr13, hr22, hmo]; rfl
      have Hnew := Lib.hid hnew
      clear hnew hu0 hu4 Hstep Hst ht1 hv3 hv2 hv1 hb1 hx1 hr6 hr11 hr25 hch ht2 hb0 hy1 hr2 hr13 hr22 hmo hxk hxs R6
      go_wp2_with fail
      clear hc0 hc1 hc2 hc5 hc6
      -- <<r23
      refine wp_region_rg2 (Only []) [[(11, none)], [(136, some 0)], [(11, none)], [(138, some 0)], [(139, some 0)], [(11, none)], [(141, some 0)], [(142, some 0)], [(140, some 3), (143, some 0)], [(11, none)], [(145, some 0)], [(146, some 0)], [(144, some 3), (147, some 0)], [(137, some 11), (148, some 0)], [(13, none)], [(149, some 1), (150, some 0)], [(12, none)], [(152, some 0)], [(151, some 2), (153, some 0)], [(6, none)], [(12, none)], [(155, some 1), (156, some 0)], [(157, some 0)], [(154, some 4), (158, some 0)], [(159, some 0)]] [(15, 0)] [none, none, none, none, none, none, none, none, none, none, none, none, none, none, none, some 15, none, none, none, none, none, none, none, none, none, none, none, none, none, none, none, none, none, none, none, none, none, none, none, none, none, none, none, none, none, none, none, none, none, none, none, none, none, none, none, none, none, none, none, none, none, none, none, none, none, none, none, none, none, none, none, none, none, none, none, none, none, none, none, none, none, none, none, none, none, none, none, none, none, none, none, none, none, none, none, none, none, none, none, none, none, none, none, none, none, none, none, none, none, none, none, none, none, none, none, none, none, none, none, none, none, none, none, none, none, none, none, none, none, none, none, none, none, none, none, none, some 136, some 137, some 138, some 139, some 140, some 141, some 142, some 143, some 144, some 145, some 146, some 147, some 148, some 149, some 150, some 151, some 152, some 153, some 154, some 155, some 156, some 157, some 158, some 159, none, none, none, none, none, none, none, none, none, none, none, none, none, none, none, none, none, none, none, none, none, none, none, none, none, none, none, none, none, none, none, none, none, none, none, none, none, none, none, none, none, none, none, none, none, none, none, none, none, none, none, none, none, none, none, none, none, none, none, none, none, none] (by kernel_rfl) rfl (by kernel_rfl) (fun _ => Only.refl _ _) (fun _ _ _ h k => h.trans0 k) (Only.drew _) (by kernel_rfl) ?_
      -- 0: s136 := indexAddr 58 t11 (const (7:i64))
      apply rg_ev
      · intro a w hR hf
        obtain ⟨e11, -⟩ := hf
        replace e11 : a.tmps.getD 11 undef = _ := e11
        refine rg_plain rfl fun K hK => ?_
        go_simp
        exact hK _ _ rfl (Only.refl _ _)
      -- 1: s137 := load 57 t136
      apply rg_ev
      · intro a w hR hf
        obtain ⟨e136, -⟩ := hf
        replace e136 : a.tmps.getD 136 undef = _ := e136
        refine rg_plain rfl fun K hK => ?_
        have hl := hR.cell hc7 (by simp)
        go_simp
        exact hK _ _ rfl (Only.refl _ _)
      -- 2: s138 := indexAddr 58 t11 (const (4:i64))
      apply rg_ev
      · intro a w hR hf
        obtain ⟨e11, -⟩ := hf
        replace e11 : a.tmps.getD 11 undef = _ := e11
        refine rg_plain rfl fun K hK => ?_
        go_simp
        exact hK _ _ rfl (Only.refl _ _)
      -- 3: s139 := load 57 t138
      apply rg_ev
      · intro a w hR hf
        obtain ⟨e138, -⟩ := hf
        replace e138 : a.tmps.getD 138 undef = _ := e138
        refine rg_plain rfl fun K hK => ?_
        have hl := hR.cell hc4 (by simp)
        go_simp
        exact hK _ _ rfl (Only.refl _ _)
      -- 4: s140 := call { value (Operand.func 34), args := #[t139, const (6:u64)], #[57, 61] }
      apply rg_ev
      · intro a w hR hf
        obtain ⟨e139, -⟩ := hf
        replace e139 : a.tmps.getD 139 undef = _ := e139
        refine rg_plain rfl fun K hK => ?_
        go_simp
        (with_reducible refine (refRot_any a4 6 (by simp) 6 rfl r6 Hr6.out w).mono ?_)
        rintro e w' ⟨rfl, rfl⟩
        exact hK _ _ rfl (Only.refl _ _)
      -- 5: s141 := indexAddr 58 t11 (const (4:i64))
      apply rg_ev
      · intro a w hR hf
        obtain ⟨e11, -⟩ := hf
        replace e11 : a.tmps.getD 11 undef = _ := e11
        refine rg_plain rfl fun K hK => ?_
        go_simp
        exact hK _ _ rfl (Only.refl _ _)
      -- 6: s142 := load 57 t141
      apply rg_ev
      · intro a w hR hf
        obtain ⟨e141, -⟩ := hf
        replace e141 : a.tmps.getD 141 undef = _ := e141
        refine rg_plain rfl fun K hK => ?_
        have hl := hR.cell hc4 (by simp)
        go_simp
        exact hK _ _ rfl (Only.refl _ _)
      -- 7: s143 := call { value (Operand.func 34), args := #[t142, const (11:u64)], #[57, 61] }
      apply rg_ev
      · intro a w hR hf
        obtain ⟨e142, -⟩ := hf
        replace e142 : a.tmps.getD 142 undef = _ := e142
        refine rg_plain rfl fun K hK => ?_
        go_simp
        (with_reducible refine (refRot_any a4 11 (by simp) 11 rfl r11 Hr11.out w).mono ?_)
        rintro e w' ⟨rfl, rfl⟩
        exact hK _ _ rfl (Only.refl _ _)
      -- 8: s144 := binOp Binxor 57 t140 t143 57
      apply rg_ev
      · intro a w hR hf
        obtain ⟨e140, e143, -⟩ := hf
        replace e140 : a.tmps.getD 140 undef = _ := e140
        replace e143 : a.tmps.getD 143 undef = _ := e143
        refine rg_plain rfl fun K hK => ?_
        have hv := X1.out
        go_simp
        exact hK _ _ rfl (Only.refl _ _)
      -- 9: s145 := indexAddr 58 t11 (const (4:i64))
      apply rg_ev
      · intro a w hR hf
        obtain ⟨e11, -⟩ := hf
        replace e11 : a.tmps.getD 11 undef = _ := e11
        refine rg_plain rfl fun K hK => ?_
        go_simp
        exact hK _ _ rfl (Only.refl _ _)
      -- 10: s146 := load 57 t145
      apply rg_ev
      · intro a w hR hf
        obtain ⟨e145, -⟩ := hf
        replace e145 : a.tmps.getD 145 undef = _ := e145
        refine rg_plain rfl fun K hK => ?_
        have hl := hR.cell hc4 (by simp)
        go_simp
        exact hK _ _ rfl (Only.refl _ _)
      -- 11: s147 := call { value (Operand.func 34), args := #[t146, const (25:u64)], #[57, 61] }
      apply rg_ev
      · intro a w hR hf
        obtain ⟨e146, -⟩ := hf
        replace e146 : a.tmps.getD 146 undef = _ := e146
        refine rg_plain rfl fun K hK => ?_
        go_simp
        (with_reducible refine (refRot_any a4 25 (by simp) 25 rfl r25 Hr25.out w).mono ?_)
        rintro e w' ⟨rfl, rfl⟩
        exact hK _ _ rfl (Only.refl _ _)
      -- 12: s148 := binOp Binxor 57 t144 t147 57
      apply rg_ev
      · intro a w hR hf
        obtain ⟨e144, e147, -⟩ := hf
        replace e144 : a.tmps.getD 144 undef = _ := e144
        replace e147 : a.tmps.getD 147 undef = _ := e147
        refine rg_plain rfl fun K hK => ?_
        have hv := X2.out
        go_simp
        exact hK _ _ rfl (Only.refl _ _)
      -- 13: s149 := binOp Binadd 57 t137 t148 57
      apply rg_ev
      · intro a w hR hf
        obtain ⟨e137, e148, -⟩ := hf
        replace e137 : a.tmps.getD 137 undef = _ := e137
        replace e148 : a.tmps.getD 148 undef = _ := e148
        refine rg_plain rfl fun K hK => ?_
        have hv := V1.out
        go_simp
        exact hK _ _ rfl (Only.refl _ _)
      -- 14: s150 := move t13
      apply rg_ev
      · intro a w hR hf
        obtain ⟨e13, -⟩ := hf
        replace e13 : a.tmps.getD 13 undef = _ := e13
        refine rg_plain rfl fun K hK => ?_
        go_simp
        exact hK _ _ rfl (Only.refl _ _)
      -- 15: s151 := binOp Binadd 57 t149 t150 57
      apply rg_ev
      · intro a w hR hf
        obtain ⟨e149, e150, -⟩ := hf
        replace e149 : a.tmps.getD 149 undef = _ := e149
        replace e150 : a.tmps.getD 150 undef = _ := e150
        refine rg_plain rfl fun K hK => ?_
        have hv := V2.out
        go_simp
        exact hK _ _ rfl (Only.refl _ _)
      -- 16: s152 := move t12
      apply rg_ev
      · intro a w hR hf
        obtain ⟨e12, -⟩ := hf
        replace e12 : a.tmps.getD 12 undef = _ := e12
        refine rg_plain rfl fun K hK => ?_
        go_simp
        exact hK _ _ rfl (Only.refl _ _)
      -- 17: s153 := call { value (Operand.func 35), args := #[t152], #[3] }
      apply rg_ev
      · intro a w hR hf
        obtain ⟨e152, -⟩ := hf
        replace e152 : a.tmps.getD 152 undef = _ := e152
        refine rg_plain rfl fun K hK => ?_
        go_simp
        (with_reducible refine (refK_any t xk Hxk.out w).mono ?_)
        rintro e w' ⟨rfl, ho⟩
        exact hK _ _ rfl ho
      -- 18: s154 := binOp Binadd 57 t151 t153 57
      apply rg_ev
      · intro a w hR hf
        obtain ⟨e151, e153, -⟩ := hf
        replace e151 : a.tmps.getD 151 undef = _ := e151
        replace e153 : a.tmps.getD 153 undef = _ := e153
        refine rg_plain rfl fun K hK => ?_
        have hv := V3.out
        go_simp
        exact hK _ _ rfl (Only.refl _ _)
      -- 19: s155 := move t6
      apply rg_ev
      · intro a w hR hf
        obtain ⟨e6, -⟩ := hf
        replace e6 : a.tmps.getD 6 undef = _ := e6
        refine rg_plain rfl fun K hK => ?_
        go_simp
        exact hK _ _ rfl (Only.refl _ _)
      -- 20: s156 := move t12
      apply rg_ev
      · intro a w hR hf
        obtain ⟨e12, -⟩ := hf
        replace e12 : a.tmps.getD 12 undef = _ := e12
        refine rg_plain rfl fun K hK => ?_
        go_simp
        exact hK _ _ rfl (Only.refl _ _)
      -- 21: s157 := indexAddr 59 t155 t156
      apply rg_ev
      · intro a w hR hf
        obtain ⟨e155, e156, -⟩ := hf
        replace e155 : a.tmps.getD 155 undef = _ := e155
        replace e156 : a.tmps.getD 156 undef = _ := e156
        refine rg_plain rfl fun K hK => ?_
        have hti : (t : Int) < 64 := by omega
        go_simp
        exact hK _ _ rfl (Only.refl _ _)
      -- 22: s158 := load 57 t157
      apply rg_ev
      · intro a w hR hf
        obtain ⟨e157, -⟩ := hf
        replace e157 : a.tmps.getD 157 undef = _ := e157
        refine rg_plain rfl fun K hK => ?_
        have hl := hR.cell hcs (by simp)
        go_simp
        exact hK _ _ rfl (Only.refl _ _)
      -- 23: s159 := binOp Binadd 57 t154 t158 57
      apply rg_ev
      · intro a w hR hf
        obtain ⟨e154, e158, -⟩ := hf
        replace e154 : a.tmps.getD 154 undef = _ := e154
        replace e158 : a.tmps.getD 158 undef = _ := e158
        refine rg_plain rfl fun K hK => ?_
        have hv := V4.out
        go_simp
        exact hK _ _ rfl (Only.refl _ _)
      -- 24: s15 := assign t159
      apply rg_ev
      · intro a w hR hf
        obtain ⟨e159, -⟩ := hf
        replace e159 : a.tmps.getD 159 undef = _ := e159
        refine rg_plain rfl fun K hK => ?_
        go_simp
        exact hK _ _ rfl (Only.refl _ _)
      intro f23 w23 hR23 hf
      dsimp only [mergeT]
      obtain ⟨e15, -⟩ := hf
      replace e15 : f23 15 = _ := e15
      rw [e15]
      -- r23>>
      clear hchc hmoc
      have hd0 := (R.out.only0 hR23).cell (u32s_get (i := 0) rfl)
      dsimp only at hd0
      go_wp2_with fail
      -- <<r24
      refine wp_region_rg2 (Only []) [[(11, none)], [(160, some 0)], [(161, some 0)], [(11, none)], [(163, some 0)], [(164, some 0)], [(162, some 3), (165, some 0)], [(11, none)], [(167, some 0)], [(168, some 0)], [(166, some 3), (169, some 0)], [(14, none)], [(170, some 1), (171, some 0)], [(172, some 0)]] [(16, 0)] [none, none, none, none, none, none, none, none, none, none, none, none, none, none, none, none, some 16, none, none, none, none, none, none, none, none, none, none, none, none, none, none, none, none, none, none, none, none, none, none, none, none, none, none, none, none, none, none, none, none, none, none, none, none, none, none, none, none, none, none, none, none, none, none, none, none, none, none, none, none, none, none, none, none, none, none, none, none, none, none, none, none, none, none, none, none, none, none, none, none, none, none, none, none, none, none, none, none, none, none, none, none, none, none, none, none, none, none, none, none, none, none, none, none, none, none, none, none, none, none, none, none, none, none, none, none, none, none, none, none, none, none, none, none, none, none, none, none, none, none, none, none, none, none, none, none, none, none, none, none, none, none, none, none, none, none, none, none, none, none, none, some 160, some 161, some 162, some 163, some 164, some 165, some 166, some 167, some 168, some 169, some 170, some 171, some 172, none, none, none, none, none, none, none, none, none, none, none, none, none, none, none, none, none, none, none, none, none, none, none, none, none, none, none, none, none, none, none, none, none, none, none, none, none, none, none, none, none, none, none, none, none, none, none, none, none] (by kernel_rfl) rfl (by kernel_rfl) (fun _ => Only.refl _ _) (fun _ _ _ h k => h.trans0 k) (Only.drew _) (by kernel_rfl) ?_
      -- 0: s160 := indexAddr 58 t11 (const (0:i64))
      apply rg_ev
      · intro a w hR hf
        obtain ⟨e11, -⟩ := hf
        replace e11 : a.tmps.getD 11 undef = _ := e11
        refine rg_plain rfl fun K hK => ?_
        go_simp
        exact hK _ _ rfl (Only.refl _ _)
      -- 1: s161 := load 57 t160
      apply rg_ev
      · intro a w hR hf
        obtain ⟨e160, -⟩ := hf
        replace e160 : a.tmps.getD 160 undef = _ := e160
        refine rg_plain rfl fun K hK => ?_
        have hl := hR.cell hd0 (by simp)
        go_simp
        exact hK _ _ rfl (Only.refl _ _)
      -- 2: s162 := call { value (Operand.func 34), args := #[t161, const (2:u64)], #[57, 61] }
      apply rg_ev
      · intro a w hR hf
        obtain ⟨e161, -⟩ := hf
        replace e161 : a.tmps.getD 161 undef = _ := e161
        refine rg_plain rfl fun K hK => ?_
        go_simp
        (with_reducible refine (refRot_any a0 2 (by simp) 2 rfl r2 Hr2.out w).mono ?_)
        rintro e w' ⟨rfl, rfl⟩
        exact hK _ _ rfl (Only.refl _ _)
      -- 3: s163 := indexAddr 58 t11 (const (0:i64))
      apply rg_ev
      · intro a w hR hf
        obtain ⟨e11, -⟩ := hf
        replace e11 : a.tmps.getD 11 undef = _ := e11
        refine rg_plain rfl fun K hK => ?_
        go_simp
        exact hK _ _ rfl (Only.refl _ _)
      -- 4: s164 := load 57 t163
      apply rg_ev
      · intro a w hR hf
        obtain ⟨e163, -⟩ := hf
        replace e163 : a.tmps.getD 163 undef = _ := e163
        refine rg_plain rfl fun K hK => ?_
        have hl := hR.cell hd0 (by simp)
        go_simp
        exact hK _ _ rfl (Only.refl _ _)
      -- 5: s165 := call { value (Operand.func 34), args := #[t164, const (13:u64)], #[57, 61] }
      apply rg_ev
      · intro a w hR hf
        obtain ⟨e164, -⟩ := hf
        replace e164 : a.tmps.getD 164 undef = _ := e164
        refine rg_plain rfl fun K hK => ?_
        go_simp
        (with_reducible refine (refRot_any a0 13 (by simp) 13 rfl r13 Hr13.out w).mono ?_)
        rintro e w' ⟨rfl, rfl⟩
        exact hK _ _ rfl (Only.refl _ _)
      -- 6: s166 := binOp Binxor 57 t162 t165 57
      apply rg_ev
      · intro a w hR hf
        obtain ⟨e162, e165, -⟩ := hf
        replace e162 : a.tmps.getD 162 undef = _ := e162
        replace e165 : a.tmps.getD 165 undef = _ := e165
        refine rg_plain rfl fun K hK => ?_
        have hv := Y1.out
        go_simp
        exact hK _ _ rfl (Only.refl _ _)
      -- 7: s167 := indexAddr 58 t11 (const (0:i64))
      apply rg_ev
      · intro a w hR hf
        obtain ⟨e11, -⟩ := hf
        replace e11 : a.tmps.getD 11 undef = _ := e11
        refine rg_plain rfl fun K hK => ?_
        go_simp
        exact hK _ _ rfl (Only.refl _ _)
      -- 8: s168 := load 57 t167
      apply rg_ev
      · intro a w hR hf
        obtain ⟨e167, -⟩ := hf
        replace e167 : a.tmps.getD 167 undef = _ := e167
        refine rg_plain rfl fun K hK => ?_
        have hl := hR.cell hd0 (by simp)
        go_simp
        exact hK _ _ rfl (Only.refl _ _)
      -- 9: s169 := call { value (Operand.func 34), args := #[t168, const (22:u64)], #[57, 61] }
      apply rg_ev
      · intro a w hR hf
        obtain ⟨e168, -⟩ := hf
        replace e168 : a.tmps.getD 168 undef = _ := e168
        refine rg_plain rfl fun K hK => ?_
        go_simp
        (with_reducible refine (refRot_any a0 22 (by simp) 22 rfl r22 Hr22.out w).mono ?_)
        rintro e w' ⟨rfl, rfl⟩
        exact hK _ _ rfl (Only.refl _ _)
      -- 10: s170 := binOp Binxor 57 t166 t169 57
      apply rg_ev
      · intro a w hR hf
        obtain ⟨e166, e169, -⟩ := hf
        replace e166 : a.tmps.getD 166 undef = _ := e166
        replace e169 : a.tmps.getD 169 undef = _ := e169
        refine rg_plain rfl fun K hK => ?_
        have hv := Y2.out
        go_simp
        exact hK _ _ rfl (Only.refl _ _)
      -- 11: s171 := move t14
      apply rg_ev
      · intro a w hR hf
        obtain ⟨e14, -⟩ := hf
        replace e14 : a.tmps.getD 14 undef = _ := e14
        refine rg_plain rfl fun K hK => ?_
        go_simp
        exact hK _ _ rfl (Only.refl _ _)
      -- 12: s172 := binOp Binadd 57 t170 t171 57
      apply rg_ev
      · intro a w hR hf
        obtain ⟨e170, e171, -⟩ := hf
        replace e170 : a.tmps.getD 170 undef = _ := e170
        replace e171 : a.tmps.getD 171 undef = _ := e171
        refine rg_plain rfl fun K hK => ?_
        have hv := V5.out
        go_simp
        exact hK _ _ rfl (Only.refl _ _)
      -- 13: s16 := assign t172
      apply rg_ev
      · intro a w hR hf
        obtain ⟨e172, -⟩ := hf
        replace e172 : a.tmps.getD 172 undef = _ := e172
        refine rg_plain rfl fun K hK => ?_
        go_simp
        exact hK _ _ rfl (Only.refl _ _)
      intro f24 w24 hR24 hf
      dsimp only [mergeT]
      obtain ⟨e16, -⟩ := hf
      replace e16 : f24 16 = _ := e16
      rw [e16]
      -- r24>>
      go_wp2_with fail
      refine refLoop5 g11 [a0, a1, a2, a3, a4, a5, a6, a7] w24 rfl ((R.out.only0 hR23).only0 hR24) ?_
      intros
      rename_i w' hr ho
      have hr' : Row w' g11 175 (u32s [a0, a0, a1, a2, a3, a4, a5, a6]) := hr
      have hk4 := hr'.cell (u32s_get (i := 4) rfl)
      have hk0 := hr'.cell (u32s_get (i := 0) rfl)
      have hf4 := hr'.free 4
      have hf0 := hr'.free 0
      have rA := hr'.setCell 4 (u32v u4)
      have rB := rA.setCell 0 (u32v u0)
      have oA : Only [g11] w' (w'.setCell ⟨g11, 4, none⟩ (u32v u4)) := Only.setCell _ ⟨g11, 4, none⟩ _
      have oB : Only [g11] (w'.setCell ⟨g11, 4, none⟩ (u32v u4)) ((w'.setCell ⟨g11, 4, none⟩ (u32v u4)).setCell ⟨g11, 0, none⟩ (u32v u0)) := Only.setCell _ ⟨g11, 0, none⟩ _
      have RB : Hid (Row ((w'.setCell ⟨g11, 4, none⟩ (u32v u4)).setCell ⟨g11, 0, none⟩ (u32v u0)) g11 175 (u32s [u0, a0, a1, a2, u4, a4, a5, a6])) := Lib.hid rB
      have OB := Lib.hid (((((Ho.out.trans0 hR23).trans0 hR24).trans ho (fun i hi _ => hi)).trans oA (fun i hi _ => hi)).trans oB (fun i hi _ => hi))
      clear hr hr' rA rB oA oB ho hd0 hc7 hc4 hcs R Ho hR23 hR24
      go_wp2_with fail
      refine ⟨⟨t + 1, ⟨u0, a0, a1, a2, u4, a4, a5, a6⟩, by go_num, by omega, Hnew, RB, OB⟩, by simp [intOf]; omega⟩
    · obtain rfl : t = 64 := by omega
      have hfin : st = rnds s shaK S := by rw [Hst.out, List.take_of_length_le (by rw [HlK.out]; exact Nat.le_refl _), List.take_of_length_le (by rw [HS.out]; exact Nat.le_refl _)]
      have r := R.out
      rw [hfin] at r
      have Hr := Lib.hid r
      clear r R hfin Hst
      go_wp2_with fail
      exact Hexit.out _ _ _ _ _ _ _ _ _ _ _ _ _ _ _ _ _ _ _ _ _ _ _ _ _ _ _ _ _ _ _ _ _ _ _ _ _ _ _ _ _ _ _ _ _ _ _ _ _ _ _ _ _ _ _ _ _ _ _ _ _ _ _ _ _ _ _ _ _ _ _ _ _ _ _ _ _ _ _ _ _ _ _ _ _ _ _ _ _ _ _ _ _ _ _ wr Hr.out Ho.out
end Go.Proofs.YtfoplbolbjcggaaDoor
end
section
set_option linter.unusedVariables false
namespace Go.Proofs.YtfoplbolbjcggaaDoor
open Go.RowKit

set_option maxRecDepth 1000000 in
set_option maxHeartbeats 4000000 in
theorem refLoop6 {Q : Exit → Act → World → Prop} {c0 c1 c2 c4 c5 c6 c7 c8 c9 c10 c12 c13 c14 c15 c16 c17 c18 c19 c20 c21 c22 c23 c24 c25 c26 c27 c28 c29 c30 c31 c32 c33 c34 c35 c36 c37 c38 c39 c40 c41 c42 c43 c44 c45 c46 c47 c48 c49 c50 c51 c52 c53 c54 c55 c56 c57 c58 c59 c60 c61 c62 c63 c64 c65 c66 c67 c68 c69 c70 c71 c72 c73 c74 c75 c76 c77 c78 c79 c80 c81 c82 c83 c84 c85 c86 c87 c88 c89 c90 c91 c92 c93 c94 c95 c96 c97 c98 c99 c100 c101 c102 c103 c104 c105 c106 c107 c108 c109 c110 c111 c112 c113 c114 c115 c116 c117 c118 c119 c120 c121 c122 c123 c124 c125 c126 c127 c128 c129 c130 c131 c132 c133 c134 c135 c136 c137 c138 c139 c140 c141 c142 c143 c144 c145 c146 c147 c148 c149 c150 c151 c152 c153 c154 c155 c156 c157 c158 c159 c160 c161 c162 c163 c164 c165 c166 c167 c168 c169 c170 c171 c172 c173 c174 c175 c176 c177 c178 c179 c180 c181 c182 c183 c184 c185 c186 c187 c188 c189 c190 c191 c193 c194 c195 c196 c197 c198 c199 c200 c201 c202 c203 c204 c205 c206 c207 c208 c209 c210 c211 c212 c213 c214 c215 c216 c217 c218 c219 c220 c221 : Value} (g3 g11 : Nat) (H s : List UInt32) (w0 : World) (hH : H.length = 8) (hs : s.length = 8) (hrow : Row w0 g3 175 (u32s H)) (hrow11 : Row w0 g11 175 (u32s s)) (hg : g11 ≠ g3)
    (hexit : ∀ (u18 u192 u193 u194 u195 u196 u197 u198 u199 u200 u201 u202 u203 : Value) (w' : World), Row w' g3 175 (u32s (List.zipWith (· + ·) H s)) → Only [g3] w0 w' → Q (.exit 10) ⟨(c0 :: c1 :: c2 :: .pointer (some ⟨g3, 0, none⟩) :: c4 :: c5 :: c6 :: c7 :: c8 :: c9 :: c10 :: .pointer (some ⟨g11, 0, none⟩) :: c12 :: c13 :: c14 :: c15 :: c16 :: c17 :: u18 :: c19 :: c20 :: c21 :: c22 :: c23 :: c24 :: c25 :: c26 :: c27 :: c28 :: c29 :: c30 :: c31 :: c32 :: c33 :: c34 :: c35 :: c36 :: c37 :: c38 :: c39 :: c40 :: c41 :: c42 :: c43 :: c44 :: c45 :: c46 :: c47 :: c48 :: c49 :: c50 :: c51 :: c52 :: c53 :: c54 :: c55 :: c56 :: c57 :: c58 :: c59 :: c60 :: c61 :: c62 :: c63 :: c64 :: c65 :: c66 :: c67 :: c68 :: c69 :: c70 :: c71 :: c72 :: c73 :: c74 :: c75 :: c76 :: c77 :: c78 :: c79 :: c80 :: c81 :: c82 :: c83 :: c84 :: c85 :: c86 :: c87 :: c88 :: c89 :: c90 :: c91 :: c92 :: c93 :: c94 :: c95 :: c96 :: c97 :: c98 :: c99 :: c100 :: c101 :: c102 :: c103 :: c104 :: c105 :: c106 :: c107 :: c108 :: c109 :: c110 :: c111 :: c112 :: c113 :: c114 :: c115 :: c116 :: c117 :: c118 :: c119 :: c120 :: c121 :: c122 :: c123 :: c124 :: c125 :: c126 :: c127 :: c128 :: c129 :: c130 :: c131 :: c132 :: c133 :: c134 :: c135 :: c136 :: c137 :: c138 :: c139 :: c140 :: c141 :: c142 :: c143 :: c144 :: c145 :: c146 :: c147 :: c148 :: c149 :: c150 :: c151 :: c152 :: c153 :: c154 :: c155 :: c156 :: c157 :: c158 :: c159 :: c160 :: c161 :: c162 :: c163 :: c164 :: c165 :: c166 :: c167 :: c168 :: c169 :: c170 :: c171 :: c172 :: c173 :: c174 :: c175 :: c176 :: c177 :: c178 :: c179 :: c180 :: c181 :: c182 :: c183 :: c184 :: c185 :: c186 :: c187 :: c188 :: c189 :: c190 :: c191 :: u192 :: u193 :: u194 :: u195 :: u196 :: u197 :: u198 :: u199 :: u200 :: u201 :: u202 :: u203 :: c204 :: c205 :: c206 :: c207 :: c208 :: c209 :: c210 :: c211 :: c212 :: c213 :: c214 :: c215 :: c216 :: c217 :: c218 :: c219 :: c220 :: c221 :: []).toArray, []⟩ w') :
    Code.wp Tryd.prog (refSumLoop 5) Q ⟨(c0 :: c1 :: c2 :: .pointer (some ⟨g3, 0, none⟩) :: c4 :: c5 :: c6 :: c7 :: c8 :: c9 :: c10 :: .pointer (some ⟨g11, 0, none⟩) :: c12 :: c13 :: c14 :: c15 :: c16 :: c17 :: c18 :: c19 :: c20 :: c21 :: c22 :: c23 :: c24 :: c25 :: c26 :: c27 :: c28 :: c29 :: c30 :: c31 :: c32 :: c33 :: c34 :: c35 :: c36 :: c37 :: c38 :: c39 :: c40 :: c41 :: c42 :: c43 :: c44 :: c45 :: c46 :: c47 :: c48 :: c49 :: c50 :: c51 :: c52 :: c53 :: c54 :: c55 :: c56 :: c57 :: c58 :: c59 :: c60 :: c61 :: c62 :: c63 :: c64 :: c65 :: c66 :: c67 :: c68 :: c69 :: c70 :: c71 :: c72 :: c73 :: c74 :: c75 :: c76 :: c77 :: c78 :: c79 :: c80 :: c81 :: c82 :: c83 :: c84 :: c85 :: c86 :: c87 :: c88 :: c89 :: c90 :: c91 :: c92 :: c93 :: c94 :: c95 :: c96 :: c97 :: c98 :: c99 :: c100 :: c101 :: c102 :: c103 :: c104 :: c105 :: c106 :: c107 :: c108 :: c109 :: c110 :: c111 :: c112 :: c113 :: c114 :: c115 :: c116 :: c117 :: c118 :: c119 :: c120 :: c121 :: c122 :: c123 :: c124 :: c125 :: c126 :: c127 :: c128 :: c129 :: c130 :: c131 :: c132 :: c133 :: c134 :: c135 :: c136 :: c137 :: c138 :: c139 :: c140 :: c141 :: c142 :: c143 :: c144 :: c145 :: c146 :: c147 :: c148 :: c149 :: c150 :: c151 :: c152 :: c153 :: c154 :: c155 :: c156 :: c157 :: c158 :: c159 :: c160 :: c161 :: c162 :: c163 :: c164 :: c165 :: c166 :: c167 :: c168 :: c169 :: c170 :: c171 :: c172 :: c173 :: c174 :: c175 :: c176 :: c177 :: c178 :: c179 :: c180 :: c181 :: c182 :: c183 :: c184 :: c185 :: c186 :: c187 :: c188 :: c189 :: c190 :: c191 :: .int .i64 0 :: c193 :: c194 :: c195 :: c196 :: c197 :: c198 :: c199 :: c200 :: c201 :: c202 :: c203 :: c204 :: c205 :: c206 :: c207 :: c208 :: c209 :: c210 :: c211 :: c212 :: c213 :: c214 :: c215 :: c216 :: c217 :: c218 :: c219 :: c220 :: c221 :: []).toArray, []⟩ w0 := by
  conv => arg 2; whnf
  have Hexit := Lib.hid hexit
  have Hrow : Hid (Row w0 g3 175 (u32s (addR H s 0))) := Lib.hid hrow
  have Hrow11 := Lib.hid hrow11
  have HH := Lib.hid hH
  have HS := Lib.hid hs
  clear hexit hrow hrow11 hH hs
  go_loopw [192] (fun i wr => ∃ j : Nat, i = .int .i64 (j : Int) ∧ j ≤ 8 ∧ Hid (Row wr g3 175 (u32s (addR H s j))) ∧ Hid (Only [g3] w0 wr)) (fun i _ => 8 - (intOf i).toNat)
  case atStart => exact ⟨0, rfl, by omega, Hrow, Lib.hid (Only.refl _ _)⟩
  case round =>
    clear Hrow
    obtain ⟨j, rfl, hj, R, Ho⟩ := hrel
    by_cases hlt : j < 8
    · obtain ⟨x, hx⟩ : ∃ x, H[j]? = some x := ⟨_, List.getElem?_eq_getElem (by rw [HH.out]; exact hlt)⟩
      obtain ⟨y, hy⟩ : ∃ y, s[j]? = some y := ⟨_, List.getElem?_eq_getElem (by rw [HS.out]; exact hlt)⟩
      obtain ⟨hax, hset⟩ := addR_step HH.out HS.out hx hy
      have hcy := Ho.out.cell (Hrow11.out.cell (u32s_get hy)) (by simp; exact hg)
      obtain ⟨xy, hxy⟩ : ∃ z : UInt32, z = x + y := ⟨_, rfl⟩
      have hsum : IntKind.u32.wrap ((x.toNat : Int) + (y.toNat : Int)) = (xy.toNat : Int) := by rw [hxy]; exact u32_add_cell _ _
      rw [← hxy] at hset
      have Hset := Lib.hid hset
      have Hax := Lib.hid hax
      have Hsum := Lib.hid hsum
      clear hset hx hy hxy hax hsum
      have hji : (j : Int) < 8 := by omega
      go_wp2_with fail
      have hRr : ∀ a, Only [g3] a a := fun a => Only.refl _ _
      have hRt : ∀ a b e, Only [g3] a b → Only [g3] b e → Only [g3] a e := fun a b e h h2 => h.trans h2 (fun i hi _ => hi)
      have hRd : Only [g3] wr wr.drew := (Only.drew _).mono (by simp)
      have hC0 : ∀ i ∈ [8], (fun (_ : Nat) (a : World) => Row a g3 175 (u32s (addR H s j))) i wr.drew := fun _ _ => R.out.only0 (Only.drew _)
      -- <<r34
      refine wp_region_rg4 (Only [g3]) (Dirt [(8, [g3])]) (fun (_ : Nat) (a : World) => Row a g3 175 (u32s (addR H s j))) [8] [[(18, none)], [(3, none), (195, some 0)], [(196, some 0)], [(18, none)], [(11, none), (198, some 0)], [(199, some 0)], [(197, some 3), (200, some 0)], [(3, none), (195, some 6)], [(202, some 0), (201, some 1)]] [] [none, none, none, none, none, none, none, none, none, none, none, none, none, none, none, none, none, none, none, none, none, none, none, none, none, none, none, none, none, none, none, none, none, none, none, none, none, none, none, none, none, none, none, none, none, none, none, none, none, none, none, none, none, none, none, none, none, none, none, none, none, none, none, none, none, none, none, none, none, none, none, none, none, none, none, none, none, none, none, none, none, none, none, none, none, none, none, none, none, none, none, none, none, none, none, none, none, none, none, none, none, none, none, none, none, none, none, none, none, none, none, none, none, none, none, none, none, none, none, none, none, none, none, none, none, none, none, none, none, none, none, none, none, none, none, none, none, none, none, none, none, none, none, none, none, none, none, none, none, none, none, none, none, none, none, none, none, none, none, none, none, none, none, none, none, none, none, none, none, none, none, none, none, none, none, none, none, none, none, none, none, none, none, none, none, none, none, none, none, none, none, none, none, none, none, some 195, some 196, some 197, some 198, some 199, some 200, some 201, some 202, none, none, none, none, none, none, none, none, none, none, none, none, none, none, none, none, none, none, none] (by kernel_rfl) rfl (by kernel_rfl) hRr hRt (fun _ _ => Only.refl _ _) hRd hC0 (by kernel_rfl) (by kernel_rfl) ?_
      -- 0: s195 := move t18
      apply rgd_ev
      · intro a w hR hC hf
        obtain ⟨e18, -⟩ := hf
        replace e18 : a.tmps.getD 18 undef = _ := e18
        refine rg_plain rfl fun K hK => ?_
        go_simp
        exact hK _ _ rfl ⟨hRr _, Only.refl _ _, fun _ _ _ _ h => h⟩
      -- 1: s196 := indexAddr 58 t3 t195
      apply rgd_ev
      · intro a w hR hC hf
        obtain ⟨e3, e195, -⟩ := hf
        replace e3 : a.tmps.getD 3 undef = _ := e3
        replace e195 : a.tmps.getD 195 undef = _ := e195
        refine rg_plain rfl fun K hK => ?_
        go_simp
        exact hK _ _ rfl ⟨hRr _, Only.refl _ _, fun _ _ _ _ h => h⟩
      -- 2: s197 := load 57 t196
      apply rgd_ev
      · intro a w hR hC hf
        obtain ⟨e196, -⟩ := hf
        replace e196 : a.tmps.getD 196 undef = _ := e196
        refine rg_plain rfl fun K hK => ?_
        have hl := (hC 8 (by simp) (by kernel_rfl)).cell (u32s_get Hax.out)
        go_simp
        exact hK _ _ rfl ⟨hRr _, Only.refl _ _, fun _ _ _ _ h => h⟩
      -- 3: s198 := move t18
      apply rgd_ev
      · intro a w hR hC hf
        obtain ⟨e18, -⟩ := hf
        replace e18 : a.tmps.getD 18 undef = _ := e18
        refine rg_plain rfl fun K hK => ?_
        go_simp
        exact hK _ _ rfl ⟨hRr _, Only.refl _ _, fun _ _ _ _ h => h⟩
      -- 4: s199 := indexAddr 58 t11 t198
      apply rgd_ev
      · intro a w hR hC hf
        obtain ⟨e11, e198, -⟩ := hf
        replace e11 : a.tmps.getD 11 undef = _ := e11
        replace e198 : a.tmps.getD 198 undef = _ := e198
        refine rg_plain rfl fun K hK => ?_
        go_simp
        exact hK _ _ rfl ⟨hRr _, Only.refl _ _, fun _ _ _ _ h => h⟩
      -- 5: s200 := load 57 t199
      apply rgd_ev
      · intro a w hR hC hf
        obtain ⟨e199, -⟩ := hf
        replace e199 : a.tmps.getD 199 undef = _ := e199
        refine rg_plain rfl fun K hK => ?_
        have hl := hR.cell hcy (by simp; exact hg)
        go_simp
        exact hK _ _ rfl ⟨hRr _, Only.refl _ _, fun _ _ _ _ h => h⟩
      -- 6: s201 := binOp Binadd 57 t197 t200 57
      apply rgd_ev
      · intro a w hR hC hf
        obtain ⟨e197, e200, -⟩ := hf
        replace e197 : a.tmps.getD 197 undef = _ := e197
        replace e200 : a.tmps.getD 200 undef = _ := e200
        refine rg_plain rfl fun K hK => ?_
        have hv := Hsum.out
        go_simp
        exact hK _ _ rfl ⟨hRr _, Only.refl _ _, fun _ _ _ _ h => h⟩
      -- 7: s202 := indexAddr 58 t3 t195
      apply rgd_ev
      · intro a w hR hC hf
        obtain ⟨e3, e195, -⟩ := hf
        replace e3 : a.tmps.getD 3 undef = _ := e3
        replace e195 : a.tmps.getD 195 undef = _ := e195
        refine rg_plain rfl fun K hK => ?_
        go_simp
        exact hK _ _ rfl ⟨hRr _, Only.refl _ _, fun _ _ _ _ h => h⟩
      -- 8: sNone := store 57 t202 t201
      refine ⟨fun _ a => Row a g3 175 (u32s (addR H s (j + 1))), stands_of (fun _ _ _ h ho => h.only0 ho) (by intro x hx hk; obtain rfl := List.mem_singleton.1 hx; simp at hk), fun a w hR hC hf => ?_, ?_⟩
      · obtain ⟨e202, e201, -⟩ := hf
        replace e202 : a.tmps.getD 202 undef = _ := e202
        replace e201 : a.tmps.getD 201 undef = _ := e201
        refine rg_plain rfl fun K hK => ?_
        have hC8 := hC 8 (by simp) (by kernel_rfl)
        have hcc := hC8.cell (u32s_get Hax.out)
        have hff := hC8.free j
        go_simp
        have hst : Only [g3] w (w.setCell ⟨g3, j, none⟩ (u32v xy)) := Only.setCell w ⟨g3, j, none⟩ _
        refine hK undef _ ?_ ⟨hst, hst, fun i hi hne ha _ => absurd (List.mem_singleton.1 hi) hne⟩
        rw [← Hset.out, ← u32s_set]
        exact hC8.setCell j (u32v xy)
      intro f34 w34 hR34 hf hz34
      dsimp only [mergeT]
      -- r34>>
      obtain ⟨v8, r8⟩ := hz34 _ (List.mem_cons_self ..)
      go_wp2_with fail
      refine ⟨⟨j + 1, by go_num, by omega, Lib.hid r8, Lib.hid (Ho.out.trans hR34 (fun i hi _ => hi))⟩, by simp [intOf]; omega⟩
    · obtain rfl : j = 8 := by omega
      have r := R.out
      have hfull : addR H s 8 = List.zipWith (· + ·) H s := by unfold addR; rw [List.take_of_length_le (by rw [List.length_zipWith, HH.out, HS.out]; exact Nat.le_refl _), List.drop_eq_nil_of_le (by rw [HH.out]; exact Nat.le_refl _), List.append_nil]
      rw [hfull] at r
      have Hr := Lib.hid r
      clear r R hfull
      go_wp2_with fail
      exact Hexit.out _ _ _ _ _ _ _ _ _ _ _ _ _ wr Hr.out Ho.out
end Go.Proofs.YtfoplbolbjcggaaDoor
end
section
set_option linter.unusedVariables false
namespace Go.Proofs.YtfoplbolbjcggaaDoor
open Go.RowKit

theorem add_comm_l (s r : St) : List.zipWith (· + ·) s.l r.l = (r.add s).l := by
  show [s.a + r.a, s.b + r.b, s.c + r.c, s.d + r.d, s.e + r.e, s.f + r.f, s.g + r.g, s.h + r.h] = [r.a + s.a, r.b + s.b, r.c + s.c, r.d + s.d, r.e + s.e, r.f + s.f, r.g + s.g, r.h + s.h]
  simp only [UInt32.add_comm]
theorem infoA8 : (Tryd.prog.info? 175).map (·.size) = some 8 := by kernel_rfl
set_option maxRecDepth 1000000 in
set_option maxHeartbeats 16000000 in
theorem refLoop1 {Q : Exit → Act → World → Prop} {c0 c1 c2 c6 c7 c8 c9 c10 c11 c12 c13 c14 c15 c16 c17 c18 c19 c20 c21 c22 c23 c24 c25 c26 c27 c28 c29 c30 c31 c32 c33 c34 c35 c36 c37 c38 c39 c40 c41 c42 c43 c44 c45 c46 c47 c48 c49 c50 c51 c52 c53 c54 c55 c56 c57 c58 c59 c60 c61 c62 c63 c64 c65 c66 c67 c68 c69 c70 c71 c72 c73 c74 c75 c76 c77 c78 c79 c80 c81 c82 c83 c84 c85 c86 c87 c88 c89 c90 c91 c92 c93 c94 c95 c96 c97 c98 c99 c100 c101 c102 c103 c104 c105 c106 c107 c108 c109 c110 c111 c112 c113 c114 c115 c116 c117 c118 c119 c120 c121 c122 c123 c124 c125 c126 c127 c128 c129 c130 c131 c132 c133 c134 c135 c136 c137 c138 c139 c140 c141 c142 c143 c144 c145 c146 c147 c148 c149 c150 c151 c152 c153 c154 c155 c156 c157 c158 c159 c160 c161 c162 c163 c164 c165 c166 c167 c168 c169 c170 c171 c172 c173 c174 c175 c176 c177 c178 c179 c180 c181 c182 c183 c184 c185 c186 c187 c188 c189 c190 c191 c192 c193 c194 c195 c196 c197 c198 c199 c200 c201 c202 c203 c204 c205 c206 c207 c208 c209 c210 c211 c212 c213 c214 c215 c216 c217 c218 c219 c220 c221 : Value} (b4 off4 n4 c4 g3 : Nat) (Y : List UInt8) (s0 : St) (w0 : World) (hY : Y.length = n4) (hn4 : n4 + 64 ≤ 9223372036854775807) (h64 : n4 % 64 = 0) (hrow : Row w0 g3 175 (u32s s0.l)) (hbg : b4 ≠ g3) (hb4 : b4 < w0.heap.size)
    (hm : ∀ i (hi : i < Y.length), w0.cell? ⟨b4, off4 + i, none⟩ = some (.int .u8 ((Y[i]).toNat : Int)))
    (hexit : ∀ (u5 u6 u7 u8 u9 u10 u11 u12 u13 u14 u15 u16 u17 u18 u24 u25 u26 u27 u28 u29 u30 u31 u32 u33 u34 u35 u36 u37 u38 u39 u40 u41 u42 u43 u44 u45 u46 u47 u48 u49 u50 u51 u52 u53 u54 u55 u56 u57 u58 u59 u60 u61 u62 u63 u64 u65 u66 u67 u68 u69 u70 u71 u72 u73 u74 u75 u76 u77 u78 u79 u80 u81 u82 u83 u84 u85 u86 u87 u88 u89 u90 u91 u92 u93 u94 u95 u96 u97 u98 u99 u100 u101 u102 u103 u104 u105 u106 u107 u108 u109 u110 u111 u112 u113 u114 u115 u116 u117 u118 u119 u120 u121 u122 u123 u124 u125 u126 u127 u128 u129 u130 u131 u132 u133 u134 u135 u136 u137 u138 u139 u140 u141 u142 u143 u144 u145 u146 u147 u148 u149 u150 u151 u152 u153 u154 u155 u156 u157 u158 u159 u160 u161 u162 u163 u164 u165 u166 u167 u168 u169 u170 u171 u172 u173 u174 u175 u176 u177 u178 u179 u180 u181 u182 u183 u184 u185 u186 u187 u188 u189 u190 u191 u192 u193 u194 u195 u196 u197 u198 u199 u200 u201 u202 u203 : Value) (w' : World), Row w' g3 175 (u32s (digN s0 (n4 / 64) Y).l) → Only [g3] w0 w' → Q (.exit 0) ⟨(c0 :: c1 :: c2 :: .pointer (some ⟨g3, 0, none⟩) :: .slice (some ⟨b4, off4, none⟩) n4 c4 :: u5 :: u6 :: u7 :: u8 :: u9 :: u10 :: u11 :: u12 :: u13 :: u14 :: u15 :: u16 :: u17 :: u18 :: c19 :: c20 :: c21 :: c22 :: c23 :: u24 :: u25 :: u26 :: u27 :: u28 :: u29 :: u30 :: u31 :: u32 :: u33 :: u34 :: u35 :: u36 :: u37 :: u38 :: u39 :: u40 :: u41 :: u42 :: u43 :: u44 :: u45 :: u46 :: u47 :: u48 :: u49 :: u50 :: u51 :: u52 :: u53 :: u54 :: u55 :: u56 :: u57 :: u58 :: u59 :: u60 :: u61 :: u62 :: u63 :: u64 :: u65 :: u66 :: u67 :: u68 :: u69 :: u70 :: u71 :: u72 :: u73 :: u74 :: u75 :: u76 :: u77 :: u78 :: u79 :: u80 :: u81 :: u82 :: u83 :: u84 :: u85 :: u86 :: u87 :: u88 :: u89 :: u90 :: u91 :: u92 :: u93 :: u94 :: u95 :: u96 :: u97 :: u98 :: u99 :: u100 :: u101 :: u102 :: u103 :: u104 :: u105 :: u106 :: u107 :: u108 :: u109 :: u110 :: u111 :: u112 :: u113 :: u114 :: u115 :: u116 :: u117 :: u118 :: u119 :: u120 :: u121 :: u122 :: u123 :: u124 :: u125 :: u126 :: u127 :: u128 :: u129 :: u130 :: u131 :: u132 :: u133 :: u134 :: u135 :: u136 :: u137 :: u138 :: u139 :: u140 :: u141 :: u142 :: u143 :: u144 :: u145 :: u146 :: u147 :: u148 :: u149 :: u150 :: u151 :: u152 :: u153 :: u154 :: u155 :: u156 :: u157 :: u158 :: u159 :: u160 :: u161 :: u162 :: u163 :: u164 :: u165 :: u166 :: u167 :: u168 :: u169 :: u170 :: u171 :: u172 :: u173 :: u174 :: u175 :: u176 :: u177 :: u178 :: u179 :: u180 :: u181 :: u182 :: u183 :: u184 :: u185 :: u186 :: u187 :: u188 :: u189 :: u190 :: u191 :: u192 :: u193 :: u194 :: u195 :: u196 :: u197 :: u198 :: u199 :: u200 :: u201 :: u202 :: u203 :: c204 :: c205 :: c206 :: c207 :: c208 :: c209 :: c210 :: c211 :: c212 :: c213 :: c214 :: c215 :: c216 :: c217 :: c218 :: c219 :: c220 :: c221 :: []).toArray, []⟩ w') :
    Code.wp Tryd.prog (refSumLoop 0) Q ⟨(c0 :: c1 :: c2 :: .pointer (some ⟨g3, 0, none⟩) :: .slice (some ⟨b4, off4, none⟩) n4 c4 :: .int .i64 0 :: c6 :: c7 :: c8 :: c9 :: c10 :: c11 :: c12 :: c13 :: c14 :: c15 :: c16 :: c17 :: c18 :: c19 :: c20 :: c21 :: c22 :: c23 :: c24 :: c25 :: c26 :: c27 :: c28 :: c29 :: c30 :: c31 :: c32 :: c33 :: c34 :: c35 :: c36 :: c37 :: c38 :: c39 :: c40 :: c41 :: c42 :: c43 :: c44 :: c45 :: c46 :: c47 :: c48 :: c49 :: c50 :: c51 :: c52 :: c53 :: c54 :: c55 :: c56 :: c57 :: c58 :: c59 :: c60 :: c61 :: c62 :: c63 :: c64 :: c65 :: c66 :: c67 :: c68 :: c69 :: c70 :: c71 :: c72 :: c73 :: c74 :: c75 :: c76 :: c77 :: c78 :: c79 :: c80 :: c81 :: c82 :: c83 :: c84 :: c85 :: c86 :: c87 :: c88 :: c89 :: c90 :: c91 :: c92 :: c93 :: c94 :: c95 :: c96 :: c97 :: c98 :: c99 :: c100 :: c101 :: c102 :: c103 :: c104 :: c105 :: c106 :: c107 :: c108 :: c109 :: c110 :: c111 :: c112 :: c113 :: c114 :: c115 :: c116 :: c117 :: c118 :: c119 :: c120 :: c121 :: c122 :: c123 :: c124 :: c125 :: c126 :: c127 :: c128 :: c129 :: c130 :: c131 :: c132 :: c133 :: c134 :: c135 :: c136 :: c137 :: c138 :: c139 :: c140 :: c141 :: c142 :: c143 :: c144 :: c145 :: c146 :: c147 :: c148 :: c149 :: c150 :: c151 :: c152 :: c153 :: c154 :: c155 :: c156 :: c157 :: c158 :: c159 :: c160 :: c161 :: c162 :: c163 :: c164 :: c165 :: c166 :: c167 :: c168 :: c169 :: c170 :: c171 :: c172 :: c173 :: c174 :: c175 :: c176 :: c177 :: c178 :: c179 :: c180 :: c181 :: c182 :: c183 :: c184 :: c185 :: c186 :: c187 :: c188 :: c189 :: c190 :: c191 :: c192 :: c193 :: c194 :: c195 :: c196 :: c197 :: c198 :: c199 :: c200 :: c201 :: c202 :: c203 :: c204 :: c205 :: c206 :: c207 :: c208 :: c209 :: c210 :: c211 :: c212 :: c213 :: c214 :: c215 :: c216 :: c217 :: c218 :: c219 :: c220 :: c221 :: []).toArray, []⟩ w0 := by
  conv => arg 2; whnf
  have Hexit := Lib.hid hexit
  have Hrow := Lib.hid hrow
  have HY := Lib.hid hY
  have Hm := Lib.hid hm
  have hg3 := hrow.lt
  clear hexit hrow hY hm
  go_loopw [5] (fun i wr => ∃ (j at_ : Nat) (st : St), i = .int .i64 (at_ : Int) ∧ at_ ≤ n4 ∧ Hid (at_ = 64 * j) ∧ Hid (st = digN s0 j Y) ∧ Hid (Row wr g3 175 (u32s st.l)) ∧ Hid (Only [g3] w0 wr)) (fun i _ => n4 - (intOf i).toNat)
  case atStart => exact ⟨0, 0, s0, rfl, by omega, Lib.hid rfl, Lib.hid rfl, Hrow, Lib.hid (Only.refl _ _)⟩
  case round =>
    clear Hrow
    obtain ⟨j, at_, st, rfl, hj, Hat, Hst, R, Ho⟩ := hrel
    by_cases hlt : at_ < n4
    · have hj64 : at_ + 64 ≤ n4 := by have := Hat.out; omega
      have hlt' : (at_ : Int) < (n4 : Int) := by omega
      obtain ⟨g6, w1, hmk, hg6, r6, o1⟩ := make_row (P := Tryd.prog) wr (t := 176) (e := 160) Tryd.underlying176 infoU32 rfl .i64 .i64 64 64 (Nat.le_refl _) (by omega) (by omega)
      have hmk2 : (Instr.makeSlice 176 (.int .i64 64) (.int .i64 64)).run Tryd.prog wr = .ok (.slice (some ⟨g6, 0, none⟩) 64 64) w1 := hmk
      have hsz := Ho.out.size
      have hb6 : b4 ≠ g6 := by omega
      have hlen : ((Y.drop (64 * j)).take 64).length = 64 := by rw [List.length_take, List.length_drop, HY.out, ← Hat.out]; omega
      have hdig : dig (digN s0 j Y) ((Y.drop (64 * j)).take 64) = digN s0 (j + 1) Y := by rw [digN_add j 1]; rfl
      have hyb : ∀ i, i < 64 → ((Y.drop (64 * j)).take 64)[i]? = some (Y.getD (at_ + i) 0) := fun i hi => by
        have hlti : at_ + i < Y.length := by rw [HY.out]; omega
        rw [List.getElem?_take, if_pos hi, List.getElem?_drop, ← Hat.out, List.getD_eq_getElem?_getD, List.getElem?_eq_getElem hlti]; rfl
      have hmb : ∀ i, i < 64 → w1.cell? ⟨b4, off4 + (at_ + i), none⟩ = some (.int .u8 ((Y.getD (at_ + i) 0).toNat : Int)) := fun i hi => by
        have hlti : at_ + i < Y.length := by rw [HY.out]; omega
        have := o1.cell (Ho.out.cell (Hm.out (at_ + i) hlti) (by simp; exact hbg)) (by simp)
        rw [List.getD_eq_getElem?_getD, List.getElem?_eq_getElem hlti]; exact this
      generalize hbs : (Y.drop (64 * j)).take 64 = bs at hlen hdig hyb
      have Hdig := Lib.hid hdig
      have Hmb := Lib.hid hmb
      have Hyb := Lib.hid hyb
      have Hlen := Lib.hid hlen
      have R1 := Lib.hid (R.out.only0 o1)
      have R6 := Lib.hid r6
      have Ho1 := Lib.hid (Ho.out.trans0 o1)
      have hg6l := r6.lt
      have hg36 : g3 ≠ g6 := by omega
      clear hdig hmb hyb hlen hbs hmk r6 R o1 Ho
      go_wp2_with fail
      clear hmk2
      refine refLoop2 b4 off4 n4 c4 at_ g6 bs (fun i => Y.getD (at_ + i) 0) w1 Hlen.out Hyb.out R6.out hb6 Hmb.out hj64 (by omega) ?_
      intros
      rename_i w2 r6 o2
      have r3 := R1.out.only o2 (by simp; exact hg36)
      have ho2 := Ho1.out.transN o2 (by simp; omega)
      have hsz2 := ho2.size
      have hg6w := r6.lt
      have hg3w := r3.lt
      have hld := r3.loadAt (P := Tryd.prog) Tryd.underlying175 (by rw [u32s_length]; exact infoA8)
      obtain ⟨W1, hW1⟩ : ∃ W1, W1 = w2.alloc (.cells (List.replicate 8 (Value.int .u32 0)).toArray 175) := ⟨_, rfl⟩
      have oW1 : Only [] w2 W1 := by rw [hW1]; exact Only.alloc _ _
      have r11 : Row W1 w2.heap.size 175 (List.replicate 8 (Value.int .u32 0)) := by rw [hW1]; exact Row.new _ _ _
      have hst11 := r11.storeAt (P := Tryd.prog) (ty := 175) (us := u32s st.l) (by rw [u32s_length]; exact infoA8) (by rw [u32s_length]; rfl) (fun u hu => u32s_one hu)
      have r11' := r11.setRow (u32s st.l)
      have oW2 : Only [w2.heap.size] W1 (W1.setRow w2.heap.size (u32s st.l).toArray) := Only.setRow _ _ _
      have r6' := (r6.only0 oW1).only oW2 (by simp; omega)
      have r3' := (r3.only0 oW1).only oW2 (by simp; omega)
      have ho3 := (ho2.trans0 oW1).transN oW2 (by simp; omega)
      have Hst11 := Lib.hid hst11
      have Hld := Lib.hid hld
      have R11 := Lib.hid r11'
      have R6b := Lib.hid r6'
      have R3b := Lib.hid r3'
      have Ho3 := Lib.hid ho3
      have hlS := sched_len bs Hlen.out
      have HlS := Lib.hid hlS
      clear hst11 hld r11 r11' oW1 oW2 r6' r3' ho3 r6 r3 ho2 o2 hlS
      subst hW1
      go_wp2_with (first | ((with_reducible show wpList _ _ _ _ _ _); refine wpl_load (ty := 175) (x := .tmp 3) rfl rfl rfl Hld.out ?_) | ((with_reducible show wpList _ _ _ _ _ _); refine wpl_store (ty := 175) (x := .tmp 11) (y := .tmp 102) rfl rfl rfl rfl Hst11.out ?_))
      clear Hst11 Hld
      refine refLoop4 g6 w2.heap.size (sched bs) st _ HlS.out R6b.out R11.out (by omega) ?_
      intros
      rename_i w4 r11 o4
      have r3 := R3b.out.only o4 (by simp; omega)
      have ho4 := Ho3.out.transN o4 (by simp; omega)
      have Hr11 := Lib.hid r11
      have Hr3 := Lib.hid r3
      have Ho4 := Lib.hid ho4
      clear r11 o4 r3 ho4 R11 R6b R3b Ho3
      go_wp2_with fail
      refine refLoop6 g3 w2.heap.size st.l (rnds st shaK (sched bs)).l w4 rfl rfl Hr3.out Hr11.out (by omega) ?_
      intros
      rename_i w5 r3 o5
      rw [add_comm_l] at r3
      have hd : (rnds st shaK (sched bs)).add st = digN s0 (j + 1) Y := by rw [← Hdig.out, ← Hst.out]; rfl
      rw [hd] at r3
      have Hr5 := Lib.hid r3
      have Ho5 := Lib.hid (Ho4.out.trans o5 (fun i hi _ => hi))
      clear r3 o5 hd Hr11 Hr3 Ho4
      go_wp2_with fail
      refine ⟨⟨j + 1, at_ + 64, digN s0 (j + 1) Y, by go_num, by omega, Lib.hid (by have := Hat.out; omega), Lib.hid rfl, Hr5, Ho5⟩, by simp [intOf]; omega⟩
    · have hjj : j = n4 / 64 := by have := Hat.out; omega
      have hge : ¬ (at_ : Int) < (n4 : Int) := by omega
      have r := R.out
      rw [Hst.out, hjj] at r
      have Hr := Lib.hid r
      clear r R Hst hjj hj
      go_wp2_with fail
      exact Hexit.out _ _ _ _ _ _ _ _ _ _ _ _ _ _ _ _ _ _ _ _ _ _ _ _ _ _ _ _ _ _ _ _ _ _ _ _ _ _ _ _ _ _ _ _ _ _ _ _ _ _ _ _ _ _ _ _ _ _ _ _ _ _ _ _ _ _ _ _ _ _ _ _ _ _ _ _ _ _ _ _ _ _ _ _ _ _ _ _ _ _ _ _ _ _ _ _ _ _ _ _ _ _ _ _ _ _ _ _ _ _ _ _ _ _ _ _ _ _ _ _ _ _ _ _ _ _ _ _ _ _ _ _ _ _ _ _ _ _ _ _ _ _ _ _ _ _ _ _ _ _ _ _ _ _ _ _ _ _ _ _ _ _ _ _ _ _ _ _ _ _ _ _ _ _ _ _ _ _ _ _ _ _ _ _ _ _ _ _ _ _ _ _ _ _ wr Hr.out Ho.out
end Go.Proofs.YtfoplbolbjcggaaDoor
end
section
set_option linter.unusedVariables false
namespace Go.Proofs.YtfoplbolbjcggaaDoor
open Go.RowKit

theorem outB_byte (s : St) (i : Nat) (x : UInt32) (hi : i < 32) (h : s.l[i / 4]? = some x) : ∃ y : UInt8, (outB s)[i]? = some y ∧ (x.toNat : Int) / 2 ^ (24 - 8 * (i % 4)) % 256 = (y.toNat : Int) := by
  obtain ⟨h0, h1, h2, h3⟩ := outB_at s (i / 4) x h
  have hy : ∀ a : Nat, ((UInt8.ofNat a).toNat : Int) = (a : Int) % 256 := fun a => by rw [UInt8.toNat_ofNat']; omega
  rcases (by omega : i % 4 = 0 ∨ i % 4 = 1 ∨ i % 4 = 2 ∨ i % 4 = 3) with e | e | e | e
  · exact ⟨_, by rw [← h0]; congr 1; omega, by rw [e, hy]; simp⟩
  · exact ⟨_, by rw [← h1]; congr 1; omega, by rw [e, hy]; simp⟩
  · exact ⟨_, by rw [← h2]; congr 1; omega, by rw [e, hy]; simp⟩
  · exact ⟨_, by rw [← h3]; congr 1; omega, by rw [e, hy]; simp⟩
set_option maxRecDepth 1000000 in
set_option maxHeartbeats 4000000 in
theorem refLoop7 {Q : Exit → Act → World → Prop} {c0 c1 c2 c4 c5 c6 c7 c8 c9 c10 c11 c12 c13 c14 c15 c16 c17 c18 c20 c21 c22 c23 c24 c25 c26 c27 c28 c29 c30 c31 c32 c33 c34 c35 c36 c37 c38 c39 c40 c41 c42 c43 c44 c45 c46 c47 c48 c49 c50 c51 c52 c53 c54 c55 c56 c57 c58 c59 c60 c61 c62 c63 c64 c65 c66 c67 c68 c69 c70 c71 c72 c73 c74 c75 c76 c77 c78 c79 c80 c81 c82 c83 c84 c85 c86 c87 c88 c89 c90 c91 c92 c93 c94 c95 c96 c97 c98 c99 c100 c101 c102 c103 c104 c105 c106 c107 c108 c109 c110 c111 c112 c113 c114 c115 c116 c117 c118 c119 c120 c121 c122 c123 c124 c125 c126 c127 c128 c129 c130 c131 c132 c133 c134 c135 c136 c137 c138 c139 c140 c141 c142 c143 c144 c145 c146 c147 c148 c149 c150 c151 c152 c153 c154 c155 c156 c157 c158 c159 c160 c161 c162 c163 c164 c165 c166 c167 c168 c169 c170 c171 c172 c173 c174 c175 c176 c177 c178 c179 c180 c181 c182 c183 c184 c185 c186 c187 c188 c189 c190 c191 c192 c193 c194 c195 c196 c197 c198 c199 c200 c201 c202 c203 c205 c206 c207 c208 c209 c210 c211 c212 c213 c214 c215 c216 c217 c218 c219 c220 c221 : Value} (g3 g19 : Nat) (s : St) (w0 : World) (hrow3 : Row w0 g3 175 (u32s s.l)) (hrow : Row w0 g19 122 (u8s (List.replicate 32 0))) (hg : g3 ≠ g19)
    (hexit : ∀ (u20 u204 u205 u206 u207 u208 u209 u210 u211 u212 u213 u214 u215 u216 u217 u218 u219 u220 : Value) (w' : World), Row w' g19 122 (u8s (outB s)) → Only [g19] w0 w' → Q (.exit 12) ⟨(c0 :: c1 :: c2 :: .pointer (some ⟨g3, 0, none⟩) :: c4 :: c5 :: c6 :: c7 :: c8 :: c9 :: c10 :: c11 :: c12 :: c13 :: c14 :: c15 :: c16 :: c17 :: c18 :: .pointer (some ⟨g19, 0, none⟩) :: u20 :: c21 :: c22 :: c23 :: c24 :: c25 :: c26 :: c27 :: c28 :: c29 :: c30 :: c31 :: c32 :: c33 :: c34 :: c35 :: c36 :: c37 :: c38 :: c39 :: c40 :: c41 :: c42 :: c43 :: c44 :: c45 :: c46 :: c47 :: c48 :: c49 :: c50 :: c51 :: c52 :: c53 :: c54 :: c55 :: c56 :: c57 :: c58 :: c59 :: c60 :: c61 :: c62 :: c63 :: c64 :: c65 :: c66 :: c67 :: c68 :: c69 :: c70 :: c71 :: c72 :: c73 :: c74 :: c75 :: c76 :: c77 :: c78 :: c79 :: c80 :: c81 :: c82 :: c83 :: c84 :: c85 :: c86 :: c87 :: c88 :: c89 :: c90 :: c91 :: c92 :: c93 :: c94 :: c95 :: c96 :: c97 :: c98 :: c99 :: c100 :: c101 :: c102 :: c103 :: c104 :: c105 :: c106 :: c107 :: c108 :: c109 :: c110 :: c111 :: c112 :: c113 :: c114 :: c115 :: c116 :: c117 :: c118 :: c119 :: c120 :: c121 :: c122 :: c123 :: c124 :: c125 :: c126 :: c127 :: c128 :: c129 :: c130 :: c131 :: c132 :: c133 :: c134 :: c135 :: c136 :: c137 :: c138 :: c139 :: c140 :: c141 :: c142 :: c143 :: c144 :: c145 :: c146 :: c147 :: c148 :: c149 :: c150 :: c151 :: c152 :: c153 :: c154 :: c155 :: c156 :: c157 :: c158 :: c159 :: c160 :: c161 :: c162 :: c163 :: c164 :: c165 :: c166 :: c167 :: c168 :: c169 :: c170 :: c171 :: c172 :: c173 :: c174 :: c175 :: c176 :: c177 :: c178 :: c179 :: c180 :: c181 :: c182 :: c183 :: c184 :: c185 :: c186 :: c187 :: c188 :: c189 :: c190 :: c191 :: c192 :: c193 :: c194 :: c195 :: c196 :: c197 :: c198 :: c199 :: c200 :: c201 :: c202 :: c203 :: u204 :: u205 :: u206 :: u207 :: u208 :: u209 :: u210 :: u211 :: u212 :: u213 :: u214 :: u215 :: u216 :: u217 :: u218 :: u219 :: u220 :: c221 :: []).toArray, []⟩ w') :
    Code.wp Tryd.prog (refSumLoop 6) Q ⟨(c0 :: c1 :: c2 :: .pointer (some ⟨g3, 0, none⟩) :: c4 :: c5 :: c6 :: c7 :: c8 :: c9 :: c10 :: c11 :: c12 :: c13 :: c14 :: c15 :: c16 :: c17 :: c18 :: .pointer (some ⟨g19, 0, none⟩) :: c20 :: c21 :: c22 :: c23 :: c24 :: c25 :: c26 :: c27 :: c28 :: c29 :: c30 :: c31 :: c32 :: c33 :: c34 :: c35 :: c36 :: c37 :: c38 :: c39 :: c40 :: c41 :: c42 :: c43 :: c44 :: c45 :: c46 :: c47 :: c48 :: c49 :: c50 :: c51 :: c52 :: c53 :: c54 :: c55 :: c56 :: c57 :: c58 :: c59 :: c60 :: c61 :: c62 :: c63 :: c64 :: c65 :: c66 :: c67 :: c68 :: c69 :: c70 :: c71 :: c72 :: c73 :: c74 :: c75 :: c76 :: c77 :: c78 :: c79 :: c80 :: c81 :: c82 :: c83 :: c84 :: c85 :: c86 :: c87 :: c88 :: c89 :: c90 :: c91 :: c92 :: c93 :: c94 :: c95 :: c96 :: c97 :: c98 :: c99 :: c100 :: c101 :: c102 :: c103 :: c104 :: c105 :: c106 :: c107 :: c108 :: c109 :: c110 :: c111 :: c112 :: c113 :: c114 :: c115 :: c116 :: c117 :: c118 :: c119 :: c120 :: c121 :: c122 :: c123 :: c124 :: c125 :: c126 :: c127 :: c128 :: c129 :: c130 :: c131 :: c132 :: c133 :: c134 :: c135 :: c136 :: c137 :: c138 :: c139 :: c140 :: c141 :: c142 :: c143 :: c144 :: c145 :: c146 :: c147 :: c148 :: c149 :: c150 :: c151 :: c152 :: c153 :: c154 :: c155 :: c156 :: c157 :: c158 :: c159 :: c160 :: c161 :: c162 :: c163 :: c164 :: c165 :: c166 :: c167 :: c168 :: c169 :: c170 :: c171 :: c172 :: c173 :: c174 :: c175 :: c176 :: c177 :: c178 :: c179 :: c180 :: c181 :: c182 :: c183 :: c184 :: c185 :: c186 :: c187 :: c188 :: c189 :: c190 :: c191 :: c192 :: c193 :: c194 :: c195 :: c196 :: c197 :: c198 :: c199 :: c200 :: c201 :: c202 :: c203 :: .int .i64 0 :: c205 :: c206 :: c207 :: c208 :: c209 :: c210 :: c211 :: c212 :: c213 :: c214 :: c215 :: c216 :: c217 :: c218 :: c219 :: c220 :: c221 :: []).toArray, []⟩ w0 := by
  conv => arg 2; whnf
  have hlA := outB_len s
  have hby := outB_byte s
  obtain ⟨A, hA⟩ : ∃ A, A = outB s := ⟨_, rfl⟩
  rw [← hA] at hlA hexit
  simp only [← hA] at hby
  have Hexit := Lib.hid hexit
  have Hrow : Hid (Row w0 g19 122 (u8s (fill32 A 0))) := Lib.hid hrow
  have Hrow3 := Lib.hid hrow3
  have HlA := Lib.hid hlA
  have Hby := Lib.hid hby
  clear hexit hrow hrow3 hlA hby hA
  go_loopw [204] (fun i wr => ∃ j : Nat, i = .int .i64 (j : Int) ∧ j ≤ 32 ∧ Hid (Row wr g19 122 (u8s (fill32 A j))) ∧ Hid (Only [g19] w0 wr)) (fun i _ => 32 - (intOf i).toNat)
  case atStart => exact ⟨0, rfl, by omega, Hrow, Lib.hid (Only.refl _ _)⟩
  case round =>
    clear Hrow
    obtain ⟨j, rfl, hj, R, Ho⟩ := hrel
    by_cases hlt : j < 32
    · obtain ⟨x, hx⟩ : ∃ x, s.l[j / 4]? = some x := ⟨_, List.getElem?_eq_getElem (by show j / 4 < 8; omega)⟩
      obtain ⟨y, hy, hyv⟩ := Hby.out j x hlt hx
      have hcx := Ho.out.cell (Hrow3.out.cell (u32s_get hx)) (by simp; exact hg)
      have hset := fill32_set A HlA.out hy
      have hlF := fill32_len A HlA.out j (by omega)
      obtain ⟨v0, hc0⟩ : ∃ v, wr.cell? ⟨g19, j, none⟩ = some v := ⟨_, R.out.cell (List.getElem?_eq_getElem (by rw [u8s_length, hlF]; exact hlt))⟩
      have hf0 := R.out.free j
      have r2 := R.out.setCell j (Go.Proofs.YtfoplbolbjcggaaDoor.u8 y)
      rw [u8s_set, hset] at r2
      have o2 : Only [g19] wr (wr.setCell ⟨g19, j, none⟩ (Go.Proofs.YtfoplbolbjcggaaDoor.u8 y)) := Only.setCell _ ⟨g19, j, none⟩ _
      have R2 := Lib.hid r2
      have Ho2 := Lib.hid (Ho.out.trans o2 (fun i hi _ => hi))
      have hji : (j : Int) < 32 := by omega
      have hq1 : (j : Int) / 4 < 8 := by omega
      have hq2 : (0 : Int) ≤ (j : Int) / 4 := by omega
      have hq3 : ((j : Int) / 4).toNat = j / 4 := by omega
      have hr1 : (0 : Int) ≤ 24 - 8 * ((j : Int) % 4) := by omega
      have hr2 : (24 - 8 * ((j : Int) % 4)).toNat = 24 - 8 * (j % 4) := by omega
      clear hx hy hset hlF r2 o2 R Ho
      go_wp2_with fail
      refine ⟨⟨j + 1, by go_num, by omega, R2, Ho2⟩, by simp [intOf]; omega⟩
    · obtain rfl : j = 32 := by omega
      have r := R.out
      have hfull : fill32 A 32 = A := by unfold fill32; rw [List.take_of_length_le (by rw [HlA.out]; exact Nat.le_refl _)]; simp
      rw [hfull] at r
      have Hr := Lib.hid r
      clear r R hfull
      go_wp2_with fail
      exact Hexit.out _ _ _ _ _ _ _ _ _ _ _ _ _ _ _ _ _ _ wr Hr.out Ho.out
end Go.Proofs.YtfoplbolbjcggaaDoor
end
section
set_option linter.unusedVariables false
namespace Go.Proofs.YtfoplbolbjcggaaDoor
open Go.RowKit

set_option maxRecDepth 100000 in
set_option maxHeartbeats 4000000 in
theorem message_any (p : Option Addr) (xs : List UInt8) (n c : Nat) (ww : World) (hn : xs.length = n) (hb : n + 80 ≤ 140737488355328) (hp : p = none → n = 0 ∧ c = 0) (hx : Rd ww p (u8s xs)) :
    Calls Tryd.prog 96 #[.slice p n c] ww fun e w' => ∃ p' m c', e = .returned (.slice p' m c') ∧ Own w' ww.heap.size 5 (.slice p' m c') (u8s (xs ++ tailB n)) ∧ Only [] ww w' := by
  obtain ⟨wa, hwa⟩ : ∃ wa, wa = ww.alloc (.cells #[] 5) := ⟨_, rfl⟩
  have hoa : Only [] ww wa := by rw [hwa]; exact Only.alloc _ _
  have owa : Own wa ww.heap.size 5 (.slice (some ⟨ww.heap.size, 0, none⟩) 0 0) [] := by
    rw [hwa]; exact Own.ofRow (vs := []) (rest := []) (Nat.le_refl _) (Row.new ww 5 []) rfl (by omega)
  obtain ⟨p1, c1, w1, hr1, o1, h1, hp1⟩ := append_owned (P := Tryd.prog) (n := 0) (m := n) (c := c) (bytes := 1) (q := p) (news := u8s xs) (t := 22) (ty := 22) wa Tryd.underlying22 infoU8s rfl owa (hx.only0 hoa) (by rw [u8s_length, hn]) hp (fun v hv => u8s_one hv) (by omega) (by omega) hoa.size
  rw [Nat.zero_add] at hr1 o1
  rw [List.nil_append] at o1
  have ho1 : Only [] ww w1 := hoa.transN h1 (by simp [blk])
  obtain ⟨p2, c2, w2, Hr2, o2, h2⟩ := push1 w1 ww.heap.size p1 n c1 xs 128 o1 (by omega) ho1.size
  have ho2 : Only [] ww w2 := ho1.transN h2 o1.blk
  have Hr1 := Lib.hid hr1
  have O2 := Lib.hid o2
  have Ho2 := Lib.hid ho2
  have Hn := Lib.hid hn
  clear hr1 h1 hp1 h2 ho1 owa o1 o2 ho2 hx hn hoa
  subst hwa
  go_enter Tryd.func96, Tryd.ntmps96
  go_wp2_with (first | (at_builtin; refine wpl_append (s := .tmp 6) (x := .tmp 7) rfl rfl rfl rfl Hr1.out ?_) | (at_builtin; refine wpl_append (s := .tmp 8) (x := .tmp 9) rfl rfl rfl rfl Hr2.out ?_))
  obtain ⟨zz, hzz⟩ : ∃ zz, zz = zeros n := ⟨_, rfl⟩
  have hz1 : 0 + (120 - (n + 1 + 0) % 64) % 64 = zz := by rw [hzz]; unfold zeros; omega
  have Hzz := Lib.hid hzz
  clear hzz Hr1 Hr2
  go_loopw [3] (fun v wr => ∃ (k : Nat) (p : Option Addr) (c : Nat), v = .slice p (n + 1 + k) c ∧ Hid (k + (120 - (n + 1 + k) % 64) % 64 = zz) ∧ Hid (Own wr ww.heap.size 5 (.slice p (n + 1 + k) c) (u8s (xs ++ [128] ++ List.replicate k 0))) ∧ Hid (Only [] ww wr)) (fun v _ => match v with | .slice _ n _ => (120 - n % 64) % 64 | _ => 0)
  case atStart => exact ⟨0, p2, c2, rfl, Lib.hid hz1, Lib.hid (by simpa using O2.out), Ho2⟩
  case round =>
    clear O2 Ho2 hz1
    obtain ⟨k, p, c, rfl, hk, O, Ho⟩ := hrel
    have hkz : k ≤ zz := by have := hk.out; omega
    have hzl : zz < 64 := by rw [Hzz.out]; unfold zeros; omega
    by_cases h56 : (n + 1 + k) % 64 = 56
    · have hd : (((n : Int) + 1 + (k : Int)) % 64 != 56) = false := by
        have : ((n : Int) + 1 + (k : Int)) % 64 = 56 := by omega
        rw [this]; rfl
      obtain rfl : k = zz := by have := hk.out; omega
      have hu1 : IntKind.u64.wrap (n : Int) = (n : Int) := by simp [IntKind.wrap, IntKind.bits, IntKind.signed]; omega
      obtain ⟨M, hM⟩ : ∃ M, M = 8 * n := ⟨_, rfl⟩
      have hu2 : IntKind.u64.wrap ((n : Int) * 8) = (M : Int) := by simp [IntKind.wrap, IntKind.bits, IntKind.signed]; omega
      have hMb : M < 18446744073709551616 := by omega
      have HM := Lib.hid hM
      clear hM hk
      go_wp2_with fail
      have hE : xs ++ [128] ++ List.replicate k 0 ++ be64 M = xs ++ tailB n := by
        rw [HM.out]; unfold tailB; rw [← Hzz.out]; simp
      generalize xs ++ [128] ++ List.replicate k 0 = E at O hE
      obtain ⟨e, he⟩ : ∃ e, e = n + 1 + k := ⟨_, rfl⟩
      rw [← he] at O ⊢
      have hel : e + 8 ≤ 140737488355328 := by omega
      have HE := Lib.hid hE
      have hBt : (be64 M).length = 8 := rfl
      obtain ⟨T, hT⟩ : ∃ T, T = be64 M := ⟨_, rfl⟩
      rw [← hT] at hBt HE
      have HT := Lib.hid hT
      have HBt := Lib.hid hBt
      clear hE hT hBt hu1 hu2
      go_loopw [3, 5] (fun v i wr => ∃ (q : Nat) (p : Option Addr) (c : Nat), v = .slice p (e + q) c ∧ i = .int .i64 (q : Int) ∧ q ≤ 8 ∧ Hid (Own wr ww.heap.size 5 (.slice p (e + q) c) (u8s (E ++ T.take q))) ∧ Hid (Only [] ww wr)) (fun v i _ => 8 - (intOf i).toNat)
      case atStart => exact ⟨0, p, c, rfl, rfl, by omega, Lib.hid (by simpa using O.out), Ho⟩
      case round =>
        clear O Ho he
        obtain ⟨q, p, c, rfl, rfl, hq, O, Ho⟩ := hrel
        by_cases hq8 : q < 8
        · obtain ⟨x, hx⟩ : ∃ x, T[q]? = some x := ⟨_, List.getElem?_eq_getElem (by rw [HBt.out]; exact hq8)⟩
          obtain ⟨p', c', w2, Hr, O', h'⟩ := push1 wr ww.heap.size p (e + q) c _ x O.out (by omega) Ho.out.size
          have O' := Lib.hid O'
          have Ho' := Lib.hid (Ho.out.transN h' O.out.blk)
          have hq8' : (q : Int) < 8 := by omega
          have hi1 : (0 : Int) ≤ 56 - 8 * (q : Int) := by omega
          have hwne : ¬ IntKind.u64.wrap ((2 : Int) ^ (56 - 8 * q)) = 0 := by
            rcases (by omega : q = 0 ∨ q = 1 ∨ q = 2 ∨ q = 3 ∨ q = 4 ∨ q = 5 ∨ q = 6 ∨ q = 7) with rfl | rfl | rfl | rfl | rfl | rfl | rfl | rfl <;> decide
          have hxv : IntKind.u64.wrap ((M : Int) / IntKind.u64.wrap (2 ^ (56 - 8 * q))) % 256 = (x.toNat : Int) := by
            have h := be64_at M q x hq8 (by rw [← HT.out]; exact hx)
            have hw : IntKind.u64.wrap ((2 : Int) ^ (56 - 8 * q)) = 2 ^ (56 - 8 * q) := by
              rcases (by omega : q = 0 ∨ q = 1 ∨ q = 2 ∨ q = 3 ∨ q = 4 ∨ q = 5 ∨ q = 6 ∨ q = 7) with rfl | rfl | rfl | rfl | rfl | rfl | rfl | rfl <;> decide
            have hq1 : (1 : Int) ≤ 2 ^ (56 - 8 * q) := by
              rcases (by omega : q = 0 ∨ q = 1 ∨ q = 2 ∨ q = 3 ∨ q = 4 ∨ q = 5 ∨ q = 6 ∨ q = 7) with rfl | rfl | rfl | rfl | rfl | rfl | rfl | rfl <;> decide
            have h0 : 0 ≤ (M : Int) / 2 ^ (56 - 8 * q) := Int.ediv_nonneg (by omega) (by omega)
            have h1 : (M : Int) / 2 ^ (56 - 8 * q) ≤ M := Int.ediv_le_self _ (by omega)
            have hw2 : IntKind.u64.wrap ((M : Int) / 2 ^ (56 - 8 * q)) = (M : Int) / 2 ^ (56 - 8 * q) := by
              obtain ⟨z, hz⟩ : ∃ z : Nat, (M : Int) / 2 ^ (56 - 8 * q) = (z : Int) := ⟨((M : Int) / 2 ^ (56 - 8 * q)).toNat, by omega⟩
              rw [hz] at h1 ⊢
              simp [IntKind.wrap, IntKind.bits, IntKind.signed]; omega
            rw [hw, hw2]; exact h
          have Hx := Lib.hid hx
          clear hx h' O Ho
          go_wp2_with (first | (at_builtin; refine wpl_append (s := .tmp 26) (x := .tmp 35) rfl rfl rfl rfl Hr.out ?_))
          refine ⟨⟨q + 1, p', c', by rw [Nat.add_assoc e], by go_num, by omega, Lib.hid ?_, Ho'⟩, by simp [intOf]; omega⟩
          rw [List.take_add_one, Hx.out, ← Nat.add_assoc, ← List.append_assoc]
          exact O'.out
        · obtain rfl : q = 8 := by omega
          go_wp2_with fail
          go_ret
          refine ⟨p, e + 8, c, rfl, ?_, Ho.out⟩
          have := O.out
          rw [List.take_of_length_le (by rw [HBt.out]; exact Nat.le_refl _), HE.out] at this
          exact this
    · have hd : (((n : Int) + 1 + (k : Int)) % 64 != 56) = true := by
        have : ((n : Int) + 1 + (k : Int)) % 64 ≠ 56 := by omega
        simpa using this
      obtain ⟨p', c', w2, Hr, O', h'⟩ := push1 wr ww.heap.size p (n + 1 + k) c _ 0 O.out (by omega) Ho.out.size
      have O2 := Lib.hid O'
      have Ho' := Lib.hid (Ho.out.transN h' O.out.blk)
      clear O' h'
      go_wp2_with (first | (at_builtin; refine wpl_append (s := .tmp 15) (x := .tmp 16) rfl rfl rfl rfl Hr.out ?_))
      go_roundw
      case rel => exact ⟨k + 1, p', c', by rw [Nat.add_assoc (n + 1)], Lib.hid (by have := hk.out; omega), Lib.hid (by rw [← Nat.add_assoc, List.replicate_succ']; rw [← List.append_assoc]; exact O2.out), Ho'⟩
      case measure => simp; omega
end Go.Proofs.YtfoplbolbjcggaaDoor
end
section
set_option linter.unusedVariables false
namespace Go.Proofs.YtfoplbolbjcggaaDoor
open Go.RowKit

set_option maxRecDepth 1000000 in
set_option maxHeartbeats 16000000 in
theorem refSum_any (p : Option Addr) (xs : List UInt8) (n c : Nat) (ww : World) (hn : xs.length = n) (hb : n + 80 ≤ 140737488355328) (hp : p = none → n = 0 ∧ c = 0) (hx : Rd ww p (u8s xs)) :
    Calls Tryd.prog 67 #[.slice p n c] ww fun e w' => e = .returned (.agg (u8s (shaB xs)).toArray) ∧ Only [] ww w' := by
  obtain ⟨A, hA⟩ : ∃ A, A = shaB xs := ⟨_, rfl⟩
  have hans : A = outB (digN st0 ((n + 72) / 64) (xs ++ tailB n)) := by rw [hA, ← hn]; rfl
  rw [← hA]
  obtain ⟨w0, hw0⟩ : ∃ w0, w0 = (ww.alloc (.cells #[.int .u8 0, .int .u8 0, .int .u8 0, .int .u8 0, .int .u8 0, .int .u8 0, .int .u8 0, .int .u8 0, .int .u8 0, .int .u8 0, .int .u8 0, .int .u8 0, .int .u8 0, .int .u8 0, .int .u8 0, .int .u8 0, .int .u8 0, .int .u8 0, .int .u8 0, .int .u8 0, .int .u8 0, .int .u8 0, .int .u8 0, .int .u8 0, .int .u8 0, .int .u8 0, .int .u8 0, .int .u8 0, .int .u8 0, .int .u8 0, .int .u8 0, .int .u8 0] 122)).alloc (.cells (List.replicate 8 (Value.int .u32 0)).toArray 175) := ⟨_, rfl⟩
  have ho0 : Only [] ww w0 := by rw [hw0]; exact (Only.alloc _ _).trans0 (Only.alloc _ _)
  have rz : Row w0 ww.heap.size 122 (u8s (List.replicate 32 0)) := by rw [hw0]; exact (Row.newOf _ _ _ _ (by rfl)).only0 (Only.alloc _ _)
  have r3 : Row w0 (ww.heap.size + 1) 175 (List.replicate 8 (Value.int .u32 0)) := by rw [hw0]; exact Row.newAt _ _ _ (by simp)
  have hst3 := r3.storeAt (P := Tryd.prog) (ty := 175) (us := u32s st0.l) (by rw [u32s_length]; exact infoA8) (by rw [u32s_length]; rfl) (fun u hu => u32s_one hu)
  have r3' := r3.setRow (u32s st0.l)
  have o3 : Only [ww.heap.size + 1] w0 (w0.setRow (ww.heap.size + 1) (u32s st0.l).toArray) := Only.setRow _ _ _
  have rz1 := rz.only o3 (by simp)
  have ho1 : Only [] ww (w0.setRow (ww.heap.size + 1) (u32s st0.l).toArray) := ho0.transN o3 (by simp)
  have hmsg := message_any p xs n c (w0.setRow (ww.heap.size + 1) (u32s st0.l).toArray) hn hb hp (hx.only0 ho1)
  have Hst3 := Lib.hid hst3
  have R3 := Lib.hid r3'
  have Rz := Lib.hid rz1
  have Ho1 := Lib.hid ho1
  have Hans := Lib.hid hans
  have Hmsg := Lib.hid hmsg
  have hl := tail_len n
  have hz3 := r3'.lt
  clear hst3 r3' rz1 ho1 hans hmsg r3 rz o3 ho0 hA hx
  subst hw0
  go_enter Tryd.func67, Tryd.ntmps67
  go_wp2_with (first | ((with_reducible show wpList _ _ _ _ _ _); refine wpl_build (t := 175) (cells := (u32s st0.l).toArray) rfl rfl (by kernel_rfl) ?_) | ((with_reducible show wpList _ _ _ _ _ _); refine wpl_store (ty := 175) (x := .tmp 3) (y := .tmp 21) rfl rfl rfl rfl Hst3.out ?_))
  clear Hst3
  refine Hmsg.out.mono ?_
  rintro e w1 ⟨p', m, c', rfl, om, h1⟩
  have hv := om.view
  have hml : (xs ++ tailB n).length = m := by have := hv.2.1; rwa [u8s_length] at this
  have hmt : m = n + (tailB n).length := by rw [← hml, List.length_append, hn]
  have hm0 : 0 < m := by have := hl.2; omega
  obtain ⟨b4, rfl, hb4, hb4l⟩ := om.at hm0
  have hmc : m ≤ c' := hv.2.2.2.1
  have hcm : c' ≤ 9223372036854775807 := hv.2.2.2.2.1
  obtain ⟨Y, hY⟩ : ∃ Y, Y = xs ++ tailB n := ⟨_, rfl⟩
  rw [← hY] at om hml hv
  have HA : Hid (A = outB (digN st0 (m / 64) Y)) := Lib.hid (by rw [Hans.out, hY, hmt, hl.2])
  have hm64 : m % 64 = 0 := by rw [hmt]; exact hl.1
  have hcell : ∀ i (hi : i < Y.length), w1.cell? ⟨b4, 0 + i, none⟩ = some (.int .u8 ((Y[i]).toNat : Int)) := fun i hi => by
    rw [Nat.zero_add]; exact om.cellAt (u8s_get hi)
  have htl : (tailB n).length = 9 + zeros n := by simp [tailB, be64]; omega
  have hzr : zeros n < 64 := by unfold zeros; omega
  have hmb : m + 64 ≤ 9223372036854775807 := by omega
  have R3b := Lib.hid (R3.out.only0 h1)
  have Rzb := Lib.hid (Rz.out.only0 h1)
  have Ho2 := Lib.hid (Ho1.out.trans0 h1)
  have hne3 : b4 ≠ ww.heap.size + 1 := by omega
  have Hcell := Lib.hid hcell
  have Hml := Lib.hid hml
  clear om hv hcell hY hml Hans Hmsg R3 Rz Ho1 h1 hl htl hmt hb4 hz3
  go_wp2_with fail
  refine refLoop1 b4 0 m c' (ww.heap.size + 1) Y st0 w1 Hml.out hmb hm64 R3b.out hne3 hb4l Hcell.out ?_
  intros
  rename_i w2 r3 o2
  have rz2 := Rzb.out.only o2 (by simp)
  have ho2 := Ho2.out.transN o2 (by simp)
  obtain ⟨w3, hw3⟩ : ∃ w3, w3 = w2.alloc (.cells #[.int .u8 0, .int .u8 0, .int .u8 0, .int .u8 0, .int .u8 0, .int .u8 0, .int .u8 0, .int .u8 0, .int .u8 0, .int .u8 0, .int .u8 0, .int .u8 0, .int .u8 0, .int .u8 0, .int .u8 0, .int .u8 0, .int .u8 0, .int .u8 0, .int .u8 0, .int .u8 0, .int .u8 0, .int .u8 0, .int .u8 0, .int .u8 0, .int .u8 0, .int .u8 0, .int .u8 0, .int .u8 0, .int .u8 0, .int .u8 0, .int .u8 0, .int .u8 0] 122) := ⟨_, rfl⟩
  have o3 : Only [] w2 w3 := by rw [hw3]; exact Only.alloc _ _
  have r19 : Row w3 w2.heap.size 122 (u8s (List.replicate 32 0)) := by rw [hw3]; exact Row.newOf _ _ _ _ (by rfl)
  have hz2 := rz2.lt
  have h3l := r3.lt
  have R3c := Lib.hid (r3.only0 o3)
  have Rzc := Lib.hid (rz2.only0 o3)
  have R19 := Lib.hid r19
  have Ho3 := Lib.hid (ho2.trans0 o3)
  clear r3 o2 rz2 ho2 o3 r19 R3b Rzb Ho2 Hcell
  subst hw3
  go_wp2_with fail
  refine refLoop7 (ww.heap.size + 1) w2.heap.size (digN st0 (m / 64) Y) _ R3c.out R19.out (by omega) ?_
  rw [← HA.out]
  intros
  rename_i w4 r19 o4
  have hlA : A.length = 32 := by rw [HA.out]; rfl
  have rz4 := Rzc.out.only o4 (by simp; omega)
  have ho4 := Ho3.out.transN o4 (by simp; omega)
  have hsz : (Tryd.prog.info? 122).map (·.size) = some (u8s A).length := by rw [u8s_length, hlA]; kernel_rfl
  have hld := r19.loadAt (P := Tryd.prog) Tryd.underlying122 hsz
  have hst := rz4.storeAt (P := Tryd.prog) hsz (by rw [u8s_length, u8s_length, hlA]; rfl) (fun u hu => u8s_one hu)
  have hrow := rz4.setRow (u8s A)
  have hos : Only [ww.heap.size] w4 (w4.setRow ww.heap.size (u8s A).toArray) := Only.setRow _ _ _
  have Hfin := Lib.hid (ho4.transN hos (by simp))
  have Hrow := Lib.hid hrow
  have Hld := Lib.hid hld
  have Hst := Lib.hid hst
  have Hsz := Lib.hid hsz
  clear hld hst hrow hos ho4 rz4 r19 o4 hsz Rzc R3c R19 Ho3
  go_wp2_with (first | ((with_reducible show wpList _ _ _ _ _ _); refine wpl_load (ty := 122) (x := .tmp 19) rfl rfl rfl Hld.out ?_) | ((with_reducible show wpList _ _ _ _ _ _); refine wpl_store (ty := 122) (x := .tmp 2) (y := .tmp 221) rfl rfl rfl rfl Hst.out ?_))
  refine bodyPost_ret (results_cell_row (p := 2) rfl _ _ ww.heap.size 122 (u8s A).toArray (0, 0) _ (by rfl) Hrow.out Tryd.underlying122 rfl (by rw [List.size_toArray]; exact Hsz.out)) (by rfl) ?_
  exact ⟨rfl, Hfin.out⟩
end Go.Proofs.YtfoplbolbjcggaaDoor
end
