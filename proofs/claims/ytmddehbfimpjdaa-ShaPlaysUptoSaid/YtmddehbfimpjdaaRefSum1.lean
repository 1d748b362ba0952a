/- bollardref03.Sum: block by block. -/
import Derived.Test.YtmddehbfimpjdaaRefSum2
import Derived.Test.YtmddehbfimpjdaaRefSum4
import Derived.Test.YtmddehbfimpjdaaRefSum6
import Derived.Test.YtmddehbfimpjdaaShaHashW
set_option linter.unusedVariables false
namespace Go.Proofs.Ytmddehbfimpjdaa
open Go.RowKit

theorem add_comm_l (s r : St) : List.zipWith (· + ·) s.l r.l = (r.add s).l := by
  show [s.a + r.a, s.b + r.b, s.c + r.c, s.d + r.d, s.e + r.e, s.f + r.f, s.g + r.g, s.h + r.h] = [r.a + s.a, r.b + s.b, r.c + s.c, r.d + s.d, r.e + s.e, r.f + s.f, r.g + s.g, r.h + s.h]
  simp only [UInt32.add_comm]
theorem infoA8 : (Try.prog.info? 58).map (·.size) = some 8 := by kernel_rfl
set_option maxRecDepth 1000000 in
set_option maxHeartbeats 16000000 in
theorem refLoop1 {Q : Exit → Act → World → Prop} {c0 c1 c2 c6 c7 c8 c9 c10 c11 c12 c13 c14 c15 c16 c17 c18 c19 c20 c21 c22 c23 c24 c25 c26 c27 c28 c29 c30 c31 c32 c33 c34 c35 c36 c37 c38 c39 c40 c41 c42 c43 c44 c45 c46 c47 c48 c49 c50 c51 c52 c53 c54 c55 c56 c57 c58 c59 c60 c61 c62 c63 c64 c65 c66 c67 c68 c69 c70 c71 c72 c73 c74 c75 c76 c77 c78 c79 c80 c81 c82 c83 c84 c85 c86 c87 c88 c89 c90 c91 c92 c93 c94 c95 c96 c97 c98 c99 c100 c101 c102 c103 c104 c105 c106 c107 c108 c109 c110 c111 c112 c113 c114 c115 c116 c117 c118 c119 c120 c121 c122 c123 c124 c125 c126 c127 c128 c129 c130 c131 c132 c133 c134 c135 c136 c137 c138 c139 c140 c141 c142 c143 c144 c145 c146 c147 c148 c149 c150 c151 c152 c153 c154 c155 c156 c157 c158 c159 c160 c161 c162 c163 c164 c165 c166 c167 c168 c169 c170 c171 c172 c173 c174 c175 c176 c177 c178 c179 c180 c181 c182 c183 c184 c185 c186 c187 c188 c189 c190 c191 c192 c193 c194 c195 c196 c197 c198 c199 c200 c201 c202 c203 c204 c205 c206 c207 c208 c209 c210 c211 c212 c213 c214 c215 c216 c217 c218 c219 c220 c221 : Value} (b4 off4 n4 c4 g3 : Nat) (Y : List UInt8) (s0 : St) (w0 : World) (hY : Y.length = n4) (hn4 : n4 + 64 ≤ 9223372036854775807) (h64 : n4 % 64 = 0) (hrow : Row w0 g3 58 (u32s s0.l)) (hbg : b4 ≠ g3) (hb4 : b4 < w0.heap.size)
    (hm : ∀ i (hi : i < Y.length), w0.cell? ⟨b4, off4 + i, none⟩ = some (.int .u8 ((Y[i]).toNat : Int)))
    (hexit : ∀ (u5 u6 u7 u8 u9 u10 u11 u12 u13 u14 u15 u16 u17 u18 u24 u25 u26 u27 u28 u29 u30 u31 u32 u33 u34 u35 u36 u37 u38 u39 u40 u41 u42 u43 u44 u45 u46 u47 u48 u49 u50 u51 u52 u53 u54 u55 u56 u57 u58 u59 u60 u61 u62 u63 u64 u65 u66 u67 u68 u69 u70 u71 u72 u73 u74 u75 u76 u77 u78 u79 u80 u81 u82 u83 u84 u85 u86 u87 u88 u89 u90 u91 u92 u93 u94 u95 u96 u97 u98 u99 u100 u101 u102 u103 u104 u105 u106 u107 u108 u109 u110 u111 u112 u113 u114 u115 u116 u117 u118 u119 u120 u121 u122 u123 u124 u125 u126 u127 u128 u129 u130 u131 u132 u133 u134 u135 u136 u137 u138 u139 u140 u141 u142 u143 u144 u145 u146 u147 u148 u149 u150 u151 u152 u153 u154 u155 u156 u157 u158 u159 u160 u161 u162 u163 u164 u165 u166 u167 u168 u169 u170 u171 u172 u173 u174 u175 u176 u177 u178 u179 u180 u181 u182 u183 u184 u185 u186 u187 u188 u189 u190 u191 u192 u193 u194 u195 u196 u197 u198 u199 u200 u201 u202 u203 : Value) (w' : World), Row w' g3 58 (u32s (digN s0 (n4 / 64) Y).l) → Only [g3] w0 w' → Q (.exit 0) ⟨(c0 :: c1 :: c2 :: .pointer (some ⟨g3, 0, none⟩) :: .slice (some ⟨b4, off4, none⟩) n4 c4 :: u5 :: u6 :: u7 :: u8 :: u9 :: u10 :: u11 :: u12 :: u13 :: u14 :: u15 :: u16 :: u17 :: u18 :: c19 :: c20 :: c21 :: c22 :: c23 :: u24 :: u25 :: u26 :: u27 :: u28 :: u29 :: u30 :: u31 :: u32 :: u33 :: u34 :: u35 :: u36 :: u37 :: u38 :: u39 :: u40 :: u41 :: u42 :: u43 :: u44 :: u45 :: u46 :: u47 :: u48 :: u49 :: u50 :: u51 :: u52 :: u53 :: u54 :: u55 :: u56 :: u57 :: u58 :: u59 :: u60 :: u61 :: u62 :: u63 :: u64 :: u65 :: u66 :: u67 :: u68 :: u69 :: u70 :: u71 :: u72 :: u73 :: u74 :: u75 :: u76 :: u77 :: u78 :: u79 :: u80 :: u81 :: u82 :: u83 :: u84 :: u85 :: u86 :: u87 :: u88 :: u89 :: u90 :: u91 :: u92 :: u93 :: u94 :: u95 :: u96 :: u97 :: u98 :: u99 :: u100 :: u101 :: u102 :: u103 :: u104 :: u105 :: u106 :: u107 :: u108 :: u109 :: u110 :: u111 :: u112 :: u113 :: u114 :: u115 :: u116 :: u117 :: u118 :: u119 :: u120 :: u121 :: u122 :: u123 :: u124 :: u125 :: u126 :: u127 :: u128 :: u129 :: u130 :: u131 :: u132 :: u133 :: u134 :: u135 :: u136 :: u137 :: u138 :: u139 :: u140 :: u141 :: u142 :: u143 :: u144 :: u145 :: u146 :: u147 :: u148 :: u149 :: u150 :: u151 :: u152 :: u153 :: u154 :: u155 :: u156 :: u157 :: u158 :: u159 :: u160 :: u161 :: u162 :: u163 :: u164 :: u165 :: u166 :: u167 :: u168 :: u169 :: u170 :: u171 :: u172 :: u173 :: u174 :: u175 :: u176 :: u177 :: u178 :: u179 :: u180 :: u181 :: u182 :: u183 :: u184 :: u185 :: u186 :: u187 :: u188 :: u189 :: u190 :: u191 :: u192 :: u193 :: u194 :: u195 :: u196 :: u197 :: u198 :: u199 :: u200 :: u201 :: u202 :: u203 :: c204 :: c205 :: c206 :: c207 :: c208 :: c209 :: c210 :: c211 :: c212 :: c213 :: c214 :: c215 :: c216 :: c217 :: c218 :: c219 :: c220 :: c221 :: []).toArray, []⟩ w') :
    Code.wp Try.prog (refSumLoop 0) Q ⟨(c0 :: c1 :: c2 :: .pointer (some ⟨g3, 0, none⟩) :: .slice (some ⟨b4, off4, none⟩) n4 c4 :: .int .i64 0 :: c6 :: c7 :: c8 :: c9 :: c10 :: c11 :: c12 :: c13 :: c14 :: c15 :: c16 :: c17 :: c18 :: c19 :: c20 :: c21 :: c22 :: c23 :: c24 :: c25 :: c26 :: c27 :: c28 :: c29 :: c30 :: c31 :: c32 :: c33 :: c34 :: c35 :: c36 :: c37 :: c38 :: c39 :: c40 :: c41 :: c42 :: c43 :: c44 :: c45 :: c46 :: c47 :: c48 :: c49 :: c50 :: c51 :: c52 :: c53 :: c54 :: c55 :: c56 :: c57 :: c58 :: c59 :: c60 :: c61 :: c62 :: c63 :: c64 :: c65 :: c66 :: c67 :: c68 :: c69 :: c70 :: c71 :: c72 :: c73 :: c74 :: c75 :: c76 :: c77 :: c78 :: c79 :: c80 :: c81 :: c82 :: c83 :: c84 :: c85 :: c86 :: c87 :: c88 :: c89 :: c90 :: c91 :: c92 :: c93 :: c94 :: c95 :: c96 :: c97 :: c98 :: c99 :: c100 :: c101 :: c102 :: c103 :: c104 :: c105 :: c106 :: c107 :: c108 :: c109 :: c110 :: c111 :: c112 :: c113 :: c114 :: c115 :: c116 :: c117 :: c118 :: c119 :: c120 :: c121 :: c122 :: c123 :: c124 :: c125 :: c126 :: c127 :: c128 :: c129 :: c130 :: c131 :: c132 :: c133 :: c134 :: c135 :: c136 :: c137 :: c138 :: c139 :: c140 :: c141 :: c142 :: c143 :: c144 :: c145 :: c146 :: c147 :: c148 :: c149 :: c150 :: c151 :: c152 :: c153 :: c154 :: c155 :: c156 :: c157 :: c158 :: c159 :: c160 :: c161 :: c162 :: c163 :: c164 :: c165 :: c166 :: c167 :: c168 :: c169 :: c170 :: c171 :: c172 :: c173 :: c174 :: c175 :: c176 :: c177 :: c178 :: c179 :: c180 :: c181 :: c182 :: c183 :: c184 :: c185 :: c186 :: c187 :: c188 :: c189 :: c190 :: c191 :: c192 :: c193 :: c194 :: c195 :: c196 :: c197 :: c198 :: c199 :: c200 :: c201 :: c202 :: c203 :: c204 :: c205 :: c206 :: c207 :: c208 :: c209 :: c210 :: c211 :: c212 :: c213 :: c214 :: c215 :: c216 :: c217 :: c218 :: c219 :: c220 :: c221 :: []).toArray, []⟩ w0 := by
  conv => arg 2; whnf
  have Hexit := Lib.hid hexit
  have Hrow := Lib.hid hrow
  have HY := Lib.hid hY
  have Hm := Lib.hid hm
  have hg3 := hrow.lt
  clear hexit hrow hY hm
  go_loopw [5] (fun i wr => ∃ (j at_ : Nat) (st : St), i = .int .i64 (at_ : Int) ∧ at_ ≤ n4 ∧ Hid (at_ = 64 * j) ∧ Hid (st = digN s0 j Y) ∧ Hid (Row wr g3 58 (u32s st.l)) ∧ Hid (Only [g3] w0 wr)) (fun i _ => n4 - (intOf i).toNat)
  case atStart => exact ⟨0, 0, s0, rfl, by omega, Lib.hid rfl, Lib.hid rfl, Hrow, Lib.hid (Only.refl _ _)⟩
  case round =>
    clear Hrow
    obtain ⟨j, at_, st, rfl, hj, Hat, Hst, R, Ho⟩ := hrel
    by_cases hlt : at_ < n4
    · have hj64 : at_ + 64 ≤ n4 := by have := Hat.out; omega
      have hlt' : (at_ : Int) < (n4 : Int) := by omega
      obtain ⟨g6, w1, hmk, hg6, r6, o1⟩ := make_row (P := Try.prog) wr (t := 59) (e := 57) Try.underlying59 infoU32 rfl .i64 .i64 64 64 (Nat.le_refl _) (by omega) (by omega)
      have hmk2 : (Instr.makeSlice 59 (.int .i64 64) (.int .i64 64)).run Try.prog wr = .ok (.slice (some ⟨g6, 0, none⟩) 64 64) w1 := hmk
      have hsz := Ho.out.size
      have hb6 : b4 ≠ g6 := by omega
      have hlen : ((Y.drop (64 * j)).take 64).length = 64 := by rw [List.length_take, List.length_drop, HY.out, ← Hat.out]; omega
      have hdig : dig (digN s0 j Y) ((Y.drop (64 * j)).take 64) = digN s0 (j + 1) Y := by rw [digN_add j 1]; rfl
      have hyb : ∀ i, i < 64 → ((Y.drop (64 * j)).take 64)[i]? = some (Y.getD (at_ + i) 0) := fun i hi => by
        have hlti : at_ + i < Y.length := by rw [HY.out]; omega
        rw [List.getElem?_take, if_pos hi, List.getElem?_drop, ← Hat.out, List.getD_eq_getElem?_getD, List.getElem?_eq_getElem hlti]; rfl
      have hmb : ∀ i, i < 64 → w1.cell? ⟨b4, off4 + (at_ + i), none⟩ = some (.int .u8 ((Y.getD (at_ + i) 0).toNat : Int)) := fun i hi => by
        have hlti : at_ + i < Y.length := by rw [HY.out]; omega
        have := o1.cell (Ho.out.cell (Hm.out (at_ + i) hlti) (by simp; exact hbg)) (by simp)
        rw [List.getD_eq_getElem?_getD, List.getElem?_eq_getElem hlti]; exact this
      generalize hbs : (Y.drop (64 * j)).take 64 = bs at hlen hdig hyb
      have Hdig := Lib.hid hdig
      have Hmb := Lib.hid hmb
      have Hyb := Lib.hid hyb
      have Hlen := Lib.hid hlen
      have R1 := Lib.hid (R.out.only0 o1)
      have R6 := Lib.hid r6
      have Ho1 := Lib.hid (Ho.out.trans0 o1)
      have hg6l := r6.lt
      have hg36 : g3 ≠ g6 := by omega
      clear hdig hmb hyb hlen hbs hmk r6 R o1 Ho
      go_wp2_with fail
      clear hmk2
      refine refLoop2 b4 off4 n4 c4 at_ g6 bs (fun i => Y.getD (at_ + i) 0) w1 Hlen.out Hyb.out R6.out hb6 Hmb.out hj64 (by omega) ?_
      intros
      rename_i w2 r6 o2
      have r3 := R1.out.only o2 (by simp; exact hg36)
      have ho2 := Ho1.out.transN o2 (by simp; omega)
      have hsz2 := ho2.size
      have hg6w := r6.lt
      have hg3w := r3.lt
      have hld := r3.loadAt (P := Try.prog) Try.underlying58 (by rw [u32s_length]; exact infoA8)
      obtain ⟨W1, hW1⟩ : ∃ W1, W1 = w2.alloc (.cells (List.replicate 8 (Value.int .u32 0)).toArray 58) := ⟨_, rfl⟩
      have oW1 : Only [] w2 W1 := by rw [hW1]; exact Only.alloc _ _
      have r11 : Row W1 w2.heap.size 58 (List.replicate 8 (Value.int .u32 0)) := by rw [hW1]; exact Row.new _ _ _
      have hst11 := r11.storeAt (P := Try.prog) (ty := 58) (us := u32s st.l) (by rw [u32s_length]; exact infoA8) (by rw [u32s_length]; rfl) (fun u hu => u32s_one hu)
      have r11' := r11.setRow (u32s st.l)
      have oW2 : Only [w2.heap.size] W1 (W1.setRow w2.heap.size (u32s st.l).toArray) := Only.setRow _ _ _
      have r6' := (r6.only0 oW1).only oW2 (by simp; omega)
      have r3' := (r3.only0 oW1).only oW2 (by simp; omega)
      have ho3 := (ho2.trans0 oW1).transN oW2 (by simp; omega)
      have Hst11 := Lib.hid hst11
      have Hld := Lib.hid hld
      have R11 := Lib.hid r11'
      have R6b := Lib.hid r6'
      have R3b := Lib.hid r3'
      have Ho3 := Lib.hid ho3
      have hlS := sched_len bs Hlen.out
      have HlS := Lib.hid hlS
      clear hst11 hld r11 r11' oW1 oW2 r6' r3' ho3 r6 r3 ho2 o2 hlS
      subst hW1
      go_wp2_with (first | ((with_reducible show wpList _ _ _ _ _ _); refine wpl_load (ty := 58) (x := .tmp 3) rfl rfl rfl Hld.out ?_) | ((with_reducible show wpList _ _ _ _ _ _); refine wpl_store (ty := 58) (x := .tmp 11) (y := .tmp 102) rfl rfl rfl rfl Hst11.out ?_))
      clear Hst11 Hld
      refine refLoop4 g6 w2.heap.size (sched bs) st _ HlS.out R6b.out R11.out (by omega) ?_
      intros
      rename_i w4 r11 o4
      have r3 := R3b.out.only o4 (by simp; omega)
      have ho4 := Ho3.out.transN o4 (by simp; omega)
      have Hr11 := Lib.hid r11
      have Hr3 := Lib.hid r3
      have Ho4 := Lib.hid ho4
      clear r11 o4 r3 ho4 R11 R6b R3b Ho3
      go_wp2_with fail
      refine refLoop6 g3 w2.heap.size st.l (rnds st shaK (sched bs)).l w4 rfl rfl Hr3.out Hr11.out (by omega) ?_
      intros
      rename_i w5 r3 o5
      rw [add_comm_l] at r3
      have hd : (rnds st shaK (sched bs)).add st = digN s0 (j + 1) Y := by rw [← Hdig.out, ← Hst.out]; rfl
      rw [hd] at r3
      have Hr5 := Lib.hid r3
      have Ho5 := Lib.hid (Ho4.out.trans o5 (fun i hi _ => hi))
      clear r3 o5 hd Hr11 Hr3 Ho4
      go_wp2_with fail
      refine ⟨⟨j + 1, at_ + 64, digN s0 (j + 1) Y, by go_num, by omega, Lib.hid (by have := Hat.out; omega), Lib.hid rfl, Hr5, Ho5⟩, by simp [intOf]; omega⟩
    · have hjj : j = n4 / 64 := by have := Hat.out; omega
      have hge : ¬ (at_ : Int) < (n4 : Int) := by omega
      have r := R.out
      rw [Hst.out, hjj] at r
      have Hr := Lib.hid r
      clear r R Hst hjj hj
      go_wp2_with fail
      exact Hexit.out _ _ _ _ _ _ _ _ _ _ _ _ _ _ _ _ _ _ _ _ _ _ _ _ _ _ _ _ _ _ _ _ _ _ _ _ _ _ _ _ _ _ _ _ _ _ _ _ _ _ _ _ _ _ _ _ _ _ _ _ _ _ _ _ _ _ _ _ _ _ _ _ _ _ _ _ _ _ _ _ _ _ _ _ _ _ _ _ _ _ _ _ _ _ _ _ _ _ _ _ _ _ _ _ _ _ _ _ _ _ _ _ _ _ _ _ _ _ _ _ _ _ _ _ _ _ _ _ _ _ _ _ _ _ _ _ _ _ _ _ _ _ _ _ _ _ _ _ _ _ _ _ _ _ _ _ _ _ _ _ _ _ _ _ _ _ _ _ _ _ _ _ _ _ _ _ _ _ _ _ _ _ _ _ _ _ _ _ _ _ _ _ _ _ wr Hr.out Ho.out
end Go.Proofs.Ytmddehbfimpjdaa
