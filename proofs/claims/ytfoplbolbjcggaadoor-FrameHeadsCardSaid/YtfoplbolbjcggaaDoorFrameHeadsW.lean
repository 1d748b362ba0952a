/- The walk of bollardlaw06.FrameHeads. -/
import Derived.Test.YtfoplbolbjcggaaDoorRefHeadW
import Derived.Test.YtfoplbolbjcggaaDoorPutErrW
import Derived.Test.YtfoplbolbjcggaaDoorFrameBackW
import Derived.Laws.StructEq
import Derived.Deep.DeepCutAuto
import Derived.Deep.Cut
set_option linter.unusedVariables false
set_option maxRecDepth 100000
namespace Go.Proofs.YtfoplbolbjcggaaDoor
open Go.RowKit Go.Shelf

/-- no number stands at the head of what is cut -/
theorem cut_no (s : Stp) (hs : stOk s) (N : Nat) (hN : N ≤ 1024) (rest : List UInt8) (k : Nat) (hk : k < (topB s N).length) : ∀ m l : Nat, Says (((topB s N ++ rest).take k).drop 0) m l → (256 : Int) < (m : Int) ∨ ((topB s N ++ rest).take k).length < 0 + l + m := by
  intro m l hsay
  have hhl := headB_length hs (n := N) (by omega)
  have htl : (topB s N).length = (headB s N).length + 5 := by
    unfold topB
    rw [List.length_append, sealB_length, nb_lo (by omega)]
    simp; omega
  have hkl : ((topB s N ++ rest).take k).length = k := by rw [List.length_take, List.length_append]; omega
  rw [hkl]
  rw [List.drop_zero] at hsay
  have hl := hsay.2.2
  rw [hkl] at hl
  have hl1 := hsay.len
  have hp := nb_pos m
  have h1 : Says ((topB s N ++ rest).take k) ((headB s N).length + 4) 1 := by
    refine ⟨by omega, ?_, by rw [hkl]; omega⟩
    rw [List.take_take, Nat.min_eq_left (by omega)]
    unfold topB
    rw [nb_lo (by omega)]
    rfl
  obtain ⟨e1, e2⟩ := hsay.uniq h1
  omega
theorem cut_place7 (a : Int) (L : Nat) (hL : 0 < L) (hb : L ≤ 9437184) : ∃ k : Nat, k < L ∧ (a.tmod (L : Int) + (L : Int)).tmod (L : Int) = (k : Int) ∧ -9437184 ≤ a.tmod (L : Int) ∧ a.tmod (L : Int) ≤ 9437184 := by
  have h1 : a.tmod (L : Int) < (L : Int) := Int.tmod_lt_of_pos a (by omega)
  have h2 : -(L : Int) < a.tmod (L : Int) := Int.lt_tmod_of_pos a (by omega)
  have h3 : 0 ≤ a.tmod (L : Int) + (L : Int) := by omega
  have h4 := Int.tmod_nonneg (L : Int) h3
  have h5 := Int.tmod_lt_of_pos (a.tmod (L : Int) + (L : Int)) (show (0 : Int) < (L : Int) by omega)
  exact ⟨((a.tmod (L : Int) + (L : Int)).tmod (L : Int)).toNat, by omega, by omega, by omega, by omega⟩
def SlF (base m : Nat) (zs : List UInt8) : Value → World → Prop := fun v a => ∃ p c, v = .slice p m c ∧ Own a base 5 (.slice p m c) (u8s zs)
theorem SlF.stable (base m : Nat) (zs : List UInt8) : Stable (Only []) (SlF base m zs) := fun _ _ _ ⟨p, c, h1, h2⟩ ho => ⟨p, c, h1, h2.only0 ho⟩
theorem infoU8h : (Tryd.prog.info? 5).map (fun i => (i.zero, i.size, i.bytes)) = some (some (.int .u8 0), 1, 1) := by kernel_rfl

/-- Get and Head of a frame with one more byte behind -/
theorem get_longer (s : Stp) (hs : stOk s) (xs : List UInt8) (to_ : UInt8) (n : Nat) (hn : xs.length = n) (hl : n ≤ 1024) (fs : List UInt8) (hfs : topB s n ++ (bodyB xs ++ [to_]) = fs) (p : Option Addr) (m c : Nat) (w : World) (hm : fs.length = m) (hmc : m ≤ c) (hms : m ≤ 9000) (hp : p = none → m = 0 ∧ c = 0) (hx : Rd w p (u8s fs)) (aB aD : Addr) (hE : ErrAt w 3 aB) (hD : ErrAt w 0 aD) :
    Calls Tryd.prog 32 #[.slice p m c] w fun e w' => e = .returned (.tuple #[stV st0z, .slice none 0 0, ev aB]) ∧ Only [] w w' := by
  have hbl := body_length xs
  have hsp := split_head s hs n hl (bodyB xs ++ [to_]) fs p m c w hfs hm hmc (by omega) hp hx aB hE
  rw [hn] at hbl
  have hrl : (bodyB xs ++ [to_]).length = n + 32 * nbB n + 1 := by rw [List.length_append, hbl]; rfl
  refine (get_good s n hl (bodyB xs ++ [to_]) p m c w aB aD hE hD (by rw [hrl]; unfold nbB; omega) hsp).mono ?_
  rintro e w' ⟨ho, h | h | h⟩
  · exact ⟨h.2, ho⟩
  · have := h.1; omega
  · have := h.1; omega
theorem head_any (s : Stp) (hs : stOk s) (rest : List UInt8) (n : Nat) (hl : n ≤ 1024) (fs : List UInt8) (hfs : topB s n ++ rest = fs) (p : Option Addr) (m c : Nat) (w : World) (hm : fs.length = m) (hmc : m ≤ c) (hms : m ≤ 9000) (hp : p = none → m = 0 ∧ c = 0) (hx : Rd w p (u8s fs)) (aB : Addr) (hE : ErrAt w 3 aB) :
    Calls Tryd.prog 35 #[.slice p m c] w fun e w' => e = .returned (.tuple #[stV s, .int .i64 (n : Int), .nilIface]) ∧ Only [] w w' :=
  head_good s n rest p m c w (split_head s hs n hl rest fs p m c w hfs hm hmc (by omega) hp hx aB hE)
/-- Get and Head of a frame that is cut: ahead of its head's end, behind it -/
theorem get_cut (s : Stp) (hs : stOk s) (xs : List UInt8) (n : Nat) (hn : xs.length = n) (hl : n ≤ 1024) (fb : List UInt8) (hfb : topB s n ++ bodyB xs = fb) (k : Nat) (hk : k < fb.length) (p : Option Addr) (w : World) (hms : fb.length ≤ 9000) (hp : p = none → k = 0 ∧ k = 0) (hx : Rd w p (u8s (fb.take k))) (aB aD : Addr) (hE : ErrAt w 3 aB) (hD : ErrAt w 0 aD) :
    Calls Tryd.prog 32 #[.slice p k k] w fun e w' => e = .returned (.tuple #[stV st0z, .slice none 0 0, ev aB]) ∧ Only [] w w' := by
  have hk9 : k < 9000 := by omega
  subst hfb
  have hbl := body_length xs
  rw [hn] at hbl
  have hlen : ((topB s n ++ bodyB xs).take k).length = k := by rw [List.length_take]; omega
  by_cases hkt : k < (topB s n).length
  · refine get_err p k k aB w fun w1 h1 => split_no _ p k k w1 hlen (by omega) hp (hx.only0 h1) aB (hE.only0 h1) ?_
    exact cut_no s hs n hl (bodyB xs) k hkt
  · have hfs : topB s n ++ (bodyB xs).take (k - (topB s n).length) = (topB s n ++ bodyB xs).take k := by
      rw [List.take_append, List.take_of_length_le (by omega : (topB s n).length ≤ k)]
    rw [List.length_append] at hk
    have hrl : ((bodyB xs).take (k - (topB s n).length)).length = k - (topB s n).length := by rw [List.length_take]; omega
    have hsp := split_head s hs n hl _ _ p k k w hfs hlen (Nat.le_refl _) (by omega) hp hx aB hE
    refine (get_good s n hl _ p k k w aB aD hE hD (by rw [hrl]; omega) hsp).mono ?_
    rintro e w' ⟨ho, h | h | h⟩
    · exact ⟨h.2, ho⟩
    · have := h.1; omega
    · have := h.1; omega
theorem head_cut_no (s : Stp) (hs : stOk s) (xs : List UInt8) (n : Nat) (hl : n ≤ 1024) (fb : List UInt8) (hfb : topB s n ++ bodyB xs = fb) (k : Nat) (hk : k < fb.length) (hkt : k < (topB s n).length) (p : Option Addr) (w : World) (hms : fb.length ≤ 9000) (hp : p = none → k = 0 ∧ k = 0) (hx : Rd w p (u8s (fb.take k))) (aB : Addr) (hE : ErrAt w 3 aB) :
    Calls Tryd.prog 35 #[.slice p k k] w fun e w' => e = .returned (.tuple #[stV st0z, .int .i64 ((0 : Nat) : Int), ev aB]) ∧ Only [] w w' := by
  subst hfb
  refine head_of p k k 0 st0z (ev aB) w fun w1 h1 => ?_
  refine (split_no _ p k k w1 (by rw [List.length_take]; omega) (by omega) hp (hx.only0 h1) aB (hE.only0 h1) (cut_no s hs n hl (bodyB xs) k hkt)).mono ?_
  rintro e w' ⟨rfl, ho⟩
  exact ⟨none, 0, 0, rfl, ho⟩
theorem head_cut_yes (s : Stp) (hs : stOk s) (xs : List UInt8) (n : Nat) (hl : n ≤ 1024) (fb : List UInt8) (hfb : topB s n ++ bodyB xs = fb) (k : Nat) (hk : k < fb.length) (hkt : ¬ k < (topB s n).length) (p : Option Addr) (w : World) (hms : fb.length ≤ 9000) (hp : p = none → k = 0 ∧ k = 0) (hx : Rd w p (u8s (fb.take k))) (aB : Addr) (hE : ErrAt w 3 aB) :
    Calls Tryd.prog 35 #[.slice p k k] w fun e w' => e = .returned (.tuple #[stV s, .int .i64 (n : Int), .nilIface]) ∧ Only [] w w' := by
  subst hfb
  refine head_any s hs ((bodyB xs).take (k - (topB s n).length)) n hl _ ?_ p k k w (by rw [List.length_take]; omega) (Nat.le_refl _) (by omega) hp hx aB hE
  rw [List.take_append, List.take_of_length_le (by omega : (topB s n).length ≤ k)]

set_option maxHeartbeats 16000000 in
theorem frameHeads_any (s : Stp) (p : Option Addr) (xs : List UInt8) (n c : Nat) (at_ : Int) (to_ : UInt8) (cut : Int) (w0 : World) (hn : xs.length = n) (hnc : n ≤ c) (hb : n ≤ 140737488351232) (hp : p = none → n = 0 ∧ c = 0) (hx : Rd w0 p (u8s xs)) (hcut : -9223372036854775808 ≤ cut ∧ cut ≤ 9223372036854775807) (aB aD : Addr) (eB : ErrAt w0 3 aB) (eD : ErrAt w0 0 aD) :
    Calls Tryd.prog 12 #[.agg #[.int .i64 s.node, .int .i64 s.boot, .int .i64 s.seq, .int .i64 s.shard, .int .i64 s.size, .slice p n c, .int .i64 at_, .int .u8 (to_.toNat : Int)], .int .i64 cut] w0 fun e w' => e = .returned (.bool true) ∧ Only [] w0 w' := by
  obtain ⟨w1, hw1⟩ : ∃ w1, w1 = w0.alloc (.cells #[.int .i64 s.node, .int .i64 s.boot, .int .i64 s.seq, .int .i64 s.shard, .int .i64 s.size, .slice p n c, .int .i64 at_, .int .u8 (to_.toNat : Int)] 69) := ⟨_, rfl⟩
  have o1 : Only [] w0 w1 := by rw [hw1]; exact Only.alloc _ _
  have r1 : Row w1 w0.heap.size 69 [.int .i64 s.node, .int .i64 s.boot, .int .i64 s.seq, .int .i64 s.shard, .int .i64 s.size, .slice p n c, .int .i64 at_, .int .u8 (to_.toNat : Int)] := by rw [hw1]; exact Row.newOf _ _ _ _ rfl
  have hal := alive06_any w1
  have HO1 := Lib.hid o1
  have HR1 := Lib.hid r1
  have Hw1 := Lib.hid hw1
  have Hx := Lib.hid hx
  have Hn := Lib.hid hn
  have Hp := Lib.hid hp
  have EB := Lib.hid eB
  have ED := Lib.hid eD
  clear o1 r1 hw1 hx hn hp eB eD
  go_enter Tryd.func12, Tryd.ntmps12
  go_wp2_with fail
  rw [← Hw1.out]
  refine hal.mono ?_
  clear hal Hw1
  rintro e w3 ⟨rfl, o3⟩
  have HO3 := Lib.hid (HO1.out.trans0 o3)
  have HR3 := Lib.hid (HR1.out.only0 o3)
  have c0 := HR3.out.cell (i := 0) rfl
  have c1 := HR3.out.cell (i := 1) rfl
  have c2 := HR3.out.cell (i := 2) rfl
  have c3 := HR3.out.cell (i := 3) rfl
  have c4 := HR3.out.cell (i := 4) rfl
  have hif := refInForm_any s w3
  unfold stV at hif
  clear o3
  go_wp2_with fail
  refine hif.mono ?_
  clear hif c0 c1 c2 c3 c4
  rintro e w4 ⟨rfl, o4⟩
  have HO4 := Lib.hid (HO3.out.trans0 o4)
  have HR4 := Lib.hid (HR3.out.only0 o4)
  clear o4
  have c0 := HR4.out.cell (i := 0) rfl
  have c1 := HR4.out.cell (i := 1) rfl
  have c2 := HR4.out.cell (i := 2) rfl
  have c3 := HR4.out.cell (i := 3) rfl
  have c4 := HR4.out.cell (i := 4) rfl
  have c5 := HR4.out.cell (i := 5) rfl
  rcases Decidable.em (¬ stOk s) with hs | hs
  · rw [decide_eq_false hs]
    go_wp2_with fail
    go_ret
    exact ⟨rfl, HO4.out⟩
  replace hs := Decidable.not_not.1 hs
  rw [decide_eq_true hs]
  rcases Decidable.em (¬ n ≤ 1024) with hl | hl
  · have hl1 : (1024 : Int) < (n : Int) := by omega
    go_wp2_with fail
    go_ret
    exact ⟨rfl, HO4.out⟩
  replace hl := Decidable.not_not.1 hl
  have hl1 : ¬ (1024 : Int) < (n : Int) := by omega
  have hput := put_ok s hs p xs n c w4 Hn.out hl Hp.out (Hx.out.only0 HO4.out)
  obtain ⟨fb, hfb⟩ : ∃ fb, frameB s xs = fb := ⟨_, rfl⟩
  obtain ⟨m, hm⟩ : ∃ m, fb.length = m := ⟨_, rfl⟩
  obtain ⟨h, hh⟩ : ∃ h, (topB s n).length = h := ⟨_, rfl⟩
  have hbl := body_length xs
  have hml : m = h + (n + 32 * nbB n) := by
    rw [← hm, ← hfb, frameB_length, Hn.out, hh]
  have hnb2 : nbB n ≤ 33 := by unfold nbB; omega
  have hh1 : 5 ≤ h := by rw [← hh]; unfold topB; rw [List.length_append, sealB_length]; have := nb_pos ((headB s n).length + 4); omega
  have hh2 : h ≤ 68 := by rw [← hh]; exact topB_length hs (by omega)
  have hms : m ≤ 2200 := by omega
  have hhm : h ≤ m := by omega
  have hfs : topB s n ++ bodyB xs = fb := by rw [← hfb]; unfold frameB; rw [Hn.out]
  rw [hfb, hm] at hput
  have Hfs := Lib.hid hfs
  have Hm := Lib.hid hm
  have Hh := Lib.hid hh
  have Hml := Lib.hid hml
  have Hbl := Lib.hid hbl
  unfold stV at hput
  clear hfb hm hh hml hnb2 hbl hfs
  go_wp2_with fail
  refine hput.mono ?_
  clear hput c0 c1 c2 c3 c4 c5
  rintro e w5 ⟨q, m, k, rfl, rfl, own5, o5⟩
  have HO5 := Lib.hid (HO4.out.trans0 o5)
  have Hown5 := Lib.hid own5
  have HR5 := Lib.hid (HR4.out.only0 o5)
  have c7 := HR5.out.cell (i := 7) rfl
  have hv5 := own5.view
  have Hrd := Lib.hid hv5.1
  have Hq := Lib.hid hv5.2.2.1
  have hkm := hv5.2.2.2.1
  clear own5 o5 hv5
  go_upto_region 8 with (fail)
  have hRr : ∀ a, Below w5.heap.size a a := fun a => Below.refl _ _
  have hRt : ∀ a b e, Below w5.heap.size a b → Below w5.heap.size b e → Below w5.heap.size a e := fun a b e h h2 => h.trans h2
  have hRd : Below w5.heap.size w5 w5.drew := (Only.drew _).below
  have hRs : ∀ j w, DirtR [(6, Below w5.heap.size)] j w w := DirtR.refl (by intro x hx w; obtain rfl := List.mem_singleton.1 hx; exact Below.refl _ _)
  -- <<R8
  refine wp_region_rg5 (Below w5.heap.size) (DirtR [(6, Below w5.heap.size)]) [[], [(5, none)], [(47, some 1), (48, some 0)], [(2, none)], [(50, some 0)], [(51, some 0)], [(49, some 3), (52, some 0)], [(53, some 0)]] [(7, 0)] [none, none, none, none, none, none, none, some 7, none, none, none, none, none, none, none, none, none, none, none, none, none, none, none, none, none, none, none, none, none, none, none, none, none, none, none, none, none, none, none, none, none, none, none, none, none, none, none, some 47, some 48, some 49, some 50, some 51, some 52, some 53, none, none, none, none, none, none, none, none, none, none, none, none, none, none, none, none, none, none, none, none, none, none, none, none, none, none, none, none, none, none, none, none, none, none, none, none, none, none, none, none, none, none, none, none, none, none, none, none, none, none, none, none, none, none, none, none, none, none, none, none, none, none, none, none, none, none, none, none, none, none, none, none, none, none, none, none, none, none, none, none, none, none, none, none, none, none, none, none, none, none, none, none, none, none, none, none, none, none, none, none] (by kernel_rfl) rfl (by kernel_rfl) hRr hRt hRs hRd (by kernel_rfl) ?_
  -- 0: s47 := buildSlice 22 0 #[]
  refine ⟨Own0 w5.heap.size, stands5_of (fun v w w' h ho => Own0.stable _ h ho) (by intro x hx hk; obtain rfl := List.mem_singleton.1 hx; exact Bool.noConfusion (hk.symm.trans (by kernel_rfl : _ = true))), fun a w hR hf => ?_, ?_⟩
  · refine rg_plain rfl fun K hK => ?_
    go_simp
    exact hK _ _ ⟨_, rfl, Own.ofRow (vs := []) (rest := []) hR.size (Row.new w _ []) rfl (by omega)⟩ ⟨(Only.alloc w _).below.mono hR.size, Only.alloc w _⟩
  -- 1: s48 := move t5
  apply rgu_ev
  · intro a w hR hf
    obtain ⟨e5, -⟩ := hf
    replace e5 : a.tmps.getD 5 undef = _ := e5
    refine rg_plain rfl fun K hK => ?_
    go_simp
    exact hK _ _ rfl ⟨hRr _, hRs _ _⟩
  -- 2: s49 := call { builtin append, args := #[t47, t48], #[22, 22] }
  refine ⟨SlF w5.heap.size m fb, stands5_of (SlF.stable _ _ _) (by intro x hx hk; obtain rfl := List.mem_singleton.1 hx; exact Bool.noConfusion (hk.symm.trans (by kernel_rfl : _ = true))), fun a w hR hf => ?_, ?_⟩
  · obtain ⟨e47, e48, -⟩ := hf
    replace e47 : Own0 w5.heap.size (a.tmps.getD 47 undef) w := e47
    replace e48 : a.tmps.getD 48 undef = _ := e48
    refine rg_plain rfl fun K hK => ?_
    obtain ⟨q18, e47, o18⟩ := e47
    obtain ⟨p', c', w3, hr, o3, h3⟩ := append_fresh (P := Tryd.prog) (bytes := 1) (c := k) (q := q) (m := m) (news := u8s fb) (t := 22) (ty := 22) w Tryd.underlying22 infoU8h rfl o18 (Hrd.out.only0 (Only.ofBelow hR)) (by rw [u8s_length, Hm.out]) Hq.out (fun v hv => u8s_one hv) (by omega) (by omega) hR.size
    refine rg_append (s := .tmp 47) (x := .tmp 48) rfl e47 e48 hr ?_
    exact hK _ _ ⟨p', c', rfl, o3⟩ ⟨h3.below.mono hR.size, h3⟩
  -- 3: s50 := fieldAddr 69 t2 3
  apply rgu_ev
  · intro a w hR hf
    obtain ⟨e2, -⟩ := hf
    replace e2 : a.tmps.getD 2 undef = _ := e2
    refine rg_plain rfl fun K hK => ?_
    go_simp
    exact hK _ _ rfl ⟨hRr _, hRs _ _⟩
  -- 4: s51 := load 5 t50
  apply rgu_ev
  · intro a w hR hf
    obtain ⟨e50, -⟩ := hf
    replace e50 : a.tmps.getD 50 undef = _ := e50
    refine rg_plain rfl fun K hK => ?_
    have hc := (Only.ofBelow hR).cell c7 (by simp)
    go_simp
    exact hK _ _ rfl ⟨hRr _, hRs _ _⟩
  -- 5: s52 := buildSlice 22 1 #[(0, t51)]
  refine ⟨SlF w5.heap.size 1 [to_], stands5_of (SlF.stable _ _ _) (by intro x hx hk; obtain rfl := List.mem_singleton.1 hx; exact Bool.noConfusion (hk.symm.trans (by kernel_rfl : _ = true))), fun a w hR hf => ?_, ?_⟩
  · obtain ⟨e51, -⟩ := hf
    replace e51 : a.tmps.getD 51 undef = _ := e51
    refine rg_plain rfl fun K hK => ?_
    have e51' := e51
    rw [Array.getD_eq_getD_getElem?] at e51'
    go_simp
    exact hK _ _ ⟨_, 1, rfl, Own.ofRow (vs := u8s [to_]) (rest := []) hR.size (Row.new w _ (u8s [to_])) rfl (by omega)⟩ ⟨(Only.alloc w _).below.mono hR.size, Only.alloc w _⟩
  -- 6: s53 := call { builtin append, args := #[t49, t52], #[22, 22] }
  refine ⟨SlF w5.heap.size (m + 1) (fb ++ [to_]), stands5_of (SlF.stable _ _ _) (by intro x hx hk; obtain rfl := List.mem_singleton.1 hx; exact Bool.noConfusion (hk.symm.trans (by kernel_rfl : _ = true))), fun a w hR hf => ?_, ?_⟩
  · obtain ⟨e49, e52, -⟩ := hf
    replace e49 : SlF w5.heap.size m fb (a.tmps.getD 49 undef) w := e49
    replace e52 : SlF w5.heap.size 1 [to_] (a.tmps.getD 52 undef) w := e52
    refine rg_plain rfl fun K hK => ?_
    obtain ⟨q27, c27, e49, o27⟩ := e49
    obtain ⟨q28, c28, e52, o28⟩ := e52
    obtain ⟨p', c', w3, hr, o3, h3, hb3⟩ := append_owned (P := Tryd.prog) (n := m) (m := 1) (bytes := 1) (q := q28) (c := c28) (news := u8s [to_]) (t := 22) (ty := 22) w Tryd.underlying22 infoU8h rfl o27 o28.view.1 rfl o28.view.2.2.1 (fun v hv => u8s_one hv) (by omega) (by omega) hR.size
    have hbel : Below w5.heap.size w w3 := h3.belowOf hR.size (fun x hx => blkGe o27 x hx)
    refine rg_append (s := .tmp 49) (x := .tmp 52) rfl e49 e52 hr ?_
    exact hK _ _ ⟨p', c', rfl, by rw [u8s_append]; exact o3⟩ ⟨hbel, hbel⟩
  -- 7: s7 := assign t53
  refine ⟨SlF w5.heap.size (m + 1) (fb ++ [to_]), stands5_of (SlF.stable _ _ _) (by intro x hx hk; obtain rfl := List.mem_singleton.1 hx; exact Bool.noConfusion (hk.symm.trans (by kernel_rfl : _ = true))), fun a w hR hf => ?_, ?_⟩
  · obtain ⟨e53, -⟩ := hf
    replace e53 : SlF w5.heap.size (m + 1) (fb ++ [to_]) (a.tmps.getD 53 undef) w := e53
    refine rg_plain rfl fun K hK => ?_
    generalize hv53 : a.tmps.getD 53 undef = v53 at e53
    go_simp
    exact hK _ _ e53 ⟨hRr _, hRs _ _⟩
  intro f w hR hf
  dsimp only [mergeT]
  obtain ⟨e7, -⟩ := hf
  replace e7 : SlF w5.heap.size (m + 1) (fb ++ [to_]) (f 7) w := e7
  -- R8>>
  obtain ⟨qL, cL, hfL, ownL⟩ := e7
  rw [hfL]
  have oR : Only [] w5 w := Only.ofBelow hR
  have HO6 := Lib.hid (HO5.out.trans0 oR)
  have HR6 := Lib.hid (HR5.out.only0 oR)
  have Hown6 := Lib.hid (Hown5.out.only0 oR)
  have hvL := ownL.view
  have hfsL : topB s n ++ (bodyB xs ++ [to_]) = fb ++ [to_] := by rw [← List.append_assoc, Hfs.out]
  have hg1 := get_longer s hs xs to_ n Hn.out hl _ hfsL qL (m + 1) cL w (by rw [List.length_append, Hm.out]; rfl) hvL.2.2.2.1 (by omega) hvL.2.2.1 hvL.1 aB aD (EB.out.only0 HO6.out) (ED.out.only0 HO6.out)
  have HfsL := Lib.hid hfsL
  have HownL := Lib.hid ownL
  have hcL := hvL.2.2.2.1
  unfold stV ev at hg1
  clear hvL hfsL ownL oR hR hRr hRt hRd hRs hfL c7
  go_upto_region 9 with (fail)
  go_wp2_with fail
  refine hg1.mono ?_
  clear hg1
  rintro e w7 ⟨rfl, o7⟩
  unfold st0z
  obtain ⟨w8, hw8⟩ : ∃ w8, w8 = w7.alloc (.cells #[.int .i64 0, .int .i64 0, .int .i64 0, .int .i64 0, .int .i64 0] 67) := ⟨_, rfl⟩
  have o8 : Only [] w w8 := by rw [hw8]; exact o7.trans0 (Only.alloc _ _)
  have HO8 := Lib.hid (HO6.out.trans0 o8)
  have HR8 := Lib.hid (HR6.out.only0 o8)
  have Hown8 := Lib.hid (Hown6.out.only0 o8)
  have HownL8 := Lib.hid (HownL.out.only0 o8)
  have hhd := head_any s hs _ n hl _ HfsL.out qL (m + 1) cL w8 (by rw [List.length_append, Hm.out]; rfl) hcL (by omega) HownL8.out.view.2.2.1 HownL8.out.view.1 aB (EB.out.only0 HO8.out)
  have Hw8 := Lib.hid hw8
  unfold stV at hhd
  clear hw8 o7 o8
  go_upto_region 10 with (fail)
  rw [← Hw8.out]
  clear Hw8
  go_wp2_with fail
  refine hhd.mono ?_
  clear hhd
  rintro e w9 ⟨rfl, o9⟩
  obtain ⟨wa, hwa⟩ : ∃ wa, wa = w9.alloc (.cells #[.int .i64 s.node, .int .i64 s.boot, .int .i64 s.seq, .int .i64 s.shard, .int .i64 s.size] 67) := ⟨_, rfl⟩
  have oa : Only [] w8 wa := by rw [hwa]; exact o9.trans0 (Only.alloc _ _)
  have ra : Row wa w9.heap.size 67 [.int .i64 s.node, .int .i64 s.boot, .int .i64 s.seq, .int .i64 s.shard, .int .i64 s.size] := by rw [hwa]; exact Row.newOf _ _ _ _ rfl
  have HOa := Lib.hid (HO8.out.trans0 oa)
  have HRa := Lib.hid (HR8.out.only0 oa)
  have Hra := Lib.hid ra
  have Howna := Lib.hid (Hown8.out.only0 oa)
  have hva := Howna.out.view
  have hrf := refHead_any s hs n hl (bodyB xs) fb q m k wa Hfs.out Hm.out hkm (by omega) hva.2.2.2.2.1 hva.2.2.1 hva.1 (fun a ha => (hva.2.2.2.2.2 a ha).2)
  rw [Hh.out] at hrf
  have Hwa := Lib.hid hwa
  unfold stV at hrf
  clear hwa o9 oa ra hva
  go_upto_region 11 with (fail)
  rw [← Hwa.out]
  clear Hwa
  go_wp2_with fail
  refine hrf.mono ?_
  clear hrf
  rintro e wb ⟨rfl, ob⟩
  obtain ⟨wc, hwc⟩ : ∃ wc, wc = wb.alloc (.cells #[.int .i64 s.node, .int .i64 s.boot, .int .i64 s.seq, .int .i64 s.shard, .int .i64 s.size] 67) := ⟨_, rfl⟩
  have oc : Only [] wa wc := by rw [hwc]; exact ob.trans0 (Only.alloc _ _)
  have HOc := Lib.hid (HOa.out.trans0 oc)
  have HRc := Lib.hid (HRa.out.only0 oc)
  have Hownc := Lib.hid (Howna.out.only0 oc)
  have hrc := Hra.out.only0 oc
  have c0 := HRc.out.cell (i := 0) rfl
  have c1 := HRc.out.cell (i := 1) rfl
  have c2 := HRc.out.cell (i := 2) rfl
  have c3 := HRc.out.cell (i := 3) rfl
  have c4 := HRc.out.cell (i := 4) rfl
  have c5 := HRc.out.cell (i := 5) rfl
  have d0 := hrc.cell (i := 0) rfl
  have d1 := hrc.cell (i := 1) rfl
  have d2 := hrc.cell (i := 2) rfl
  have d3 := hrc.cell (i := 3) rfl
  have d4 := hrc.cell (i := 4) rfl
  have hcB := (EB.out.only0 HOc.out).cell
  have hneq := err_neq_same wc aB
  have Hwc := Lib.hid hwc
  obtain ⟨kk, hkk, hke, hk1, hk2⟩ := cut_place7 cut m (by omega) (by omega)
  clear hwc ob oc hrc
  go_upto_region 12 with (fail)
  rw [← Hwc.out]
  clear Hwc
  go_wp2_with fail
  have hrdk : Rd wc q (u8s (fb.take kk)) := by
    have := Hownc.out.view.1.take kk
    rwa [u8s_take] at this
  have hqk : q = none → kk = 0 ∧ kk = 0 := fun e => by have := (Hq.out e).1; omega
  have hgc := get_cut s hs xs n Hn.out hl fb Hfs.out kk (by rw [Hm.out]; exact hkk) q wc (by rw [Hm.out]; omega) hqk hrdk aB aD (EB.out.only0 HOc.out) (ED.out.only0 HOc.out)
  have Hrdk := Lib.hid hrdk
  have Hqk := Lib.hid hqk
  unfold stV ev at hgc
  clear hrdk hqk c0 c1 c2 c3 c4 c5 d0 d1 d2 d3 d4 hcB hneq hke
  refine hgc.mono ?_
  clear hgc
  rintro e wd ⟨rfl, od⟩
  unfold st0z
  obtain ⟨we, hwe⟩ : ∃ we, we = wd.alloc (.cells #[.int .i64 0, .int .i64 0, .int .i64 0, .int .i64 0, .int .i64 0] 67) := ⟨_, rfl⟩
  have oe : Only [] wc we := by rw [hwe]; exact od.trans0 (Only.alloc _ _)
  have HOe := Lib.hid (HOc.out.trans0 oe)
  have HRe := Lib.hid (HRc.out.only0 oe)
  have Hrde := Lib.hid (Hrdk.out.only0 oe)
  have Hwe := Lib.hid hwe
  clear hwe od oe
  by_cases hkt : kk < h
  · have hh4 := head_cut_no s hs xs n hl fb Hfs.out kk (by rw [Hm.out]; exact hkk) (by rw [Hh.out]; exact hkt) q we (by rw [Hm.out]; omega) Hqk.out Hrde.out aB (EB.out.only0 HOe.out)
    unfold stV ev at hh4
    have hlt : (kk : Int) < (h : Int) := by omega
    go_upto_region 16 with (fail)
    rw [← Hwe.out]
    clear Hwe
    go_wp2_with fail
    refine hh4.mono ?_
    clear hh4
    rintro e wf ⟨rfl, of⟩
    unfold st0z
    go_wp2_with fail
    go_ret
    exact ⟨rfl, (HOe.out.trans0 of).trans0 (Only.alloc _ _)⟩
  · have hh4 := head_cut_yes s hs xs n hl fb Hfs.out kk (by rw [Hm.out]; exact hkk) (by rw [Hh.out]; exact hkt) q we (by rw [Hm.out]; omega) Hqk.out Hrde.out aB (EB.out.only0 HOe.out)
    unfold stV at hh4
    have hlt : ¬ (kk : Int) < (h : Int) := by omega
    have hge : (h : Int) ≤ (kk : Int) := by omega
    go_upto_region 16 with (fail)
    rw [← Hwe.out]
    clear Hwe
    go_wp2_with fail
    refine hh4.mono ?_
    clear hh4
    rintro e wf ⟨rfl, of⟩
    obtain ⟨wg, hwg⟩ : ∃ wg, wg = wf.alloc (.cells #[.int .i64 s.node, .int .i64 s.boot, .int .i64 s.seq, .int .i64 s.shard, .int .i64 s.size] 67) := ⟨_, rfl⟩
    have og : Only [] we wg := by rw [hwg]; exact of.trans0 (Only.alloc _ _)
    have rg : Row wg wf.heap.size 67 [.int .i64 s.node, .int .i64 s.boot, .int .i64 s.seq, .int .i64 s.shard, .int .i64 s.size] := by rw [hwg]; exact Row.newOf _ _ _ _ rfl
    have HRg := HRe.out.only0 og
    have c0 := HRg.cell (i := 0) rfl
    have c1 := HRg.cell (i := 1) rfl
    have c2 := HRg.cell (i := 2) rfl
    have c3 := HRg.cell (i := 3) rfl
    have c4 := HRg.cell (i := 4) rfl
    have d0 := rg.cell (i := 0) rfl
    have d1 := rg.cell (i := 1) rfl
    have d2 := rg.cell (i := 2) rfl
    have d3 := rg.cell (i := 3) rfl
    have d4 := rg.cell (i := 4) rfl
    have HOg := Lib.hid (HOe.out.trans0 og)
    have Hwg := Lib.hid hwg
    clear hwg of og rg HRg
    go_upto_region 17 with (fail)
    rw [← Hwg.out]
    clear Hwg
    go_wp2_with fail
    go_ret
    exact ⟨rfl, HOg.out⟩
end Go.Proofs.YtfoplbolbjcggaaDoor
