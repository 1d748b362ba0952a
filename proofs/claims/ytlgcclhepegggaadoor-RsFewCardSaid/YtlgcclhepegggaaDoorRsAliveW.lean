/- The walk of bollardlaw02.alive. -/
import Derived.Test.YtlgcclhepegggaaDoorRsDecW
set_option linter.unusedVariables false
set_option maxRecDepth 100000
namespace Go.Proofs.YtlgcclhepegggaaDoor
open Go.RowKit

/-- two shards in a block of their own -/
def TwoSh (V W : Value) (base : Nat) : Value → World → Prop := fun v w => ∃ h, v = .slice (some ⟨h, 0, none⟩) 2 2 ∧ base ≤ h ∧ Row w h 80 [.int .i64 2, V, .int .i64 0, W]
theorem TwoSh.stable {V W : Value} {base : Nat} : Stable (Only []) (TwoSh V W base) := fun _ _ _ ⟨h, e, hh, r⟩ ho => ⟨h, e, hh, r.only0 ho⟩
/-- bytes and no error -/
def TupD (xs : List UInt8) (n base : Nat) : Value → World → Prop := fun v w => ∃ q c, v = .tuple #[.slice q n c, .nilIface] ∧ Own w base 5 (.slice q n c) (u8s xs)
theorem TupD.stable {xs : List UInt8} {n base : Nat} : Stable (Only []) (TupD xs n base) := fun _ _ _ ⟨q, c, e, o⟩ ho => ⟨q, c, e, o.only0 ho⟩
def OwnD (xs : List UInt8) (n base : Nat) : Value → World → Prop := fun v w => ∃ q c, v = .slice q n c ∧ Own w base 5 (.slice q n c) (u8s xs)
theorem OwnD.stable {xs : List UInt8} {n base : Nat} : Stable (Only []) (OwnD xs n base) := fun _ _ _ ⟨q, c, e, o⟩ ho => ⟨q, c, e, o.only0 ho⟩

theorem alive_enc : encB 2 1 2 [5, 7, 9] = [[5, 7], [9, 0], [139, 141]] := by decide +kernel
theorem alive_dec (q0 q2 : Option Addr) : decB 2 3 [⟨2, q2, 2, [139, 141]⟩, ⟨0, q0, 2, [5, 7]⟩] = [5, 7, 9] := by
  have h : (solveS ([rowB 2 2, rowB 2 0], [[139, 141], [5, 7]])).2 = [[5, 7], [9, 0]] := by decide +kernel
  unfold decB dataOf
  have e1 : rowsOf 2 [⟨2, q2, 2, [139, 141]⟩, ⟨0, q0, 2, [5, 7]⟩] 2 = [rowB 2 2, rowB 2 0] := rfl
  have e2 : valsOf [⟨2, q2, 2, [139, 141]⟩, ⟨0, q0, 2, [5, 7]⟩] 2 = [[139, 141], [5, 7]] := rfl
  rw [e1, e2, h]; rfl
theorem two_good (q0 q2 : Option Addr) : goodL 2 1 (shardLen 2 3) [⟨2, q2, 2, [139, 141]⟩, ⟨0, q0, 2, [5, 7]⟩] := ⟨rfl, fun j o hj => by
  match j, hj with
  | 0, hj =>
    obtain rfl := Option.some.inj hj
    exact ⟨by show (0 : Int) ≤ 2; omega, by show (2 : Int) < 3; omega, rfl, fun i x hi => by omega⟩
  | 1, hj =>
    obtain rfl := Option.some.inj hj
    refine ⟨by show (0 : Int) ≤ 0; omega, by show (0 : Int) < 3; omega, rfl, fun i x hi hx => ?_⟩
    obtain rfl : i = 0 := by omega
    obtain rfl := Option.some.inj hx
    show (2 : Int) ≠ 0
    omega⟩
theorem two_shards {w : World} {h g0 g2 : Nat} (r : Row w h 80 [.int .i64 2, .slice (some ⟨g2, 0, none⟩) 2 2, .int .i64 0, .slice (some ⟨g0, 0, none⟩) 2 2]) (r0 : Row w g0 5 (u8s [5, 7])) (r2 : Row w g2 5 (u8s [139, 141])) :
    Shards w (some ⟨h, 0, none⟩) [⟨2, some ⟨g2, 0, none⟩, 2, [139, 141]⟩, ⟨0, some ⟨g0, 0, none⟩, 2, [5, 7]⟩] := fun j o hj => by
  match j, hj with
  | 0, hj =>
    obtain rfl := Option.some.inj hj
    exact ⟨h, 0, rfl, ⟨⟨by show (-9223372036854775808 : Int) ≤ 2; omega, by show (2 : Int) ≤ _; omega⟩, r2.rd0, by simp, by show 2 ≤ 2; omega, by show 2 ≤ _; omega⟩, r.cell (i := 0) rfl, r.cell (i := 1) rfl⟩
  | 1, hj =>
    obtain rfl := Option.some.inj hj
    exact ⟨h, 0, rfl, ⟨⟨by show (-9223372036854775808 : Int) ≤ 0; omega, by show (0 : Int) ≤ _; omega⟩, r0.rd0, by simp, by show 2 ≤ 2; omega, by show 2 ≤ _; omega⟩, r.cell (i := 2) rfl, r.cell (i := 3) rfl⟩
set_option maxHeartbeats 4000000 in
theorem alive02_any (w0 : World) (ae : Addr) (hE : ErrAt w0 1 ae) : Calls Tryd.prog 23 #[] w0 fun e w' => e = .returned (.bool true) ∧ Only [] w0 w' := by
  have henc := fun (w : World) (h : Rd w (some ⟨w0.heap.size, 0, none⟩) (u8s [5, 7, 9])) => encode_ok (some ⟨w0.heap.size, 0, none⟩) [5, 7, 9] 3 3 2 1 w (by decide) rfl (by omega) (by simp) h
  have hs : shardLen 2 3 = 2 := rfl
  rw [hs, alive_enc] at henc
  have HE := Lib.hid hE
  have Henc := Lib.hid henc
  clear hE henc hs
  go_enter Tryd.func23, Tryd.ntmps23
  go_wp2_with fail
  obtain ⟨w1, hw1⟩ : ∃ w1, w1 = w0.alloc (.cells #[.int .u8 5, .int .u8 7, .int .u8 9] 5) := ⟨_, rfl⟩
  rw [← hw1]
  have r1 : Row w1 w0.heap.size 5 (u8s [5, 7, 9]) := by rw [hw1]; exact Row.newOf _ _ _ _ rfl
  have o1 : Only [] w0 w1 := by rw [hw1]; exact Only.alloc _ _
  refine (Henc.out w1 r1.rd0).mono ?_
  rintro e w2 ⟨q, c', gs, rfl, hN, o2⟩
  obtain ⟨g0, g1, g2, rfl⟩ : ∃ g0 g1 g2, gs = [g0, g1, g2] := by
    have := hN.len
    match gs, this with
    | [g0, g1, g2], _ => exact ⟨g0, g1, g2, rfl⟩
  obtain ⟨gq, rfl, -, -⟩ := hN.own.at (by show 0 < 3; omega)
  have rd := hN.own.view.1
  have hc0 : w2.cell? ⟨gq, 0, none⟩ = some (.slice (some ⟨g0, 0, none⟩) 2 2) := hN.own.cellAt (i := 0) rfl
  have hc2 : w2.cell? ⟨gq, 2, none⟩ = some (.slice (some ⟨g2, 0, none⟩) 2 2) := hN.own.cellAt (i := 2) rfl
  have x0 := hN.row 0 g0 _ rfl rfl
  have x2 := hN.row 2 g2 _ rfl rfl
  have HO2 := Lib.hid (o1.trans0 o2)
  have HX0 := Lib.hid x0
  have HX2 := Lib.hid x2
  clear hN rd x0 x2 o1 o2 r1 hw1
  go_wp2_with fail
  -- <<A4
  refine wp_region_rg2 (Only []) [[(1, none)], [(24, some 0)], [(25, some 0)], [(26, some 0)], [(1, none)], [(28, some 0)], [(29, some 0)], [(30, some 0)], [(27, some 4), (31, some 0)], [(32, some 0)], [(33, some 0)], [(23, some 0)], [(23, some 1)], [(34, some 1)], [(35, some 1)]] [(3, 1), (2, 0)] [none, none, some 2, some 3, none, none, none, none, none, none, none, none, none, none, none, none, none, none, none, none, none, none, none, some 23, some 24, some 25, some 26, some 27, some 28, some 29, some 30, some 31, some 32, some 33, some 34, some 35, none, none, none, none, none, none, none, none, none] (by kernel_rfl) rfl (by kernel_rfl) (fun _ => Only.refl _ _) (fun _ _ _ h k => h.trans0 k) (Only.drew _) (by kernel_rfl) ?_
  -- 0: s24 := move t1
  apply rg_ev
  · intro a w hR hf
    obtain ⟨e1, -⟩ := hf
    replace e1 : a.tmps.getD 1 undef = _ := e1
    refine rg_plain rfl fun K hK => ?_
    go_simp
    exact hK _ _ rfl (Only.refl _ _)
  -- 1: s25 := indexAddr 64 t24 (const (2:i64))
  apply rg_ev
  · intro a w hR hf
    obtain ⟨e24, -⟩ := hf
    replace e24 : a.tmps.getD 24 undef = _ := e24
    refine rg_plain rfl fun K hK => ?_
    go_simp
    exact hK _ _ rfl (Only.refl _ _)
  -- 2: s26 := load 27 t25
  apply rg_ev
  · intro a w hR hf
    obtain ⟨e25, -⟩ := hf
    replace e25 : a.tmps.getD 25 undef = _ := e25
    refine rg_plain rfl fun K hK => ?_
    have h2 := hR.cell hc2 (by simp)
    go_simp
    exact hK _ _ rfl (Only.refl _ _)
  -- 3: s27 := build 80 #[(0, const (2:i64)), (1, t26)]
  apply rg_ev
  · intro a w hR hf
    obtain ⟨e26, -⟩ := hf
    replace e26 : a.tmps.getD 26 undef = _ := e26
    refine rg_plain rfl fun K hK => ?_
    have e26' := e26
    rw [Array.getD_eq_getD_getElem?] at e26'
    go_simp
    exact hK _ _ rfl (Only.refl _ _)
  -- 4: s28 := move t1
  apply rg_ev
  · intro a w hR hf
    obtain ⟨e1, -⟩ := hf
    replace e1 : a.tmps.getD 1 undef = _ := e1
    refine rg_plain rfl fun K hK => ?_
    go_simp
    exact hK _ _ rfl (Only.refl _ _)
  -- 5: s29 := indexAddr 64 t28 (const (0:i64))
  apply rg_ev
  · intro a w hR hf
    obtain ⟨e28, -⟩ := hf
    replace e28 : a.tmps.getD 28 undef = _ := e28
    refine rg_plain rfl fun K hK => ?_
    go_simp
    exact hK _ _ rfl (Only.refl _ _)
  -- 6: s30 := load 27 t29
  apply rg_ev
  · intro a w hR hf
    obtain ⟨e29, -⟩ := hf
    replace e29 : a.tmps.getD 29 undef = _ := e29
    refine rg_plain rfl fun K hK => ?_
    have h2 := hR.cell hc0 (by simp)
    go_simp
    exact hK _ _ rfl (Only.refl _ _)
  -- 7: s31 := build 80 #[(0, const (0:i64)), (1, t30)]
  apply rg_ev
  · intro a w hR hf
    obtain ⟨e30, -⟩ := hf
    replace e30 : a.tmps.getD 30 undef = _ := e30
    refine rg_plain rfl fun K hK => ?_
    have e30' := e30
    rw [Array.getD_eq_getD_getElem?] at e30'
    go_simp
    exact hK _ _ rfl (Only.refl _ _)
  -- 8: s32 := buildSlice 75 2 #[(0, t27), (1, t31)]
  refine ⟨TwoSh (.slice (some ⟨g2, 0, none⟩) 2 2) (.slice (some ⟨g0, 0, none⟩) 2 2) w2.heap.size, TwoSh.stable, fun a w hR hf => ?_, ?_⟩
  · obtain ⟨e27, e31, -⟩ := hf
    replace e27 : a.tmps.getD 27 undef = _ := e27
    replace e31 : a.tmps.getD 31 undef = _ := e31
    refine rg_plain rfl fun K hK => ?_
    have e27' := e27
    rw [Array.getD_eq_getD_getElem?] at e27'
    have e31' := e31
    rw [Array.getD_eq_getD_getElem?] at e31'
    go_simp
    exact hK _ _ ⟨w.heap.size, rfl, hR.size, Row.newOf _ _ _ _ rfl⟩ (Only.alloc _ _)
  -- 9: s33 := call { value (Operand.func 37), args := #[const (2:i64), const (1:i64), const (3:i64), t32], #[3, 3, 3, 75] }
  refine ⟨TupD [5, 7, 9] 3 w2.heap.size, TupD.stable, fun a w hR hf => ?_, ?_⟩
  · obtain ⟨e32, -⟩ := hf
    replace e32 : TwoSh (.slice (some ⟨g2, 0, none⟩) 2 2) (.slice (some ⟨g0, 0, none⟩) 2 2) w2.heap.size (a.tmps.getD 32 undef) w := e32
    refine rg_plain rfl fun K hK => ?_
    obtain ⟨h, e32, hh, rh⟩ := e32
    go_simp
    have hsh := two_shards rh (HX0.out.only0 hR) (HX2.out.only0 hR)
    refine (decode_any 2 1 3 2 2 (some ⟨h, 0, none⟩) _ w ae ((HE.out.only0 HO2.out).only0 hR) (by decide) (by omega) rfl (by omega) hsh).mono ?_
    rintro e w' ⟨ho, ⟨-, q, c, rfl, own⟩ | ⟨hb, -⟩⟩
    · rw [alive_dec] at own; exact hK _ _ ⟨q, c, rfl, own.weaken hR.size⟩ ho
    · exact absurd (two_good _ _) hb
  -- 10: s23 := move t33
  refine ⟨TupD [5, 7, 9] 3 w2.heap.size, TupD.stable, fun a w hR hf => ?_, ?_⟩
  · obtain ⟨e33, -⟩ := hf
    replace e33 : TupD [5, 7, 9] 3 w2.heap.size (a.tmps.getD 33 undef) w := e33
    refine rg_plain rfl fun K hK => ?_
    generalize hv33 : a.tmps.getD 33 undef = v33 at e33
    go_simp
    exact hK _ _ e33 (Only.refl _ _)
  -- 11: s34 := extract t23 0
  refine ⟨OwnD [5, 7, 9] 3 w2.heap.size, OwnD.stable, fun a w hR hf => ?_, ?_⟩
  · obtain ⟨e23, -⟩ := hf
    replace e23 : TupD [5, 7, 9] 3 w2.heap.size (a.tmps.getD 23 undef) w := e23
    refine rg_plain rfl fun K hK => ?_
    obtain ⟨q, c, e23, ow⟩ := e23
    go_simp
    exact hK _ _ ⟨q, c, rfl, ow⟩ (Only.refl _ _)
  -- 12: s35 := extract t23 1
  apply rg_ev
  · intro a w hR hf
    obtain ⟨e23, -⟩ := hf
    replace e23 : TupD [5, 7, 9] 3 w2.heap.size (a.tmps.getD 23 undef) w := e23
    refine rg_plain rfl fun K hK => ?_
    obtain ⟨q, c, e23, ow⟩ := e23
    go_simp
    exact hK _ _ rfl (Only.refl _ _)
  -- 13: s3 := assign t34
  refine ⟨OwnD [5, 7, 9] 3 w2.heap.size, OwnD.stable, fun a w hR hf => ?_, ?_⟩
  · obtain ⟨e34, -⟩ := hf
    replace e34 : OwnD [5, 7, 9] 3 w2.heap.size (a.tmps.getD 34 undef) w := e34
    refine rg_plain rfl fun K hK => ?_
    generalize hv34 : a.tmps.getD 34 undef = v34 at e34
    go_simp
    exact hK _ _ e34 (Only.refl _ _)
  -- 14: s2 := assign t35
  apply rg_ev
  · intro a w hR hf
    obtain ⟨e35, -⟩ := hf
    replace e35 : a.tmps.getD 35 undef = _ := e35
    refine rg_plain rfl fun K hK => ?_
    go_simp
    exact hK _ _ rfl (Only.refl _ _)
  intro f4 w4 hR4 hf
  dsimp only [mergeT]
  obtain ⟨e3, e2, -⟩ := hf
  replace e3 : OwnD [5, 7, 9] 3 w2.heap.size (f4 3) w4 := e3
  replace e2 : f4 2 = _ := e2
  rw [e2]
  -- A4>>
  obtain ⟨q, c, e3, ow⟩ := e3
  rw [e3]
  obtain ⟨rd, -, hq0, -, -, -⟩ := ow.view
  have hc1 := conv_bytes (P := Tryd.prog) (src := 27) (dst := 9) w4 Tryd.underlying27 Tryd.underlying5 Tryd.underlying9 (n := 3) rd rfl hq0
  have hc2 := conv_bytes (P := Tryd.prog) (src := 27) (dst := 9) (w4.alloc (.cells #[.int .u8 5, .int .u8 7, .int .u8 9] 5)) Tryd.underlying27 Tryd.underlying5 Tryd.underlying9 (c := 3) (n := 3) (Row.newOf w4 5 _ (u8s [5, 7, 9]) rfl).rd0 rfl (by simp)
  have HO4 : Hid (Only [] w0 w4) := Lib.hid (HO2.out.trans0 hR4)
  clear e3 ow rd hq0 hR4
  go_wp2_with fail
  go_ret
  exact ⟨rfl, HO4.out.trans0 (Only.alloc _ _)⟩
end Go.Proofs.YtlgcclhepegggaaDoor
