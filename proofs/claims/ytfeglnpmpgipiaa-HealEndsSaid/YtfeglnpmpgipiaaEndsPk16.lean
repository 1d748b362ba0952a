/- EndsPk, part 16: RefHexW. -/
import Derived.Test.YtfeglnpmpgipiaaEndsPk03
import Derived.Test.YtfeglnpmpgipiaaEndsPk13
import Derived.Test.YtfeglnpmpgipiaaEndsPk15
set_option linter.unusedVariables false
set_option maxRecDepth 100000
section
set_option linter.unusedVariables false
set_option maxRecDepth 100000
namespace Go.Proofs.Ytfeglnpmpgipiaa
open Go.RowKit
def SlB (base m : Nat) (zs : List UInt8) : Value → World → Prop := fun v a => ∃ p c, v = .slice p m c ∧ Own a base 5 (.slice p m c) (u8s zs)
theorem SlB.stable (base m : Nat) (zs : List UInt8) : Stable (Only []) (SlB base m zs) := fun _ _ _ ⟨p, c, h1, h2⟩ ho => ⟨p, c, h1, h2.only0 ho⟩
set_option maxHeartbeats 2000000 in
theorem refHex_any (p0 : Option Addr) (xs : List UInt8) (n c0 : Nat) (ww : World) (hn : xs.length = n) (hb : 2 * n ≤ 140737488355328) (hx : Rd ww p0 (u8s xs)) :
  Calls Try.prog 52 #[.slice p0 n c0] ww fun e w' => e = .returned (.string ⟨(hexB xs).toArray⟩) ∧ Only [] ww w' := by
 have hfin : hexB (xs.take n) = hexB xs := (by rw [List.take_of_length_le (by omega)]); have Hfin := Lib.hid hfin; clear hfin
 go_enter Try.func52, Try.ntmps52
 go_wp2_with fail
 go_loopw [10, 4] (fun i v wr => ∃ (j m : Nat) (p : Option Addr) (c : Nat) (ys : List UInt8), i = .int .i64 (j : Int) ∧ j ≤ n ∧ v = .slice p m c ∧ m = 2 * j ∧ Hid (ys = hexB (xs.take j)) ∧ Hid (Own wr ww.heap.size 5 (.slice p m c) (u8s ys)) ∧ Hid (Only [] ww wr)) (fun i _ _ => n - (intOf i).toNat)
 case atStart => exact ⟨0, 0, _, _, [], rfl, by omega, rfl, rfl, Lib.hid rfl, Lib.hid (Own.ofRow (vs := []) (rest := []) (Nat.le_refl _) (Row.new ww 5 []) rfl (by omega)), Lib.hid (Only.alloc ww _)⟩
 case round =>
  obtain ⟨j, m, p, c, ys, rfl, hj, rfl, hm, Hys, O, Ho⟩ := hrel
  by_cases hlt : j < n
  ·obtain ⟨b, off, rfl, hyc⟩ := hx.bytes (by omega); have hc := Ho.out.cell (hyc j (by omega)) (by simp); have htk : xs.take (j + 1) = xs.take j ++ [xs[j]] := (by rw [List.take_add_one, List.getElem?_eq_getElem (by omega)]; rfl); generalize xs[j] = x at hc htk; have hxl := x.toNat_lt; have hi1 : ∀ w, (Instr.index 9 (.string ⟨#[48, 49, 50, 51, 52, 53, 54, 55, 56, 57, 97, 98, 99, 100, 101, 102]⟩) (.int .u8 ((x.toNat : Int) / 16))).run Try.prog w = .ok (.int .u8 ((dg (x.toNat / 16)).toNat : Int)) w := fun w => by have := run_hex_index w (x.toNat / 16) (by omega) .u8; rwa [Int.natCast_ediv] at this
   have hi2 : ∀ w, (Instr.index 9 (.string ⟨#[48, 49, 50, 51, 52, 53, 54, 55, 56, 57, 97, 98, 99, 100, 101, 102]⟩) (.int .u8 ((x.toNat : Int) % 16))).run Try.prog w = .ok (.int .u8 ((dg (x.toNat % 16)).toNat : Int)) w := fun w => (by have := run_hex_index w (x.toNat % 16) (by omega) .u8; rwa [Int.natCast_emod] at this); have hnew : hexB (xs.take (j + 1)) = ys ++ [dg (x.toNat / 16), dg (x.toNat % 16)] := (by rw [htk, hexB_app, hexB_one, ← Hys.out]; rfl); generalize dg (x.toNat / 16) = d1 at hi1 hnew; generalize dg (x.toNat % 16) = d2 at hi2 hnew; have Hw1 : Hid (IntKind.u8.wrap ((x.toNat : Int) / 16) = (x.toNat : Int) / 16) := Lib.hid (by simp [IntKind.wrap, IntKind.bits, IntKind.signed]; omega)
   have Hw2 : Hid (IntKind.u8.wrap ((x.toNat : Int) % 16) = (x.toNat : Int) % 16) := Lib.hid (by simp [IntKind.wrap, IntKind.bits, IntKind.signed]; omega); have hmb : m + 2 ≤ 140737488355328 := (by omega); have Hm := Lib.hid hm; have Hnew := Lib.hid hnew; have Hi1 := Lib.hid hi1; have Hi2 := Lib.hid hi2; have Hn := Lib.hid hn
   have hpl : ∀ i ∈ blk p, i < wr.heap.size := fun i hi => by
    cases p with
    | none => simp [blk] at hi
    | some a => simp [blk] at hi; subst hi; exact (O.out.lt _ rfl).2
   have hpo := O.out.blk; clear hyc hx hi1 hi2 htk hn hnew hm; go_wp2_with fail; have hRr : ∀ a, Only (blk p) a a := fun a => Only.refl _ _; have hRt : ∀ a b e, Only (blk p) a b → Only (blk p) b e → Only (blk p) a e := fun a b e h h2 => h.trans h2 (fun i hi _ => hi); have hRd : Only (blk p) wr wr.drew := (Only.drew _).mono (by simp); have hC0 : ∀ i ∈ [10], (fun (_ : Nat) (a : World) => Only [] wr a) i wr.drew := fun _ _ => Only.drew _; refine wp_region_rg4 (Only (blk p)) (Dirt [(10, blk p)]) (fun (_ : Nat) (a : World) => Only [] wr a) [10] [[(4, none)], [(3, none)], [(6, none)], [(16, some 0)], [(15, some 2), (17, some 0)], [(3, none)], [(6, none)], [(20, some 0)], [(19, some 2), (21, some 0)], [(18, some 4), (22, some 0)], [(14, some 9), (23, some 0)], [(24, some 0)]] [(4, 0)] [none, none, none, none, some 4, none, none, none, none, none, none, none, none, none, some 14, some 15, some 16, some 17, some 18, some 19, some 20, some 21, some 22, some 23, some 24, none, none, none] (by kernel_rfl) rfl (by kernel_rfl) hRr hRt (fun _ _ => Only.refl _ _) hRd hC0 (by kernel_rfl) (by kernel_rfl) ?_
   apply rgd_ev
   ·intro a w hR hC hf; obtain ⟨e4, -⟩ := hf; replace e4 : a.tmps.getD 4 undef = _ := e4; refine rg_plain rfl fun K hK => ?_; go_simp; exact hK _ _ rfl ⟨hRr _, Only.refl _ _, fun _ _ _ _ h => h⟩
   apply rgd_ev
   ·intro a w hR hC hf; obtain ⟨e3, -⟩ := hf; replace e3 : a.tmps.getD 3 undef = _ := e3; refine rg_plain rfl fun K hK => ?_; go_simp; exact hK _ _ rfl ⟨hRr _, Only.refl _ _, fun _ _ _ _ h => h⟩
   apply rgd_ev
   ·intro a w hR hC hf; obtain ⟨e6, -⟩ := hf; replace e6 : a.tmps.getD 6 undef = _ := e6; refine rg_plain rfl fun K hK => ?_; go_simp; exact hK _ _ rfl ⟨hRr _, Only.refl _ _, fun _ _ _ _ h => h⟩
   apply rgd_ev
   ·intro a w hR hC hf; obtain ⟨e16, -⟩ := hf; replace e16 : a.tmps.getD 16 undef = _ := e16; refine rg_plain rfl fun K hK => ?_; have hw := Hw1.out; go_simp; exact hK _ _ rfl ⟨hRr _, Only.refl _ _, fun _ _ _ _ h => h⟩
   apply rgd_ev
   ·intro a w hR hC hf; obtain ⟨e15, e17, -⟩ := hf; replace e15 : a.tmps.getD 15 undef = _ := e15; replace e17 : a.tmps.getD 17 undef = _ := e17; refine rg_plain rfl fun K hK => ?_; exact rg_index (x := .tmp 15) (y := .tmp 17) rfl e15 e17 (Hi1.out _) (hK _ _ rfl ⟨hRr _, Only.refl _ _, fun _ _ _ _ h => h⟩)
   apply rgd_ev
   ·intro a w hR hC hf; obtain ⟨e3, -⟩ := hf; replace e3 : a.tmps.getD 3 undef = _ := e3; refine rg_plain rfl fun K hK => ?_; go_simp; exact hK _ _ rfl ⟨hRr _, Only.refl _ _, fun _ _ _ _ h => h⟩
   apply rgd_ev
   ·intro a w hR hC hf; obtain ⟨e6, -⟩ := hf; replace e6 : a.tmps.getD 6 undef = _ := e6; refine rg_plain rfl fun K hK => ?_; go_simp; exact hK _ _ rfl ⟨hRr _, Only.refl _ _, fun _ _ _ _ h => h⟩
   apply rgd_ev
   ·intro a w hR hC hf; obtain ⟨e20, -⟩ := hf; replace e20 : a.tmps.getD 20 undef = _ := e20; refine rg_plain rfl fun K hK => ?_; have hw := Hw2.out; go_simp; exact hK _ _ rfl ⟨hRr _, Only.refl _ _, fun _ _ _ _ h => h⟩
   apply rgd_ev
   ·intro a w hR hC hf; obtain ⟨e19, e21, -⟩ := hf; replace e19 : a.tmps.getD 19 undef = _ := e19; replace e21 : a.tmps.getD 21 undef = _ := e21; refine rg_plain rfl fun K hK => ?_; exact rg_index (x := .tmp 19) (y := .tmp 21) rfl e19 e21 (Hi2.out _) (hK _ _ rfl ⟨hRr _, Only.refl _ _, fun _ _ _ _ h => h⟩)
   refine ⟨OwnB 5 [d1, d2] wr.heap.size, stands_own _ _ _ (by intro x hx hk; obtain rfl := List.mem_singleton.1 hx; exact hpl), fun a w hR hC hf => ?_, ?_⟩
   ·obtain ⟨e18, e22, -⟩ := hf; replace e18 : a.tmps.getD 18 undef = _ := e18; replace e22 : a.tmps.getD 22 undef = _ := e22; refine rg_plain rfl fun K hK => ?_; have e18q : a.tmps[18]?.getD undef = .int .u8 (d1.toNat : Int) := (by simpa using e18); have e22q : a.tmps[22]?.getD undef = .int .u8 (d2.toNat : Int) := (by simpa using e22); go_simp; exact hK _ _ ⟨_, 2, 2, rfl, rfl, Own.ofRow (vs := u8s [d1, d2]) (rest := []) hR.size (Row.new w _ (u8s [d1, d2])) rfl (by omega)⟩ ⟨(Only.alloc w _).mono (by simp), Only.alloc w _, fun i _ _ _ hc => hc.trans0 (Only.alloc w _)⟩
   refine ⟨SlB ww.heap.size (m + 2) (ys ++ [d1, d2]), stands_of (SlB.stable _ _ _) (by intro x hx hk; obtain rfl := List.mem_singleton.1 hx; exact Bool.noConfusion (hk.symm.trans (by kernel_rfl : _ = true))), fun a w hR hC hf => ?_, ?_⟩
   ·obtain ⟨e14, e23, -⟩ := hf; replace e14 : a.tmps.getD 14 undef = _ := e14; replace e23 : OwnB 5 [d1, d2] wr.heap.size (a.tmps.getD 23 undef) w := e23; refine rg_plain rfl fun K hK => ?_; have hC10 := hC 10 (by simp) (by kernel_rfl); obtain ⟨q', n', k', eB, hlB, owB⟩ := e23; obtain rfl : n' = 2 := hlB.symm; have vB := owB.view; obtain ⟨p'', c'', w'', hra, oA, hA, hpA⟩ := append_owned (P := Try.prog) (n := m) (m := 2) (bytes := 1) (c := k') (news := u8s [d1, d2]) (t := 100) (ty := 100) w Try.underlying100 infoU8s rfl (O.out.only0 hC10) vB.1 rfl vB.2.2.1 (fun v hv => u8s_one hv) (by omega) (by omega) (by have := Ho.out.size; have := hC10.size; omega)
    refine rg_append (s := .tmp 14) (x := .tmp 23) rfl e14 eB hra ?_; exact hK _ _ ⟨p'', c'', rfl, by rw [u8s_append]; exact oA⟩ ⟨hA, hA, fun i hi hne ha _ => absurd (List.mem_singleton.1 hi) hne⟩
   refine ⟨SlB ww.heap.size (m + 2) (ys ++ [d1, d2]), stands_of (SlB.stable _ _ _) (by intro x hx hk; obtain rfl := List.mem_singleton.1 hx; exact Bool.noConfusion (hk.symm.trans (by kernel_rfl : _ = true))), fun a w hR hC hf => ?_, ?_⟩
   ·obtain ⟨e24, -⟩ := hf; replace e24 : SlB ww.heap.size (m + 2) (ys ++ [d1, d2]) (a.tmps.getD 24 undef) w := e24; refine rg_plain rfl fun K hK => ?_; generalize hv24 : a.tmps.getD 24 undef = v24 at e24; go_simp; exact hK _ _ e24 ⟨hRr _, Only.refl _ _, fun _ _ _ _ h => h⟩
   intro f6 w6 hR6 hf hz6; dsimp only [mergeT]; obtain ⟨e4, -⟩ := hf; replace e4 : SlB ww.heap.size (m + 2) (ys ++ [d1, d2]) (f6 4) w6 := e4; obtain ⟨p', c', e4, o4⟩ := e4; rw [e4]; clear e4; have O4 := Lib.hid o4; have Ho4 := Lib.hid (Ho.out.transN hR6 (fun k hk => hpo k hk)); clear hz6 hR6 hC0 hRt hRr hRd o4 O Ho Hys hpl hpo; go_wp2_with fail; refine ⟨⟨j + 1, m + 2, p', c', ys ++ [d1, d2], by go_num, by omega, rfl, by rw [Hm.out]; omega, Lib.hid Hnew.out.symm, O4, Ho4⟩, by simp [intOf]; omega⟩
  ·obtain rfl : j = n := (by omega); have hv := O.out.view; have hc : (Go.convert 100 9 (.slice p m c)).run Try.prog wr = .ok (.string ⟨ys.toArray⟩) wr := conv_bytes wr Try.underlying100 Try.underlying5 Try.underlying9 hv.1 (by have := hv.2.1; rwa [u8s_length] at this) hv.2.2.1; rw [Hys.out, Hfin.out] at hc; have Hm := Lib.hid hm; clear hm hv hx; go_wp2_with fail
   go_ret
   exact ⟨rfl, Ho.out⟩
end Go.Proofs.Ytfeglnpmpgipiaa
end
