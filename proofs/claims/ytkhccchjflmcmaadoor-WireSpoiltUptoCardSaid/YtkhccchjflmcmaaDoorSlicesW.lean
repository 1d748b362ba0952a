/- The walks of Go's package slices over bytes: Clone, Grow, Concat, Equal. -/
import Derived.Test.YtkhccchjflmcmaaDoorProg
import Derived.Test.YtkhccchjflmcmaaDoorRegion
import Derived.Test.YtkhccchjflmcmaaDoorOwn
import Derived.Lib.SliceRun
set_option linter.unusedVariables false
namespace Go.Proofs.YtkhccchjflmcmaaDoor
open Go.RowKit

theorem Tryd.infoU8 : (Tryd.prog.info? 5).map (fun i => (i.zero, i.size, i.bytes)) = some (some (.int .u8 0), 1, 1) := by kernel_rfl

theorem clone_any (p : Option Addr) (xs : List UInt8) (n c : Nat) (w : World) (hn : xs.length = n) (hb : n ≤ 140737488355328) (hp : p = none → n = 0 ∧ c = 0) (hx : Rd w p (u8s xs)) :
    Calls Tryd.prog 38 #[.slice p n c] w fun e w' => ∃ p' c', e = .returned (.slice p' n c') ∧ Own w' w.heap.size 5 (.slice p' n c') (u8s xs) ∧ Only [] w w' := by
  have Hn := Lib.hid hn
  have heq := Lib.run_eql_slice_nil (P := Tryd.prog) w 26 5 p n c 0 0 Tryd.underlying26
  cases p with
  | none =>
    obtain ⟨rfl, rfl⟩ := hp rfl
    have hxs : xs = [] := List.eq_nil_of_length_eq_zero hn
    clear hn hp
    go_enter Tryd.func38, Tryd.ntmps38
    go_wp2_with fail
    go_ret
    subst hxs
    exact ⟨none, 0, rfl, Own.nil _ _ _, Only.refl _ _⟩
  | some a =>
    have on := Only.alloc w (.cells #[] 5)
    have rn := Row.new w 5 []
    have ow : Own (w.alloc (.cells #[] 5)) w.heap.size 5 (.slice (some ⟨w.heap.size, 0, none⟩) 0 0) [] := Own.ofRow (vs := []) (rest := []) (Nat.le_refl _) rn rfl (by omega)
    obtain ⟨p', c', w2, hr, o2, h2, h3⟩ := append_owned (P := Tryd.prog) (n := 0) (m := n) (c := c) (bytes := 1) (q := some a) (news := u8s xs) (t := 26) (ty := 26) _ Tryd.underlying26 Tryd.infoU8 rfl ow (hx.only0 on) (by rw [u8s_length, hn]) (by simp) (fun v hv => u8s_one hv) (by omega) (by omega) on.size
    rw [Nat.zero_add] at hr o2
    have Hr := Lib.hid hr
    clear hn hp hr
    go_enter Tryd.func38, Tryd.ntmps38
    go_wp2_with (first | (at_builtin; refine wpl_append (s := .tmp 5) (x := .tmp 6) rfl rfl rfl rfl Hr.out ?_))
    go_ret
    exact ⟨p', c', rfl, o2, on.transN h2 (by simp [blk])|>.drop (by simp)⟩
end Go.Proofs.YtkhccchjflmcmaaDoor
