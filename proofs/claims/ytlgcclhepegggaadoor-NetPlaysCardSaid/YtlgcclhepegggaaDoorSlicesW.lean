/- The walks of Go's package slices over bytes: Clone, Grow, Concat, Equal. -/
import Derived.Test.YtlgcclhepegggaaDoorProg
import Derived.Test.YtlgcclhepegggaaDoorRegion
import Derived.Test.YtlgcclhepegggaaDoorOwn
import Derived.Lib.SliceRun
import Derived.Lib.AppendZeros
set_option linter.unusedVariables false
namespace Go.Proofs.YtlgcclhepegggaaDoor
open Go.RowKit

theorem Tryd.infoU8 : (Tryd.prog.info? 5).map (fun i => (i.zero, i.size, i.bytes)) = some (some (.int .u8 0), 1, 1) := by kernel_rfl

theorem clone_any (p : Option Addr) (xs : List UInt8) (n c : Nat) (w : World) (hn : xs.length = n) (hb : n ≤ 140737488355328) (hp : p = none → n = 0 ∧ c = 0) (hx : Rd w p (u8s xs)) :
    Calls Tryd.prog 55 #[.slice p n c] w fun e w' => ∃ p' c', e = .returned (.slice p' n c') ∧ Own w' w.heap.size 5 (.slice p' n c') (u8s xs) ∧ Only [] w w' := by
  have Hn := Lib.hid hn
  have heq := Lib.run_eql_slice_nil (P := Tryd.prog) w 27 5 p n c 0 0 Tryd.underlying27
  cases p with
  | none =>
    obtain ⟨rfl, rfl⟩ := hp rfl
    have hxs : xs = [] := List.eq_nil_of_length_eq_zero hn
    clear hn hp
    go_enter Tryd.func55, Tryd.ntmps55
    go_wp2_with fail
    go_ret
    subst hxs
    exact ⟨none, 0, rfl, Own.nil _ _ _, Only.refl _ _⟩
  | some a =>
    have on := Only.alloc w (.cells #[] 5)
    have rn := Row.new w 5 []
    have ow : Own (w.alloc (.cells #[] 5)) w.heap.size 5 (.slice (some ⟨w.heap.size, 0, none⟩) 0 0) [] := Own.ofRow (vs := []) (rest := []) (Nat.le_refl _) rn rfl (by omega)
    obtain ⟨p', c', w2, hr, o2, h2, h3⟩ := append_owned (P := Tryd.prog) (n := 0) (m := n) (c := c) (bytes := 1) (q := some a) (news := u8s xs) (t := 27) (ty := 27) _ Tryd.underlying27 Tryd.infoU8 rfl ow (hx.only0 on) (by rw [u8s_length, hn]) (by simp) (fun v hv => u8s_one hv) (by omega) (by omega) on.size
    rw [Nat.zero_add] at hr o2
    have Hr := Lib.hid hr
    clear hn hp hr
    go_enter Tryd.func55, Tryd.ntmps55
    go_wp2_with (first | (at_builtin; refine wpl_append (s := .tmp 5) (x := .tmp 6) rfl rfl rfl rfl Hr.out ?_))
    go_ret
    exact ⟨p', c', rfl, o2, on.transN h2 (by simp [blk])|>.drop (by simp)⟩

theorem zeroCells_one (z : Value) (hz : z.cells = #[z]) (k : Nat) : (Builtin.zeroCells z.cells k).toList = List.replicate k z := by
  apply List.ext_getElem
  · simp [Builtin.zeroCells, hz]
  · intro j h1 h2
    simp [Builtin.zeroCells, hz, Nat.mod_one]

/-- append(nil[:0], make([]byte, n)...) -/
theorem append_zeros {P : Program} (w : World) {t tn ty e : TypeId} {kn : IntKind} {n : Nat} (ht : P.underlying t = some (.slice e)) (htn : P.underlying tn = some (.int kn)) (hi : (P.info? e).map (fun i => (i.zero, i.size, i.bytes)) = some (some (.int .u8 0), 1, 1)) (k : IntKind) (h0 : 0 < n) (hb : n ≤ 140737488355328) :
    ∃ g c w', (Builtin.append_ #[t, tn] ty #[.slice none 0 0, .int k n]).run P w = .ok (.slice (some ⟨g, 0, none⟩) n c) w' ∧ n ≤ c ∧ c ≤ 9223372036854775807 ∧ w.heap.size ≤ g ∧ Row w' g e (List.replicate c (.int .u8 0)) ∧ Only [] w w' := by
  obtain ⟨i, hi, hz0, hz1, hz2⟩ := info_parts hi
  have h := Lib.run_append_nil_zeros (P := P) w t tn ty e i (.int .u8 0) k kn ht htn hi hz0 n h0 (by omega) (by omega) (by rw [hz2]; omega)
  have hge := grownCap_ge w n 0 e
  have hle : grownCap w n 0 e ≤ 9223372036854775807 := by
    have := grownCap_le_maxLen w n 0 e (by simp [maxLen]; omega)
    simpa [maxLen] using this
  refine ⟨_, _, _, h, hge, hle, Nat.le_refl _, ?_, (Only.drew w).trans0 (Only.alloc _ _)⟩
  refine Row.newOf w.drew e _ _ ?_
  rw [Array.toList_append, zeroCells_one _ rfl, zeroCells_one _ rfl, List.replicate_append_replicate]
  congr 1; omega


/-- a slice of bytes as an element of a list of slices -/
structure Sl where
  p : Option Addr
  n : Nat
  c : Nat
  bs : List UInt8
def Sl.val (s : Sl) : Value := .slice s.p s.n s.c
def Sl.Ok (w : World) (s : Sl) : Prop := s.bs.length = s.n ∧ (s.p = none → s.n = 0 ∧ s.c = 0) ∧ Rd w s.p (u8s s.bs)
theorem Sl.Ok.only0 {w w' : World} {s : Sl} (h : s.Ok w) (ho : Only [] w w') : s.Ok w' := ⟨h.1, h.2.1, h.2.2.only0 ho⟩
def slLen (l : List Sl) : Nat := (l.map (·.n)).sum
theorem slLen_take (l : List Sl) {j : Nat} {s : Sl} (h : l[j]? = some s) : slLen (l.take (j + 1)) = slLen (l.take j) + s.n := by
  unfold slLen
  rw [List.take_add_one, h]
  simp
theorem slLen_le (l : List Sl) (j : Nat) : slLen (l.take j) ≤ slLen l := by
  unfold slLen
  have : (l.map (·.n)).sum = ((l.take j).map (·.n)).sum + ((l.drop j).map (·.n)).sum := by
    rw [← List.sum_append, ← List.map_append, List.take_append_drop]
  omega


end Go.Proofs.YtlgcclhepegggaaDoor
