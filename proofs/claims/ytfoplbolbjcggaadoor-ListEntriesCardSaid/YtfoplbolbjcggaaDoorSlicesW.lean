/- The walks of Go's package slices over bytes: Clone, Grow, Concat, Equal. -/
import Derived.Test.YtfoplbolbjcggaaDoorProg
import Derived.Test.YtfoplbolbjcggaaDoorRegions
import Derived.Test.YtfoplbolbjcggaaDoorOwn
import Derived.Lib.SliceRun
import Derived.Lib.AppendZeros
set_option linter.unusedVariables false
set_option maxRecDepth 100000
namespace Go.Proofs.YtfoplbolbjcggaaDoor
open Go.RowKit

theorem Tryd.infoU8 : (Tryd.prog.info? 5).map (fun i => (i.zero, i.size, i.bytes)) = some (some (.int .u8 0), 1, 1) := by kernel_rfl

theorem clone_any (p : Option Addr) (xs : List UInt8) (n c : Nat) (w : World) (hn : xs.length = n) (hb : n ≤ 140737488355328) (hp : p = none → n = 0 ∧ c = 0) (hx : Rd w p (u8s xs)) :
    Calls Tryd.prog 43 #[.slice p n c] w fun e w' => ∃ p' c', e = .returned (.slice p' n c') ∧ Own w' w.heap.size 5 (.slice p' n c') (u8s xs) ∧ Only [] w w' := by
  have Hn := Lib.hid hn
  have heq := Lib.run_eql_slice_nil (P := Tryd.prog) w 22 5 p n c 0 0 Tryd.underlying22
  cases p with
  | none =>
    obtain ⟨rfl, rfl⟩ := hp rfl
    have hxs : xs = [] := List.eq_nil_of_length_eq_zero hn
    clear hn hp
    go_enter Tryd.func43, Tryd.ntmps43
    go_wp2_with fail
    go_ret
    subst hxs
    exact ⟨none, 0, rfl, Own.nil _ _ _, Only.refl _ _⟩
  | some a =>
    have on := Only.alloc w (.cells #[] 5)
    have rn := Row.new w 5 []
    have ow : Own (w.alloc (.cells #[] 5)) w.heap.size 5 (.slice (some ⟨w.heap.size, 0, none⟩) 0 0) [] := Own.ofRow (vs := []) (rest := []) (Nat.le_refl _) rn rfl (by omega)
    obtain ⟨p', c', w2, hr, o2, h2, h3⟩ := append_owned (P := Tryd.prog) (n := 0) (m := n) (c := c) (bytes := 1) (q := some a) (news := u8s xs) (t := 22) (ty := 22) _ Tryd.underlying22 Tryd.infoU8 rfl ow (hx.only0 on) (by rw [u8s_length, hn]) (by simp) (fun v hv => u8s_one hv) (by omega) (by omega) on.size
    rw [Nat.zero_add] at hr o2
    have Hr := Lib.hid hr
    clear hn hp hr
    go_enter Tryd.func43, Tryd.ntmps43
    go_wp2_with (first | (at_builtin; refine wpl_append (s := .tmp 5) (x := .tmp 6) rfl rfl rfl rfl Hr.out ?_))
    go_ret
    exact ⟨p', c', rfl, o2, on.transN h2 (by simp [blk])|>.drop (by simp)⟩

theorem zeroCells_one (z : Value) (hz : z.cells = #[z]) (k : Nat) : (Builtin.zeroCells z.cells k).toList = List.replicate k z := by
  apply List.ext_getElem
  · simp [Builtin.zeroCells, hz]
  · intro j h1 h2
    simp [Builtin.zeroCells, hz, Nat.mod_one]

/-- append(nil[:0], make([]byte, n)...) -/
theorem append_zeros {P : Program} (w : World) {t tn ty e : TypeId} {kn : IntKind} {n : Nat} (ht : P.underlying t = some (.slice e)) (htn : P.underlying tn = some (.int kn)) (hi : (P.info? e).map (fun i => (i.zero, i.size, i.bytes)) = some (some (.int .u8 0), 1, 1)) (k : IntKind) (h0 : 0 < n) (hb : n ≤ 140737488355328) :
    ∃ g c w', (Builtin.append_ #[t, tn] ty #[.slice none 0 0, .int k n]).run P w = .ok (.slice (some ⟨g, 0, none⟩) n c) w' ∧ n ≤ c ∧ c ≤ 9223372036854775807 ∧ w.heap.size ≤ g ∧ Row w' g e (List.replicate c (.int .u8 0)) ∧ Only [] w w' := by
  obtain ⟨i, hi, hz0, hz1, hz2⟩ := info_parts hi
  have h := Lib.run_append_nil_zeros (P := P) w t tn ty e i (.int .u8 0) k kn ht htn hi hz0 n h0 (by omega) (by omega) (by rw [hz2]; omega)
  have hge := grownCap_ge w n 0 e
  have hle : grownCap w n 0 e ≤ 9223372036854775807 := by
    have := grownCap_le_maxLen w n 0 e (by simp [maxLen]; omega)
    simpa [maxLen] using this
  refine ⟨_, _, _, h, hge, hle, Nat.le_refl _, ?_, (Only.drew w).trans0 (Only.alloc _ _)⟩
  refine Row.newOf w.drew e _ _ ?_
  rw [Array.toList_append, zeroCells_one _ rfl, zeroCells_one _ rfl, List.replicate_append_replicate]
  congr 1; omega

theorem grow_nil (n : Nat) (w : World) (hb : n ≤ 140737488355328) :
    Calls Tryd.prog 113 #[.slice none 0 0, .int .i64 (n : Int)] w fun e w' => ∃ p c, e = .returned (.slice p 0 c) ∧ Own w' w.heap.size 5 (.slice p 0 c) [] ∧ Only [] w w' := by
  by_cases h0 : 0 < n
  · obtain ⟨g, c, w', hr, h1, h2, h3, h4, h5⟩ := append_zeros (P := Tryd.prog) (t := 22) (tn := 3) (ty := 22) (n := n) w Tryd.underlying22 Tryd.underlying3 Tryd.infoU8 .i64 h0 hb
    have Hr := Lib.hid hr
    clear hr
    go_enter Tryd.func113, Tryd.ntmps113
    go_wp2_with (first | (at_builtin; refine wpl_append (s := .tmp 20) (x := .tmp 21) rfl rfl rfl rfl Hr.out ?_))
    go_ret
    exact ⟨_, c, rfl, Own.ofRow (vs := []) (rest := List.replicate c (.int .u8 0)) h3 h4 (by simp) h2, h5⟩
  · obtain rfl : n = 0 := by omega
    go_enter Tryd.func113, Tryd.ntmps113
    go_wp2_with fail
    go_ret
    exact ⟨none, 0, rfl, Own.nil _ _ _, Only.refl _ _⟩

/-- a slice of bytes as an element of a list of slices -/
structure Sl where
  p : Option Addr
  n : Nat
  c : Nat
  bs : List UInt8
def Sl.val (s : Sl) : Value := .slice s.p s.n s.c
def Sl.Ok (w : World) (s : Sl) : Prop := s.bs.length = s.n ∧ (s.p = none → s.n = 0 ∧ s.c = 0) ∧ Rd w s.p (u8s s.bs)
theorem Sl.Ok.only0 {w w' : World} {s : Sl} (h : s.Ok w) (ho : Only [] w w') : s.Ok w' := ⟨h.1, h.2.1, h.2.2.only0 ho⟩
def slLen (l : List Sl) : Nat := (l.map (·.n)).sum
theorem slLen_take (l : List Sl) {j : Nat} {s : Sl} (h : l[j]? = some s) : slLen (l.take (j + 1)) = slLen (l.take j) + s.n := by
  unfold slLen
  rw [List.take_add_one, h]
  simp
theorem slLen_le (l : List Sl) (j : Nat) : slLen (l.take j) ≤ slLen l := by
  unfold slLen
  have : (l.map (·.n)).sum = ((l.take j).map (·.n)).sum + ((l.drop j).map (·.n)).sum := by
    rw [← List.sum_append, ← List.map_append, List.take_append_drop]
  omega

theorem concat_any (S : Option Addr) (l : List Sl) (m c : Nat) (w : World) (hl : l.length = m) (hm : m ≤ 9223372036854775807) (hS : Rd w S (l.map Sl.val)) (hok : ∀ s ∈ l, s.Ok w) (hb : slLen l ≤ 140737488355328) :
    Calls Tryd.prog 85 #[.slice S m c] w fun e w' => ∃ p n c', e = .returned (.slice p n c') ∧ Hid (n = slLen l) ∧ Own w' w.heap.size 5 (.slice p n c') (u8s (l.flatMap (·.bs))) ∧ Only [] w w' := by
  have Hl := Lib.hid hl
  have Hok := Lib.hid hok
  have Hb := Lib.hid hb
  have HS := Lib.hid hS
  have hcell : ∀ (j : Nat) s (wr : World), Only [] w wr → l[j]? = some s → ∃ b off, S = some ⟨b, off, none⟩ ∧ wr.cell? ⟨b, off + j, none⟩ = some (.slice s.p s.n s.c) := by
    intro j s wr ho hj
    have hj' : (l.map Sl.val)[j]? = some s.val := by rw [List.getElem?_map, hj]; rfl
    rcases hS with h | ⟨b, off, h1, h2⟩
    · rw [h] at hj'; cases hj'
    · exact ⟨b, off, h1, ho.cell (h2 j _ hj') (by simp)⟩
  have Hcell := Lib.hid hcell
  clear hl hok hb hS hcell
  go_enter Tryd.func85, Tryd.ntmps85
  go_wp2_with fail
  go_loop [11, 3] (fun i z => ∃ j k : Nat, j ≤ m ∧ i = .int .i64 (j : Int) ∧ z = .int .i64 (k : Int) ∧ Hid (k = slLen (l.take j))) (fun i _ => m - (intOf i).toNat)
  case atStart => exact ⟨0, 0, Nat.zero_le _, rfl, rfl, rfl⟩
  case round =>
    obtain ⟨j, k, hj, rfl, rfl, Hk⟩ := hrel
    by_cases hlt : j < m
    · obtain ⟨s, hs⟩ : ∃ s, l[j]? = some s := ⟨_, List.getElem?_eq_getElem (by rw [Hl.out]; exact hlt)⟩
      obtain ⟨b, off, rfl, hc⟩ := Hcell.out j s w (Only.refl _ _) hs
      have hle := slLen_le l (j + 1)
      have hta := slLen_take l hs
      have hkk := Hk.out
      have hbb := Hb.out
      have hks : k + s.n ≤ 140737488355328 := by omega
      have Hks : Hid (k + s.n = slLen (l.take (j + 1))) := by show _ = _; omega
      clear hle hta hkk hbb
      go_wp2_with fail
      go_round
      case rel => exact ⟨j + 1, k + s.n, by omega, by go_num, by go_num, Hks⟩
      case measure => simp [intOf]; omega
    · obtain rfl : j = m := by omega
      have hkl : k = slLen l := by have := Hk.out; rwa [List.take_of_length_le (by rw [Hl.out]; exact Nat.le_refl _)] at this
      have hkb : k ≤ 140737488355328 := by rw [hkl]; exact Hb.out
      clear hkl
      go_wp2_with fail
      (with_reducible refine (grow_nil k w hkb).mono ?_)
      rintro e w1 ⟨p0, c0, rfl, o1, ho1⟩
      go_wp2_with fail
      go_loopw [27, 6] (fun i v wr => ∃ (q : Nat) (p : Option Addr) (n c1 : Nat), q ≤ j ∧ i = .int .i64 (q : Int) ∧ v = .slice p n c1 ∧ Hid (n = slLen (l.take q)) ∧ Own wr w.heap.size 5 (.slice p n c1) (u8s ((l.take q).flatMap (·.bs))) ∧ Only [] w wr) (fun i _ _ => j - (intOf i).toNat)
      case atStart => exact ⟨0, p0, 0, c0, Nat.zero_le _, rfl, rfl, rfl, o1, ho1⟩
      case round =>
        obtain ⟨q, p, n, c1, hq, rfl, rfl, Hn, o2, ho2⟩ := hrel
        by_cases hlt : q < j
        · obtain ⟨s, hs⟩ : ∃ s, l[q]? = some s := ⟨_, List.getElem?_eq_getElem (by rw [Hl.out]; exact hlt)⟩
          obtain ⟨b, off, rfl, hc⟩ := Hcell.out q s _ ho2 hs
          have hle := slLen_le l (q + 1)
          have hta := slLen_take l hs
          have hkk := Hn.out
          have hbb := Hb.out
          obtain ⟨k1, k2, k3⟩ := Hok.out s (List.mem_of_getElem? hs)
          obtain ⟨p', c', w2, hr, o3, h2, h3⟩ := append_owned (P := Tryd.prog) (n := n) (m := s.n) (c := s.c) (bytes := 1) (q := s.p) (news := u8s s.bs) (t := 22) (ty := 22) _ Tryd.underlying22 Tryd.infoU8 rfl o2 (k3.only0 ho2) (by rw [u8s_length, k1]) k2 (fun v hv => u8s_one hv) (by omega) (by omega) ho2.size
          have Hr := Lib.hid hr
          have h4 : Only [] w w2 := ho2.transN h2 (fun i hi => by
            cases p with
            | none => simp [blk] at hi
            | some a => simp [blk] at hi; subst hi; exact (o2.lt _ rfl).1)
          have Hks : Hid (n + s.n = slLen (l.take (q + 1))) := by show _ = _; omega
          have o4 : Own w2 w.heap.size 5 (.slice p' (n + s.n) c') (u8s ((l.take (q + 1)).flatMap (·.bs))) := by
            rw [List.take_add_one, hs, List.flatMap_append, u8s_append]
            simpa using o3
          clear hle hta hkk hbb hr o2 ho2 k1 k2 k3
          go_wp2_with (first | (at_builtin; refine wpl_append (s := .tmp 31) (x := .tmp 32) rfl rfl rfl rfl Hr.out ?_))
          go_roundw
          case rel => exact ⟨q + 1, p', n + s.n, c', by omega, by go_num, rfl, Hks, o4, h4⟩
          case measure => simp [intOf]; omega
        · obtain rfl : q = j := by omega
          go_wp2_with fail
          go_ret
          have e1 : l.take q = l := List.take_of_length_le (by rw [Hl.out]; exact Nat.le_refl _)
          rw [e1] at Hn o2
          exact ⟨p, n, c1, rfl, Hn, o2, ho2⟩

theorem equal_any (p q : Option Addr) (xs ys : List UInt8) (n m c d : Nat) (b : Bool) (w : World) (hn : xs.length = n) (hm : ys.length = m) (bn : n ≤ 9223372036854775807) (hx : Rd w p (u8s xs)) (hy : Rd w q (u8s ys)) (hb : (xs == ys) = b) :
    Calls Tryd.prog 66 #[.slice p n c, .slice q m d] w fun e w' => e = .returned (.bool b) ∧ Drew w w' := by
  have Hn := Lib.hid hn
  have Hm := Lib.hid hm
  have Hb := Lib.hid hb
  by_cases hnm : n = m
  · subst hnm
    clear hn hm hb
    go_enter Tryd.func66, Tryd.ntmps66
    go_wp2_with fail
    go_loopw [13] (fun i wr => ∃ j : Nat, j ≤ n ∧ i = .int .i64 (j : Int) ∧ Hid (xs.take j = ys.take j) ∧ Drew w wr) (fun i _ => n - (intOf i).toNat)
    case atStart => exact ⟨0, Nat.zero_le _, rfl, rfl, Drew.refl _⟩
    case round =>
      obtain ⟨j, hj, rfl, Hj, hd⟩ := hrel
      by_cases hlt : j < n
      · obtain ⟨b1, off1, rfl, hxc⟩ := (hx.only0 hd.only).bytes (by rw [Hn.out]; omega)
        obtain ⟨b2, off2, rfl, hyc⟩ := (hy.only0 hd.only).bytes (by rw [Hm.out]; omega)
        have c1 := hxc j (by rw [Hn.out]; omega)
        have c2 := hyc j (by rw [Hm.out]; omega)
        clear hxc hyc
        have hxj : xs[j]? = some (xs[j]'(by rw [Hn.out]; omega)) := List.getElem?_eq_getElem _
        have hyj : ys[j]? = some (ys[j]'(by rw [Hm.out]; omega)) := List.getElem?_eq_getElem _
        generalize (xs[j]'(by rw [Hn.out]; omega)) = x at c1 hxj
        generalize (ys[j]'(by rw [Hm.out]; omega)) = y at c2 hyj
        by_cases hxy : x = y
        · subst hxy
          have Hxj := Lib.hid hxj
          have Hyj := Lib.hid hyj
          clear hxj hyj
          go_wp2_with fail
          go_quiet (fail)
          go_wp2_with fail
          go_roundw
          case rel => exact ⟨j + 1, by omega, by go_num, Lib.hid (by rw [List.take_add_one, List.take_add_one, Hj.out, Hxj.out, Hyj.out]), hd.trans (Drew.N _ _)⟩
          case measure => simp [intOf]; omega
        · have ht : ((x.toNat : Int) == (y.toNat : Int)) = false := by
            rw [beq_eq_false_iff_ne]
            intro h
            exact hxy (UInt8.toNat_inj.1 (by omega))
          have hfin : b = false := by
            rw [← Hb.out, beq_eq_false_iff_ne]
            rintro rfl
            rw [hxj] at hyj
            exact hxy (Option.some.inj hyj)
          subst hfin
          clear hxj hyj hxy
          go_wp2_with fail
          go_quiet (fail)
          go_wp2_with fail
          go_ret
          exact ⟨rfl, hd.trans (Drew.N _ _)⟩
      · obtain rfl : j = n := by omega
        have e1 : xs = ys := by
          have h1 : xs.take j = xs := List.take_of_length_le (by rw [Hn.out]; exact Nat.le_refl _)
          have h2 : ys.take j = ys := List.take_of_length_le (by rw [Hm.out]; exact Nat.le_refl _)
          rw [← h1, ← h2]; exact Hj.out
        have hfin : b = true := by rw [← Hb.out, e1]; simp
        subst hfin
        clear e1
        go_wp2_with fail
        go_ret
        exact ⟨rfl, hd⟩
  · have hfin : b = false := by
      rw [← hb, beq_eq_false_iff_ne]
      rintro rfl
      omega
    subst hfin
    have ht : ((n : Int) == (m : Int)) = false := by simp; omega
    clear hn hm hb
    go_enter Tryd.func66, Tryd.ntmps66
    go_wp2_with fail
    go_ret
    exact ⟨rfl, Drew.refl _⟩
end Go.Proofs.YtfoplbolbjcggaaDoor
