/- The walks of wire.Seal and wire.Open. -/
import Derived.Test.YtfoplbolbjcggaaDoorWireW
import Derived.Test.YtfoplbolbjcggaaDoorErrs
set_option linter.unusedVariables false
set_option maxRecDepth 100000
namespace Go.Proofs.YtfoplbolbjcggaaDoor
open Go.RowKit

/-- a sum's bytes -/
def sb (s : UInt32) : List UInt8 := [UInt8.ofNat (s.toNat / 16777216), UInt8.ofNat (s.toNat / 65536), UInt8.ofNat (s.toNat / 256), UInt8.ofNat s.toNat]
theorem sb_length (s : UInt32) : (sb s).length = 4 := rfl
theorem u8_ofNat (k : Nat) : u8 (UInt8.ofNat k) = .int .u8 ((k : Int) % 256) := by
  unfold u8
  rw [UInt8.toNat_ofNat']; simp
theorem sb_cells (s : UInt32) : u8s (sb s) = [.int .u8 ((s.toNat : Int) / 16777216 % 256), .int .u8 ((s.toNat : Int) / 65536 % 256), .int .u8 ((s.toNat : Int) / 256 % 256), .int .u8 ((s.toNat : Int) % 256)] := by
  simp only [sb, u8s, List.map_cons, List.map_nil, u8_ofNat, Int.natCast_ediv]
  rfl
/-- sealed bytes -/
def sealB (xs : List UInt8) : List UInt8 := xs ++ sb (wsum 2166136261 xs)
theorem sealB_length (xs : List UInt8) : (sealB xs).length = xs.length + 4 := by simp [sealB, sb_length]

theorem seal_any (p : Option Addr) (xs : List UInt8) (n c : Nat) (w : World) (hn : xs.length = n) (hb : n ≤ 140737488351232) (hp : p = none → n = 0 ∧ c = 0) (hx : Rd w p (u8s xs)) :
    Calls Tryd.prog 60 #[.slice p n c] w fun e w' => ∃ p' c', e = .returned (.slice p' (n + 4) c') ∧ Own w' w.heap.size 5 (.slice p' (n + 4) c') (u8s (sealB xs)) ∧ Only [] w w' := by
  have Hn := Lib.hid hn
  have Hp := Lib.hid hp
  have hsum := sum_any p xs n c w hn (by omega) hp hx
  clear hn hp
  go_enter Tryd.func60, Tryd.ntmps60
  go_wp2_with fail
  refine hsum.mono ?_
  rintro e w1 ⟨rfl, rfl⟩
  go_wp2_with fail
  have hsb := sb_cells (wsum 2166136261 xs)
  have o1 := Only.alloc w (.cells (u8s (sb (wsum 2166136261 xs))).toArray 5)
  have r1 := Row.new w 5 (u8s (sb (wsum 2166136261 xs)))
  generalize hw1 : w.alloc (.cells (u8s (sb (wsum 2166136261 xs))).toArray 5) = w1 at o1 r1
  rw [hsb] at hw1
  have hw1s : w1.heap.size = w.heap.size + 1 := by rw [← hw1]; simp
  rw [hw1, ← hw1s]
  have o2 := Only.alloc w1 (.cells #[.slice p n c, .slice (some ⟨w.heap.size, 0, none⟩) 4 4] 22)
  have r2 : Row (w1.alloc (.cells #[.slice p n c, .slice (some ⟨w.heap.size, 0, none⟩) 4 4] 22)) w1.heap.size 22 ([⟨p, n, c, xs⟩, ⟨some ⟨w.heap.size, 0, none⟩, 4, 4, sb (wsum 2166136261 xs)⟩].map Sl.val) := Row.new w1 _ _
  have o12 := o1.trans0 o2
  have hok : ∀ s ∈ ([⟨p, n, c, xs⟩, ⟨some ⟨w.heap.size, 0, none⟩, 4, 4, sb (wsum 2166136261 xs)⟩] : List Sl), s.Ok (w1.alloc (.cells #[.slice p n c, .slice (some ⟨w.heap.size, 0, none⟩) 4 4] 22)) := by
    intro s hs
    rcases List.mem_cons.1 hs with rfl | hs
    · exact ⟨Hn.out, Hp.out, hx.only0 o12⟩
    · obtain rfl := List.mem_singleton.1 hs
      exact ⟨rfl, by simp, (r1.only0 o2).rd0⟩
  have hsl : slLen [⟨p, n, c, xs⟩, ⟨some ⟨w.heap.size, 0, none⟩, 4, 4, sb (wsum 2166136261 xs)⟩] = n + 4 := by simp [slLen]
  have hcc := concat_any (some ⟨w1.heap.size, 0, none⟩) _ 2 2 _ rfl (by omega) r2.rd0 hok (by rw [hsl]; omega)
  refine hcc.mono ?_
  rintro e w3 ⟨p', n', c', rfl, Hn', o3, h3⟩
  obtain rfl : n' = n + 4 := Hn'.out.trans hsl
  clear hsb hok hsl
  go_wp2_with fail
  go_ret
  refine ⟨p', c', rfl, ?_, o12.trans0 h3⟩
  have := o3.weaken (base' := w.heap.size) o12.size
  simpa [sealB] using this

/-- what Open answers -/
def openOk (xs : List UInt8) : Bool := decide (4 ≤ xs.length) && (sealB (xs.take (xs.length - 4)) == xs)

theorem open_good (p : Option Addr) (xs : List UInt8) (n c : Nat) (w : World) (hn : xs.length = n) (hnc : n ≤ c) (hb : n ≤ 140737488351236) (hc63 : c ≤ 9223372036854775807) (hp : p = none → n = 0 ∧ c = 0) (hx : Rd w p (u8s xs)) (h4 : 4 ≤ n) (hok : sealB (xs.take (n - 4)) = xs) :
    Calls Tryd.prog 92 #[.slice p n c] w fun e w' => ∃ p' c', e = .returned (.tuple #[.slice p' (n - 4) c', .nilIface]) ∧ Own w' w.heap.size 5 (.slice p' (n - 4) c') (u8s (xs.take (n - 4))) ∧ Only [] w w' := by
  obtain ⟨k, rfl⟩ : ∃ k, n = k + 4 := ⟨n - 4, by omega⟩
  rw [Nat.add_sub_cancel] at hok ⊢
  obtain ⟨b, off, rfl, _⟩ := hx.bytes (by omega)
  have hxk : Rd w (some ⟨b, off, none⟩) (u8s (xs.take k)) := by rw [← u8s_take]; exact hx.take k
  have hlk : (xs.take k).length = k := by rw [List.length_take]; omega
  have hse := fun c => seal_any (some ⟨b, off, none⟩) (xs.take k) k c w hlk (by omega) (by simp) hxk
  have Hn := Lib.hid hn
  have Hok := Lib.hid hok
  have Hlk := Lib.hid hlk
  clear hn hok hlk
  go_enter Tryd.func92, Tryd.ntmps92
  go_wp2_with fail
  refine (hse _).mono ?_
  rintro e w1 ⟨p1, c1, rfl, o1, h1⟩
  go_wp2_with fail
  obtain ⟨rd1, _, _, _, _, _⟩ := o1.view
  have heq := equal_any p1 (some ⟨b, off, none⟩) (sealB (xs.take k)) xs (k + 4) (k + 4) c1 c true w1 (by rw [sealB_length, Hlk.out]) Hn.out (by omega) rd1 (hx.only0 h1) (by rw [Hok.out]; simp)
  refine heq.mono ?_
  rintro e w2 ⟨rfl, hd⟩
  have h2 := h1.trans0 hd.only
  go_wp2_with fail
  have hcl := fun c => clone_any (some ⟨b, off, none⟩) (xs.take k) k c w2 Hlk.out (by omega) (by simp) (hxk.only0 h2)
  refine (hcl _).mono ?_
  rintro e w3 ⟨p3, c3, rfl, o3, h3⟩
  go_wp2_with fail
  go_ret2
  exact ⟨p3, c3, rfl, o3.weaken h2.size, h2.trans0 h3⟩

theorem open_short (p : Option Addr) (n c : Nat) (w : World) (E : Addr) (hE : ErrAt w 3 E) (h4 : n < 4) :
    Calls Tryd.prog 92 #[.slice p n c] w fun e w' => e = .returned (.tuple #[.slice none 0 0, .iface 246 (.pointer (some E))]) ∧ Only [] w w' := by
  have hc := hE.cell
  go_enter Tryd.func92, Tryd.ntmps92
  go_wp2_with fail
  go_quiet (fail)
  go_wp2_with fail
  go_ret2
  exact ⟨rfl, Only.drewN _ _⟩

theorem open_bad (p : Option Addr) (xs : List UInt8) (n c : Nat) (w : World) (E : Addr) (hE : ErrAt w 0 E) (hn : xs.length = n) (hnc : n ≤ c) (hb : n ≤ 140737488351236) (hc63 : c ≤ 9223372036854775807) (hp : p = none → n = 0 ∧ c = 0) (hx : Rd w p (u8s xs)) (h4 : 4 ≤ n) (hbad : sealB (xs.take (n - 4)) ≠ xs) :
    Calls Tryd.prog 92 #[.slice p n c] w fun e w' => e = .returned (.tuple #[.slice none 0 0, .iface 246 (.pointer (some E))]) ∧ Only [] w w' := by
  obtain ⟨k, rfl⟩ : ∃ k, n = k + 4 := ⟨n - 4, by omega⟩
  rw [Nat.add_sub_cancel] at hbad
  obtain ⟨b, off, rfl, _⟩ := hx.bytes (by omega)
  have hxk : Rd w (some ⟨b, off, none⟩) (u8s (xs.take k)) := by rw [← u8s_take]; exact hx.take k
  have hlk : (xs.take k).length = k := by rw [List.length_take]; omega
  have hse := fun c => seal_any (some ⟨b, off, none⟩) (xs.take k) k c w hlk (by omega) (by simp) hxk
  have Hn := Lib.hid hn
  have Hbad := Lib.hid hbad
  have Hlk := Lib.hid hlk
  clear hn hbad hlk
  go_enter Tryd.func92, Tryd.ntmps92
  go_wp2_with fail
  refine (hse _).mono ?_
  rintro e w1 ⟨p1, c1, rfl, o1, h1⟩
  go_wp2_with fail
  obtain ⟨rd1, _, _, _, _, _⟩ := o1.view
  have heq := equal_any p1 (some ⟨b, off, none⟩) (sealB (xs.take k)) xs (k + 4) (k + 4) c1 c false w1 (by rw [sealB_length, Hlk.out]) Hn.out (by omega) rd1 (hx.only0 h1) (by rw [beq_eq_false_iff_ne]; exact Hbad.out)
  refine heq.mono ?_
  rintro e w2 ⟨rfl, hd⟩
  have h2 := h1.trans0 hd.only
  have hc := (hE.only0 h2).cell
  go_wp2_with fail
  go_quiet (fail)
  go_wp2_with fail
  go_ret2
  exact ⟨rfl, h2.trans0 (Only.drewN _ _)⟩
end Go.Proofs.YtfoplbolbjcggaaDoor
