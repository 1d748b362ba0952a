/- The walks of bollardnum.SameBytes, Bytes, Kept, Apart. -/
import Derived.Test.YtmddehbfimpjdaaProg
import Derived.Test.YtmddehbfimpjdaaRegion
import Derived.Test.YtmddehbfimpjdaaOwn
set_option linter.unusedVariables false
namespace Go.Proofs.Ytmddehbfimpjdaa
open Go.RowKit

theorem Try.infoU8' : (Try.prog.info? 5).map (fun i => (i.zero, i.size, i.bytes)) = some (some (.int .u8 0), 1, 1) := by kernel_rfl


def marks : List UInt8 := [201, 202, 203, 204, 205, 206]

theorem bytes_any (p : Option Addr) (xs : List UInt8) (n c : Nat) (w : World) (hn : xs.length = n) (hb : n ≤ 140737488351232) (hp : p = none → n = 0 ∧ c = 0) (hx : Rd w p (u8s xs)) :
    Calls Try.prog 14 #[.slice p n c] w fun e w' => ∃ g, e = .returned (.slice (some ⟨g, 0, none⟩) n (n + 6)) ∧ w.heap.size ≤ g ∧ Row w' g 5 (u8s (xs ++ marks)) ∧ Only [] w w' := by
  have Hn := Lib.hid hn
  have Hp := Lib.hid hp
  clear hn hp
  go_enter Try.func14, Try.ntmps14
  go_wp2_with fail
  obtain ⟨g, w1, hr, hg, r1, o1⟩ := make_row (P := Try.prog) w Try.underlying22 Try.infoU8' rfl .i64 .i64 0 (n + 6) (by omega) (by omega) (by omega)
  have hr' : (Instr.makeSlice 22 (.int .i64 0) (.int .i64 ((n : Int) + 6))).run Try.prog w = .ok (.slice (some ⟨g, 0, none⟩) 0 (n + 6)) w1 := hr
  rw [hr']
  clear hr hr'
  obtain ⟨w2, hr, r2, o2⟩ := append_room (P := Try.prog) (n := 0) (m := n) (c := c) (cap := n + 6) w1 (t := 22) (ty := 22) Try.underlying22 Try.infoU8' r1 (by simp) (hx.only0 o1) (by rw [u8s_length, Hn.out]) Hp.out (fun v hv => u8s_one hv) (by omega) (by omega)
  have r3 := r2.only0 (Only.alloc w2 (.cells #[.int .u8 201, .int .u8 202, .int .u8 203, .int .u8 204, .int .u8 205, .int .u8 206] 5))
  have rn := Row.new w2 5 (u8s marks)
  have on := Only.alloc w2 (.cells #[.int .u8 201, .int .u8 202, .int .u8 203, .int .u8 204, .int .u8 205, .int .u8 206] 5)
  obtain ⟨w4, hr2, r4, o4⟩ := append_room (P := Try.prog) (n := 0 + n) (m := 6) (c := 6) (cap := n + 6) (p := some ⟨w2.heap.size, 0, none⟩) _ (t := 22) (ty := 22) Try.underlying22 Try.infoU8' r3 (by simp [u8s_length, Hn.out]) rn.rd0 (by rfl) (by simp) (fun v hv => u8s_one hv) (by omega) (by omega)
  rw [Nat.zero_add] at hr hr2 r4
  have Hr := Lib.hid hr
  have Hr2 := Lib.hid hr2
  clear hr hr2
  go_wp2_with (first | (at_builtin; refine wpl_append (s := .tmp 7) (x := .tmp 8) rfl rfl rfl rfl Hr.out ?_) | (at_builtin; refine wpl_append (s := .tmp 9) (x := .tmp 10) rfl rfl rfl rfl Hr2.out ?_))
  go_ret
  refine ⟨g, rfl, hg, ?_, ?_⟩
  · have : u8s (xs ++ marks) = List.take n (List.take 0 (List.replicate (n + 6) (Value.int .u8 0)) ++ u8s xs ++ List.drop n (List.replicate (n + 6) (Value.int .u8 0))) ++ u8s marks ++ List.drop (n + 6) (List.take 0 (List.replicate (n + 6) (Value.int .u8 0)) ++ u8s xs ++ List.drop n (List.replicate (n + 6) (Value.int .u8 0))) := by
      have hl : (u8s xs).length = n := by rw [u8s_length, Hn.out]
      rw [u8s_append]
      simp [hl]
    rw [this]; exact r4
  · exact ((o1.transN o2 (by simpa using hg)).trans0 on).transN o4 (by simpa using hg) |>.drop (by simp)

theorem marks_get : ∀ i, i < 6 → ((marks.getD i 0).toNat : Int) = 201 + (i : Int) := by decide +kernel

theorem kept_any (g : Nat) (p : Option Addr) (xs : List UInt8) (n c m : Nat) (w : World) (hn : xs.length = n) (hb : n ≤ 140737488351232) (hp : p = none → n = 0 ∧ c = 0) (hm : m ≤ n + 6) (hg : Row w g 5 (u8s (xs ++ marks))) (hx : Rd w p (u8s xs)) :
    Calls Try.prog 17 #[.slice (some ⟨g, 0, none⟩) m (n + 6), .slice p n c] w fun e w' => e = .returned (.bool true) ∧ Drew w w' := by
  have r1 : Rd w (some ⟨g, 0, none⟩) (u8s xs) := by
    have := hg.rd0.take n
    rw [u8s_take] at this
    rwa [List.take_left' hn] at this
  have c1 := fun k => conv_bytes (P := Try.prog) (c := n + 6) (w.drewN k) Try.underlying22 Try.underlying5 Try.underlying9 (r1.only0 (Only.drewN w k)) hn (by simp)
  have c2 := fun k => conv_bytes (P := Try.prog) (w.drewN k) Try.underlying22 Try.underlying5 Try.underlying9 (hx.only0 (Only.drewN w k)) hn hp
  have hcell : ∀ i, i < 6 → w.cell? ⟨g, n + i, none⟩ = some (.int .u8 (201 + (i : Int))) := by
    intro i hi
    have hlt : n + i < (xs ++ marks).length := by simp [marks, hn]; omega
    have := hg.bytes hlt
    rw [this]
    have e : (xs ++ marks)[n + i] = marks.getD i 0 := by
      rw [List.getElem_append_right (by omega)]
      simp [hn, List.getD_eq_getElem?_getD, show i < marks.length from hi]
    rw [e, marks_get i hi]
  have Hc := Lib.hid hcell
  have Hn := Lib.hid hn
  have Hp := Lib.hid hp
  have hd : decide ((n : Int) + 6 < (n : Int) + 6) = false := by simp
  clear hcell hn hp
  go_enter Try.func17, Try.ntmps17
  go_wp2_with fail
  go_quiet (fail)
  go_wp2_with fail
  go_loop [6] (fun i => ∃ k : Nat, k ≤ 6 ∧ i = .int .i64 (k : Int)) (fun i => 6 - (intOf i).toNat)
  case atStart => exact ⟨0, by omega, rfl⟩
  case round =>
    obtain ⟨k, hk, rfl⟩ := hrel
    by_cases hlt : k < 6
    · have hc := Hc.out k hlt
      go_wp2_with fail
      go_round
      case rel => exact ⟨k + 1, by omega, by go_num⟩
      case measure => simp [intOf]; omega
    · obtain rfl : k = 6 := by omega
      go_wp2_with fail
      go_ret
      exact ⟨rfl, Drew.N _ _⟩

theorem u8_xor85 (x : UInt8) : bits .xor .u8 (x.toNat : Int) 85 = ((x ^^^ 85).toNat : Int) := u8_xor_u8 x 85

end Go.Proofs.Ytmddehbfimpjdaa
