/- The walk of WireSpoilt. -/
import Derived.Test.YtkhccchjflmcmaaDoorWireAlive
import Derived.Test.YtkhccchjflmcmaaDoorScript05
import Derived.Test.YtkhccchjflmcmaaDoorErrs
import Derived.Laws.DeepNot64
set_option linter.unusedVariables false
namespace Go.Proofs.YtkhccchjflmcmaaDoor
open Go.RowKit

theorem opsWeight_take (os : List Op5) {j : Nat} {o : Op5} (h : os[j]? = some o) : opsWeight (os.take (j + 1)) = opsWeight (os.take j) + (o.m + 1) := by
  unfold opsWeight
  rw [List.take_add_one, h]
  simp
theorem opsWeight_le (os : List Op5) (j : Nat) : opsWeight (os.take j) ≤ opsWeight os := by
  unfold opsWeight
  have : (os.map fun o => o.m + 1).sum = ((os.take j).map fun o => o.m + 1).sum + ((os.drop j).map fun o => o.m + 1).sum := by
    rw [← List.sum_append, ← List.map_append, List.take_append_drop]
  omega

theorem opsWeight_len (os : List Op5) : os.length ≤ opsWeight os := by
  unfold opsWeight
  induction os with
  | nil => simp
  | cons o r ih => simp only [List.map_cons, List.sum_cons, List.length_cons]; omega

theorem wireSpoilt_any (p : Option Addr) (os : List Op5) (n cp : Nat) (m : Int) (E : Addr) (w : World) (hn : os.length = n) (hacts : Acts w p os) (hw : opsWeight os ≤ 1048576) (hm : -9223372036854775808 ≤ m ∧ m ≤ 9223372036854775807) (hE : ErrAt w 0 E) :
    Calls Tryd.prog 5 #[.slice p n cp, .int .i64 m] w fun e w' => e = .returned (.bool true) ∧ Only [] w w' := by
  have hn20 : n ≤ 1048576 := by have := opsWeight_len os; omega
  have Hn := Lib.hid hn
  have Hacts := Lib.hid hacts
  have Hw := Lib.hid hw
  clear hn hacts hw
  obtain ⟨k, hk, hkm⟩ : ∃ k : Int, k < 0 ∧ (k = m ∧ m < 0 ∨ 0 ≤ m ∧ bits .xor .i64 (-1) m = k) := by
    by_cases h : 0 ≤ m
    · refine ⟨-1 - m, by omega, .inr ⟨h, ?_⟩⟩
      have := i64_not m.toNat (by omega)
      rwa [Int.toNat_of_nonneg h] at this
    · exact ⟨m, by omega, .inl ⟨rfl, by omega⟩⟩
  rcases hkm with ⟨rfl, h⟩ | ⟨h, hx⟩
  all_goals
    go_enter Tryd.func5, Tryd.ntmps5
    go_wp2_with fail
    (with_reducible refine (alive05 w).mono ?_)
    rintro e w1 ⟨rfl, o1⟩
    go_wp2_with fail
    (with_reducible refine (newWriter w1).mono ?_)
    rintro e w2 ⟨B, F, rfl, hw2, ho2, hF2⟩
    go_wp2_with fail
    (with_reducible refine (num_neg w2 F B [] false k hk hw2).mono ?_)
    rintro e w3 ⟨rfl, hw3, ho3⟩
    have hz : Only [] w w3 := (o1.trans0 ho2).transN ho3 (fun i hi => by have := hF2 i hi; have := o1.size; omega)
    have hF3 : ∀ i ∈ F, w.heap.size ≤ i := fun i hi => by have := hF2 i hi; have := o1.size; omega
    clear hw2 ho2 hF2 o1 ho3
    go_wp2_with fail
    go_loopw [26] (fun i wr => ∃ (j : Nat) (ys : List UInt8) (F1 : List Nat), i = .int .i64 (j : Int) ∧ j ≤ n ∧ Wr wr F1 B ys true ∧ Only [] w wr ∧ (∀ k ∈ F1, w.heap.size ≤ k) ∧ Hid (ys.length ≤ 18 * opsWeight (os.take j))) (fun i _ => n - (intOf i).toNat)
    case atStart => exact ⟨0, [], F, rfl, Nat.zero_le _, hw3, hz, hF3, Nat.zero_le _⟩
    case round =>
      obtain ⟨j, ys, F1, rfl, hj, hw4, ho4, hF4, Hys⟩ := hrel
      by_cases hlt : j < n
      · obtain ⟨o, ho⟩ : ∃ o, os[j]? = some o := ⟨_, List.getElem?_eq_getElem (by rw [Hn.out]; exact hlt)⟩
        obtain ⟨b, off, rfl, hok, hc0, hc1, hc2, hc3⟩ := (Hacts.out.only0 ho4) j o ho
        have Hok := Lib.hid hok
        have Ho := Lib.hid ho
        clear hok ho
        go_wp2_with fail
        have hok0 : o.Ok w := by
          obtain ⟨_, _, _, h, _⟩ := Hacts.out j o Ho.out
          exact h
        obtain ⟨_, _, k3, k4, k5, k6, k7, k8⟩ := hok0
        have h9 := nb_len9 o.m (by omega)
        have on := Only.alloc wr (.cells #[.int .i64 o.kind, .int .i64 o.which, .int .i64 o.n, .slice o.p o.m o.c] 38)
        have rn : Row (wr.alloc (.cells #[.int .i64 o.kind, .int .i64 o.which, .int .i64 o.n, .slice o.p o.m o.c] 38)) wr.heap.size 38 o.cells := Row.new wr _ _
        have hlt4 := hw4.lt
        have hle := opsWeight_le os (j + 1)
        have hto := opsWeight_take os Ho.out
        have hys := Hys.out
        have hwt := Hw.out
        have hw5 := hw4.only0 on
        generalize hwn : wr.alloc (.cells #[.int .i64 o.kind, .int .i64 o.which, .int .i64 o.n, .slice o.p o.m o.c] 38) = wn at on rn hw5
        (with_reducible refine (num_spoilt wn F1 B ys o.n k3 hw5 (by omega)).mono ?_)
        rintro e w6 ⟨rfl, F6, y6, hw6, hl6, ho6, hF6⟩
        have r6 := rn.only ho6 (fun hm => by have := hlt4 _ hm; omega)
        have hc := r6.cell (i := 3) rfl
        go_wp2_with fail
        have h46 : Only [] w w6 := (ho4.trans0 on).transN ho6 hF4
        have hF6' : ∀ k ∈ F6, w.heap.size ≤ k := fun k hk => by
          rcases hF6 k hk with h | h
          · exact hF4 k h
          · have := on.size; have := ho4.size; omega
        (with_reducible refine (bytes_put w6 F6 B y6 o.bs true o.p o.m o.c hw6 (fun w1 h1 => k8.only0 (h46.transN h1 hF6')) k4 k7 (by omega)).mono ?_)
        rintro e w7 ⟨rfl, F7, hw7, ho7, hF7⟩
        go_wp2_with fail
        have h47 : Only [] w w7 := h46.transN ho7 hF6'
        (with_reducible refine (done_spoilt w7 F7 B _ _ hw7 (hE.only0 h47).cell).mono ?_)
        rintro e w8 ⟨rfl, ho8⟩
        have h48 := h47.trans0 ho8
        have hE8 := (hE.only0 h48).cell
        have hneq := err_neq_same w8 E
        go_wp2_with fail
        go_roundw
        case rel =>
          refine ⟨j + 1, _, F7, by go_num, by omega, hw7.only0 ho8, h48, ?_, Lib.hid ?_⟩
          · intro k hk
            rcases hF7 k hk with h | h
            · exact hF6' k h
            · have := h46.size; omega
          · rw [List.length_append, List.length_append]; omega
        case measure => simp [intOf]; omega
      · obtain rfl : j = n := by omega
        go_wp2_with fail
        (with_reducible refine (done_spoilt wr F1 B ys _ hw4 (hE.only0 ho4).cell).mono ?_)
        rintro e w8 ⟨rfl, ho8⟩
        have h48 := ho4.trans0 ho8
        have hE8 := (hE.only0 h48).cell
        have heq := err_eql_same w8 E
        go_wp2_with fail
        go_ret
        exact ⟨rfl, h48⟩
end Go.Proofs.YtkhccchjflmcmaaDoor
