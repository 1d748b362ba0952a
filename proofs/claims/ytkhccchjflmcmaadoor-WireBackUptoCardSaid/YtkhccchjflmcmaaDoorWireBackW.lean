/- The walk of WireBack. -/
import Derived.Test.YtkhccchjflmcmaaDoorBackRead
import Derived.Test.YtkhccchjflmcmaaDoorWireAlive
set_option linter.unusedVariables false
namespace Go.Proofs.YtkhccchjflmcmaaDoor
open Go.RowKit

theorem encO_weight : ∀ (os : List Op5), (∀ o ∈ os, o.bs.length = o.m ∧ o.m < 9223372036854775808) → (encO os).length ≤ 9 * opsWeight os
  | [], _ => by simp [encO]
  | o :: r, h => by
    have h1 := encO_weight r (fun x hx => h x (by simp [hx]))
    have h2 := opB_len o (h o (by simp)).1 (h o (by simp)).2
    have e1 : encO (o :: r) = opB o ++ encO r := List.flatMap_cons
    have e2 : opsWeight (o :: r) = (o.m + 1) + opsWeight r := by simp [opsWeight]
    rw [e1, e2, List.length_append]; omega

theorem cut_place (a : Int) (L : Nat) (hL : 0 < L) (hb : L ≤ 9437184) : ∃ k : Nat, k < L ∧ (wrap64 (a.tmod (L : Int) + (L : Int))).tmod (L : Int) = (k : Int) := by
  have h1 : a.tmod (L : Int) < (L : Int) := Int.tmod_lt_of_pos a (by omega)
  have h2 : -(L : Int) < a.tmod (L : Int) := Int.lt_tmod_of_pos a (by omega)
  generalize a.tmod (L : Int) = t at h1 h2
  have h3 : wrap64 (t + (L : Int)) = t + (L : Int) := by unfold wrap64; omega
  rw [h3, Int.tmod_eq_emod_of_nonneg (by omega)]
  have h4 := Int.emod_nonneg (t + (L : Int)) (show (L : Int) ≠ 0 by omega)
  have h5 := Int.emod_lt_of_pos (t + (L : Int)) (show 0 < (L : Int) by omega)
  exact ⟨((t + (L : Int)) % (L : Int)).toNat, by omega, by omega⟩
set_option maxRecDepth 100000 in
set_option maxHeartbeats 2000000 in
theorem wireBack_any (p : Option Addr) (os : List Op5) (n cp : Nat) (cut : Int) (E : Addr) (w : World) (hn : os.length = n) (hacts : Acts w p os) (hw : opsWeight os ≤ 1048576) (hcut : -9223372036854775808 ≤ cut ∧ cut ≤ 9223372036854775807) (hE : ErrAt w 1 E) :
    Calls Tryd.prog 7 #[.slice p n cp, .int .i64 cut] w fun e w' => e = .returned (.bool true) ∧ Only [] w w' := by
  have hn20 : n ≤ 1048576 := by have := opsWeight_len os; omega
  have htot : (encO os).length ≤ 9437184 := by
    have := encO_weight os (fun o ho => by obtain ⟨_, _, _, h4, h5, h6, _⟩ := hacts.ok o ho; exact ⟨h4, by omega⟩)
    omega
  have hle := fun j => encO_le os j
  have Hn := Lib.hid hn
  have Hacts := Lib.hid hacts
  clear hn hw
  go_enter Tryd.func7, Tryd.ntmps7
  go_wp2_with fail
  (with_reducible refine (alive05 w).mono ?_)
  rintro e w1 ⟨rfl, o1⟩
  go_wp2_with fail
  (with_reducible refine (newWriter w1).mono ?_)
  rintro e w2 ⟨B, F, rfl, hw2, ho2, hF2⟩
  go_wp2_with fail
  have hz : Only [] w w2 := o1.trans0 ho2
  have hF3 : ∀ i ∈ F, w.heap.size ≤ i := fun i hi => by have := hF2 i hi; have := o1.size; omega
  clear o1 ho2 hF2
  go_loopw [20] (fun i wr => ∃ (j : Nat) (F1 : List Nat), i = .int .i64 (j : Int) ∧ j ≤ n ∧ Hid (Wr wr F1 B (encO (os.take j)) false) ∧ Only [] w wr ∧ (∀ k ∈ F1, w.heap.size ≤ k)) (fun i _ => n - (intOf i).toNat)
  case atStart => exact ⟨0, F, rfl, Nat.zero_le _, hw2, hz, hF3⟩
  case round =>
    clear hw2 hF3 hz
    obtain ⟨j, F1, rfl, hj, Hw, ho, hF⟩ := hrel
    by_cases hlt : j < n
    · obtain ⟨o, hoj⟩ : ∃ o, os[j]? = some o := ⟨_, List.getElem?_eq_getElem (by rw [Hn.out]; exact hlt)⟩
      obtain ⟨b2, off2, rfl, hok, hc0, hc1, hc2, hc3⟩ := (hacts.only0 ho) j o hoj
      have htk := encO_take os hoj
      have hlj := hle (j + 1)
      rw [htk, List.length_append] at hlj
      have Htk := Lib.hid htk
      obtain ⟨-, -, -, hom, hoc, hoc2, hoz, hord⟩ := hok
      have hord0 := (hacts.ok o (List.mem_of_getElem? hoj)).2.2.2.2.2.2.2
      clear hacts
      have on : Only [] wr (wr.alloc (.cells #[.int .i64 o.kind, .int .i64 o.which, .int .i64 o.n, .slice o.p o.m o.c] 38)) := Only.alloc wr _
      have rn : Row (wr.alloc (.cells #[.int .i64 o.kind, .int .i64 o.which, .int .i64 o.n, .slice o.p o.m o.c] 38)) wr.heap.size 38 o.cells := Row.new wr _ _
      have cvo := conv_bytes (P := Tryd.prog) (c := o.c) (wr.alloc (.cells #[.int .i64 o.kind, .int .i64 o.which, .int .i64 o.n, .slice o.p o.m o.c] 38)) Tryd.underlying26 Tryd.underlying5 Tryd.underlying9 (hord.only0 on) hom hoz
      have ham := and_mask63 o.n
      have hwn := Hw.out.only0 on
      have how := ho.trans0 on
      have Hom := Lib.hid hom
      have Hoz := Lib.hid hoz
      clear hoj htk hom hoz
      go_wp2_with fail
      all_goals generalize (wr.alloc (.cells #[.int .i64 o.kind, .int .i64 o.which, .int .i64 o.n, .slice o.p o.m o.c] 38)) = wa at *
      · have hk : o.kind = 1 := by simpa using ‹(o.kind == 1) = true›
        have hop : opB o = nb (mask63 o.n) := by rw [opB, if_pos hk]
        rw [hop] at hlj
        have hmk := mask63_lt o.n
        (with_reducible refine (num_any wa F1 B _ false (mask63 o.n) hmk hwn (by omega)).mono ?_)
        rintro e wb ⟨rfl, F2, hwb, hob, hFb⟩
        go_wp2_with fail
        refine ⟨⟨j + 1, F2, by go_num, by omega, Lib.hid (by rw [Htk.out, hop]; exact hwb), how.transN hob hF, fun x hx => ?_⟩, by simp [intOf]; omega⟩
        rcases hFb x hx with h | h
        · exact hF x h
        · have := how.size; omega
      · have hk : o.kind = 2 := by simpa using ‹(o.kind == 2) = true›
        have hop : opB o = nb o.m ++ o.bs := by rw [opB, if_neg (by omega), if_pos (by omega)]
        rw [hop, List.length_append, Hom.out] at hlj
        (with_reducible refine (text_put wa F1 B _ o.bs false o.m hwn Hom.out _ rfl (by omega)).mono ?_)
        rintro e wb ⟨rfl, F2, hwb, hob, hFb⟩
        go_wp2_with fail
        refine ⟨⟨j + 1, F2, by go_num, by omega, Lib.hid (by rw [Htk.out, hop, ← List.append_assoc]; exact hwb), how.transN hob hF, fun x hx => ?_⟩, by simp [intOf]; omega⟩
        rcases hFb x hx with h | h
        · exact hF x h
        · have := how.size; omega
      · have hk : o.kind = 3 := by simpa using ‹(o.kind == 3) = true›
        have hop : opB o = nb o.m ++ o.bs := by rw [opB, if_neg (by omega), if_pos (by omega)]
        rw [hop, List.length_append, Hom.out] at hlj
        (with_reducible refine (bytes_put wa F1 B _ o.bs false o.p o.m o.c hwn (fun w1 h1 => hord0.only0 (how.transN h1 hF)) Hom.out Hoz.out (by omega)).mono ?_)
        rintro e wb ⟨rfl, F2, hwb, hob, hFb⟩
        go_wp2_with fail
        refine ⟨⟨j + 1, F2, by go_num, by omega, Lib.hid (by rw [Htk.out, hop, ← List.append_assoc]; exact hwb), how.transN hob hF, fun x hx => ?_⟩, by simp [intOf]; omega⟩
        rcases hFb x hx with h | h
        · exact hF x h
        · have := how.size; omega
      · have hk1 : o.kind ≠ 1 := by simpa using ‹(o.kind == 1) = false›
        have hk2 : o.kind ≠ 2 := by simpa using ‹(o.kind == 2) = false›
        have hk3 : o.kind ≠ 3 := by simpa using ‹(o.kind == 3) = false›
        have hop : opB o = [] := by rw [opB, if_neg hk1, if_neg (by omega)]
        exact ⟨⟨j + 1, F1, by go_num, by omega, Lib.hid (by rw [Htk.out, hop, List.append_nil]; exact hwn), how, hF⟩, by simp [intOf]; omega⟩
    · obtain rfl : j = n := by omega
      have hwr := Hw.out
      rw [List.take_of_length_le (by rw [Hn.out]; exact Nat.le_refl _)] at hwr
      go_wp2_with fail
      (with_reducible refine (done_any wr F1 B (encO os) hwr (by omega)).mono ?_)
      rintro e w3 ⟨p', c', rfl, ow, ho3⟩
      have how := ho.trans0 ho3
      have vw := ow.view
      have r1 := backRead w3 p' p (encO os) os (encO os).length c' j cp E true (hE.only0 how) (by rw [List.take_of_length_le (Nat.le_refl _)]) rfl vw.2.2.1 vw.1 Hn.out (hacts.only0 how) (by omega) (by omega) (by simp)
      have hxs : ∀ k, k ≤ (encO os).length → ((encO os).take k).length = k := fun k hk => by rw [List.length_take]; omega
      have r2 := fun (w4 : World) (h4 : Only [] w3 w4) k (hk : k < (encO os).length) => backRead w4 p' p ((encO os).take k) os k k j cp E false (hE.only0 (how.trans0 h4)) rfl (hxs k (by omega)) (fun h => by have := (vw.2.2.1 h).1; omega) (by rw [← u8s_take]; exact (vw.1.only0 h4).take k) Hn.out (hacts.only0 (how.trans0 h4)) (by omega) (by omega) (by simp; omega)
      have hcL := vw.2.2.2.1
      have hc63 := vw.2.2.2.2.1
      clear hle hwr hxs ow vw
      generalize (encO os).length = L at *
      go_wp2_with fail
      (with_reducible refine (r1).mono ?_)
      rintro e w4 ⟨rfl, ho4⟩
      by_cases hL : L = 0
      · have hl0 : ((L : Int) == 0) = true := by simp [hL]
        clear hL r1 r2
        go_wp2_with fail
        go_ret
        exact ⟨rfl, how.trans0 ho4⟩
      · have hl0 : ((L : Int) == 0) = false := by simp [hL]
        obtain ⟨k, hkL, hkc⟩ := cut_place cut L (by omega) (by omega)
        have r2k := r2 w4 ho4 k hkL
        have hkcap : k ≤ c' := by omega
        clear r1 r2
        go_wp2_with fail
        (with_reducible refine (r2k).mono ?_)
        rintro e w5 ⟨rfl, ho5⟩
        go_wp2_with fail
        go_ret
        exact ⟨rfl, (how.trans0 ho4).trans0 ho5⟩
end Go.Proofs.YtkhccchjflmcmaaDoor
