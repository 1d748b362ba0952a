/- The walk of WireSlips. -/
import Derived.Test.YtkhccchjflmcmaaDoorWireAlive
import Derived.Test.YtkhccchjflmcmaaDoorSealMath
set_option linter.unusedVariables false
namespace Go.Proofs.YtkhccchjflmcmaaDoor
open Go.RowKit

theorem slip_index (m : Int) (L : Int) (h : 0 < L) (hL : L ≤ 1152921504606846976) : ∃ i : Nat, (i : Int) < L ∧ (wrap64 (m.tmod L + L)).tmod L = (i : Int) := by
  have h1 : m.tmod L < L := Int.tmod_lt_of_pos m h
  have h2 : -L < m.tmod L := by
    have := Int.tmod_lt_of_pos (-m) h
    rw [Int.neg_tmod] at this
    omega
  have e : wrap64 (m.tmod L + L) = m.tmod L + L := by unfold wrap64; omega
  rw [e, Int.tmod_eq_emod_of_nonneg (by omega)]
  have h3 := Int.emod_nonneg (m.tmod L + L) (show L ≠ 0 by omega)
  have h4 := Int.emod_lt_of_pos (m.tmod L + L) h
  exact ⟨((m.tmod L + L) % L).toNat, by omega, by omega⟩

theorem wireSlips_any (p : Option Addr) (xs : List UInt8) (n c : Nat) (m : Int) (to : UInt8) (E : Addr) (w : World) (hn : xs.length = n) (hb : n ≤ 140737488351232) (hp : p = none → n = 0 ∧ c = 0) (hx : Rd w p (u8s xs)) (hm : -9223372036854775808 ≤ m ∧ m ≤ 9223372036854775807) (hE : ErrAt w 2 E) :
    Calls Tryd.prog 9 #[.slice p n c, .int .i64 m, .int .u8 (to.toNat : Int)] w fun e w' => e = .returned (.bool true) ∧ Only [] w w' := by
  have Hn := Lib.hid hn
  have Hp := Lib.hid hp
  clear hn hp
  go_enter Tryd.func9, Tryd.ntmps9
  go_wp2_with fail
  (with_reducible refine (alive05 w).mono ?_)
  rintro e w1 ⟨rfl, o1⟩
  go_wp2_with fail
  (with_reducible refine (seal_any p xs n c w1 Hn.out hb Hp.out (hx.only0 o1)).mono ?_)
  rintro e w2 ⟨p2, c2, rfl, ow, o2⟩
  obtain ⟨i, hi, him⟩ := slip_index m ((n : Int) + 4) (by omega) (by omega)
  have hsl : (sealB xs).length = n + 4 := by rw [sealB_length, Hn.out]
  rcases ow.cases with ⟨e1, _⟩ | ⟨g, cap, rest, e1, hg, r, hcap, hmx⟩
  · simp at e1
  obtain ⟨rfl, -, rfl⟩ : p2 = some ⟨g, 0, none⟩ ∧ n + 4 = (u8s (sealB xs)).length ∧ c2 = cap := by simpa using e1
  have hc2 : n + 4 ≤ c2 := by rw [List.length_append, u8s_length, hsl] at hcap; omega
  obtain ⟨x, hx2⟩ : ∃ x, (sealB xs)[i]? = some x := ⟨_, List.getElem?_eq_getElem (by omega)⟩
  have hc : w2.cell? ⟨g, i, none⟩ = some (.int .u8 (x.toNat : Int)) := by
    refine r.cell ?_
    rw [List.getElem?_append_left (by rw [u8s_length]; omega), u8s, List.getElem?_map, hx2]; rfl
  have hf := r.free i
  have o2' : Only [] w w2 := o1.trans0 o2
  have r3 := r.setCell i (.int .u8 (to.toNat : Int))
  rw [List.set_append_left _ _ (by rw [u8s_length]; omega)] at r3
  have e3 : (u8s (sealB xs)).set i (.int .u8 (to.toNat : Int)) = u8s ((sealB xs).set i to) := u8s_set _ _ _
  rw [e3] at r3
  have h3 : Only [] w (w2.setCell ⟨g, i, none⟩ (.int .u8 (to.toNat : Int))) := o2'.transN (Only.setCell _ _ _) (by have := o1.size; simp; omega)
  clear e1 ow r o1 o2 e3
  by_cases hxt : x = to
  · subst hxt
    have Hrest := Lib.hid hx2
    clear hx2 hsl hcap r3
    go_wp2_with fail
    go_ret
    exact ⟨rfl, o2'⟩
  · have ht : ((x.toNat : Int) == (to.toNat : Int)) = false := by
      rw [beq_eq_false_iff_ne]
      intro h
      exact hxt (UInt8.toNat_inj.1 (by omega))
    have hbad := seal_slip xs i x to hx2 hxt
    have hlen : ((sealB xs).set i to).length = n + 4 := by rw [List.length_set, hsl]
    have hrd : Rd (w2.setCell ⟨g, i, none⟩ (.int .u8 (to.toNat : Int))) (some ⟨g, 0, none⟩) (u8s ((sealB xs).set i to)) := by
      have := r3.rd0.take (n + 4)
      rwa [List.take_left' (by rw [u8s_length, hlen])] at this
    have hopen := open_bad (some ⟨g, 0, none⟩) ((sealB xs).set i to) (n + 4) c2 _ E (hE.only0 h3) hlen hc2 (by omega) hmx (by simp) hrd (by omega) (by rw [Nat.add_sub_cancel, ← Hn.out]; exact hbad)
    clear hbad hlen hx2 hsl hcap r3 hrd hxt
    go_wp2_with fail
    refine hopen.mono ?_
    rintro e w4 ⟨rfl, o4⟩
    have hE4 := (hE.only0 (h3.trans0 o4)).cell
    have heq := err_eql_same w4 E
    go_wp2_with fail
    go_ret
    exact ⟨rfl, h3.trans0 o4⟩
end Go.Proofs.YtkhccchjflmcmaaDoor
