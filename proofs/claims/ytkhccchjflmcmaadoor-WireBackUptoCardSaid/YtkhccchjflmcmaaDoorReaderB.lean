/- The walks of package wire: the reader's Bytes, Text, Left, End. -/
import Derived.Test.YtkhccchjflmcmaaDoorReaderW
set_option linter.unusedVariables false
namespace Go.Proofs.YtkhccchjflmcmaaDoor
open Go.RowKit

/-- a slice owned, with bytes -/
def OwnBy (xs : List UInt8) (n base : Nat) : Value → World → Prop := fun v w => ∃ p k, v = .slice p n k ∧ Own w base 5 (.slice p n k) (u8s xs)
theorem OwnBy.stable (xs : List UInt8) (n base : Nat) : Stable (Only []) (OwnBy xs n base) := fun v w w' ⟨p, k, h1, h2⟩ ho => ⟨p, k, h1, h2.only0 ho⟩

theorem Rr.field0 {w : World} {F : List Nat} {B : Nat} {xs : List UInt8} {pl : Nat} (h : Rr w F B xs pl) : ∃ p c, w.cell? ⟨B, 0, none⟩ = some (.slice p xs.length c) ∧ w.cell? ⟨B, 1, none⟩ = some (.int .i64 (pl : Int)) ∧ (∀ i, w.frozen? ⟨B, i, none⟩ = false) ∧ Rd w p (u8s xs) ∧ xs.length ≤ c ∧ c ≤ 9223372036854775807 ∧ (p = none → xs.length = 0 ∧ c = 0) ∧ pl ≤ xs.length := by
  obtain ⟨p, c, -, r, o, -, hpl⟩ := h
  obtain ⟨rd, -, hp, hcp, hcp2, -⟩ := o.view
  exact ⟨p, c, r.cell rfl, r.cell rfl, r.free, rd, hcp, hcp2, hp, hpl⟩

theorem Rd.skip {w : World} {b off : Nat} {vs : List Value} (h : Rd w (some ⟨b, off, none⟩) vs) (n : Nat) : Rd w (some ⟨b, off + n, none⟩) (vs.drop n) := by
  rcases h with h | ⟨b', off', e, h⟩
  · exact .inl (by simp [h])
  · obtain ⟨rfl, rfl, -⟩ : b = b' ∧ off = off' ∧ True := by simpa using e
    exact .inr ⟨b, off + n, rfl, fun j v hv => by rw [Nat.add_assoc]; exact h (n + j) v (by rwa [List.getElem?_drop] at hv)⟩

theorem rdBy_yes (w : World) (F : List Nat) (B : Nat) (xs : List UInt8) (pl n l : Nat) (most : Int) (hr : Rr w F B xs pl) (hb : xs.length ≤ 140737488351232) (h : Says (xs.drop pl) n l) (hm : (n : Int) ≤ most) (hn : pl + l + n ≤ xs.length) :
    Calls Tryd.prog 27 #[.pointer (some ⟨B, 0, none⟩), .int .i64 most] w fun e w' => (∃ q k, e = .returned (.tuple #[.slice q n k, .nilIface]) ∧ Own w' w.heap.size 5 (.slice q n k) (u8s ((xs.drop (pl + l)).take n))) ∧ Rr w' F B xs (pl + l + n) ∧ Only [B] w w' := by
  have hnum := number_yes w F B xs pl n l hr (by omega) h
  have hmv := hr.move (q := pl + l + n) hn
  obtain ⟨p, c, h0, h1, hf, rd, hcp, hcp2, hp, hpl⟩ := hr.field0
  have hpos : 0 < xs.length := by
    have := h.len
    have := nb_pos n
    omega
  clear hr h
  have hf1 := hf 1
  have hd : (decide (most < (n : Int))) = false := by simp; omega
  generalize pl + l = nx at hn hnum hmv
  have hd2 : (decide ((xs.length : Int) - (nx : Int) < (n : Int))) = false := by simp; omega
  clear hm
  go_enter Tryd.func27, Tryd.ntmps27
  go_wp2_with fail
  refine hnum.mono ?_
  rintro e w' ⟨rfl, rfl⟩
  go_wp2_with fail
  have ho1 : Only [B] w (w.setCell ⟨B, 1, none⟩ (.int .i64 ((nx : Int) + (n : Int)))) := Only.setCell w ⟨B, 1, none⟩ _
  rw [Int.natCast_add] at hmv
  generalize w.setCell ⟨B, 1, none⟩ (.int .i64 ((nx : Int) + (n : Int))) = w1 at hmv ho1
  clear h0 h1 hf rd hcp hcp2 hp hpl hf1
  obtain ⟨p, c, h0, h1, hf, rd, hcp, hcp2, hp, hpl⟩ := hmv.field0
  obtain ⟨b0, off, rfl, -⟩ := rd.bytes hpos
  have rdk : Rd w1 (some ⟨b0, off + nx, none⟩) (u8s ((xs.drop nx).take n)) := by rw [← u8s_take, ← u8s_drop]; exact (rd.skip nx).take n
  have hlk : ((xs.drop nx).take n).length = n := by rw [List.length_take, List.length_drop]; omega
  have Hlk := Lib.hid hlk
  clear hlk
  -- <<r5
  refine wp_region_rg2 (Only []) [[(0, none)], [(44, some 0)], [(45, some 0)], [(46, some 0)], [(7, none)], [(0, none)], [(49, some 0)], [(50, some 0)], [(51, some 0)], [(47, some 5), (48, some 4), (52, some 0)], [(53, some 0)], [(54, some 0)], []] [(4, 1), (5, 0)] [none, none, none, none, some 4, some 5, none, none, none, none, none, none, none, none, none, none, none, none, none, none, none, none, none, none, none, none, none, none, none, none, none, none, none, none, none, none, none, none, none, none, none, none, none, none, some 44, some 45, some 46, some 47, some 48, some 49, some 50, some 51, some 52, some 53, some 54] (by kernel_rfl) rfl (by kernel_rfl) (fun _ => Only.refl _ _) (fun _ _ _ h k => h.trans0 k) (Only.drew _) (by kernel_rfl) ?_
  -- 0: s44 := move t0
  apply rg_ev
  · intro a w hR hf
    obtain ⟨e0, -⟩ := hf
    replace e0 : a.tmps.getD 0 undef = _ := e0
    refine rg_plain rfl fun K hK => ?_
    go_simp
    exact hK _ _ rfl (Only.refl _ _)
  -- 1: s45 := nilCheck t44
  apply rg_ev
  · intro a w hR hf
    obtain ⟨e44, -⟩ := hf
    replace e44 : a.tmps.getD 44 undef = _ := e44
    refine rg_plain rfl fun K hK => ?_
    go_simp
    exact hK _ _ rfl (Only.refl _ _)
  -- 2: s46 := fieldAddr 77 t45 0
  apply rg_ev
  · intro a w hR hf
    obtain ⟨e45, -⟩ := hf
    replace e45 : a.tmps.getD 45 undef = _ := e45
    refine rg_plain rfl fun K hK => ?_
    go_simp
    exact hK _ _ rfl (Only.refl _ _)
  -- 3: s47 := load 26 t46
  apply rg_ev
  · intro a w hR hf
    obtain ⟨e46, -⟩ := hf
    replace e46 : a.tmps.getD 46 undef = _ := e46
    refine rg_plain rfl fun K hK => ?_
    have h0' := hR.cell h0 (by simp)
    go_simp
    exact hK _ _ rfl (Only.refl _ _)
  -- 4: s48 := move t7
  apply rg_ev
  · intro a w hR hf
    obtain ⟨e7, -⟩ := hf
    replace e7 : a.tmps.getD 7 undef = _ := e7
    refine rg_plain rfl fun K hK => ?_
    go_simp
    exact hK _ _ rfl (Only.refl _ _)
  -- 5: s49 := move t0
  apply rg_ev
  · intro a w hR hf
    obtain ⟨e0, -⟩ := hf
    replace e0 : a.tmps.getD 0 undef = _ := e0
    refine rg_plain rfl fun K hK => ?_
    go_simp
    exact hK _ _ rfl (Only.refl _ _)
  -- 6: s50 := nilCheck t49
  apply rg_ev
  · intro a w hR hf
    obtain ⟨e49, -⟩ := hf
    replace e49 : a.tmps.getD 49 undef = _ := e49
    refine rg_plain rfl fun K hK => ?_
    go_simp
    exact hK _ _ rfl (Only.refl _ _)
  -- 7: s51 := fieldAddr 77 t50 1
  apply rg_ev
  · intro a w hR hf
    obtain ⟨e50, -⟩ := hf
    replace e50 : a.tmps.getD 50 undef = _ := e50
    refine rg_plain rfl fun K hK => ?_
    go_simp
    exact hK _ _ rfl (Only.refl _ _)
  -- 8: s52 := load 3 t51
  apply rg_ev
  · intro a w hR hf
    obtain ⟨e51, -⟩ := hf
    replace e51 : a.tmps.getD 51 undef = _ := e51
    refine rg_plain rfl fun K hK => ?_
    have h1' := hR.cell h1 (by simp)
    go_simp
    exact hK _ _ rfl (Only.refl _ _)
  -- 9: s53 := slice 26 t47 (some t48) (some t52) none
  refine ⟨IsBy ((xs.drop nx).take n) n, IsBy.stable _ _, fun a w hR hf => ?_, ?_⟩
  · obtain ⟨e47, e48, e52, -⟩ := hf
    replace e47 : a.tmps.getD 47 undef = _ := e47
    replace e48 : a.tmps.getD 48 undef = _ := e48
    replace e52 : a.tmps.getD 52 undef = _ := e52
    refine rg_plain rfl fun K hK => ?_
    go_simp
    have hk3 : ((nx : Int) + (n : Int)).toNat - nx = n := by omega
    rw [if_pos ⟨by omega, by omega⟩, if_pos (by omega), hk3]
    go_simp
    refine hK _ _ ⟨Hlk.out, _, _, rfl, ?_, by split <;> simp⟩ (Only.refl _ _)
    split
    · rw [List.take_eq_nil_iff.2 (.inl (by omega : n = 0))]; exact Rd.nil _ _
    · exact rdk.only0 hR
  -- 10: s54 := call { value (Operand.func 38), args := #[t53], #[26] }
  refine ⟨OwnBy ((xs.drop nx).take n) n w1.heap.size, OwnBy.stable _ _ _, fun a w hR hf => ?_, ?_⟩
  · obtain ⟨e53, -⟩ := hf
    replace e53 : IsBy ((xs.drop nx).take n) n (a.tmps.getD 53 undef) w := e53
    refine rg_plain rfl fun K hK => ?_
    obtain ⟨l53, p53, k53, e53, r53, n53⟩ := e53
    go_simp
    (with_reducible refine (clone_any p53 _ n k53 w l53 (by omega) n53 r53).mono ?_)
    rintro e w' ⟨q, k, rfl, o, ho⟩
    exact hK _ _ ⟨q, k, rfl, o.weaken hR.size⟩ ho
  -- 11: s4 := assign t54
  refine ⟨OwnBy ((xs.drop nx).take n) n w1.heap.size, OwnBy.stable _ _ _, fun a w hR hf => ?_, ?_⟩
  · obtain ⟨e54, -⟩ := hf
    replace e54 : OwnBy ((xs.drop nx).take n) n w1.heap.size (a.tmps.getD 54 undef) w := e54
    refine rg_plain rfl fun K hK => ?_
    generalize hv54 : a.tmps.getD 54 undef = v54 at e54
    go_simp
    exact hK _ _ e54 (Only.refl _ _)
  -- 12: s5 := assign (const Value.nilIface)
  apply rg_ev
  · intro a w hR hf
    refine rg_plain rfl fun K hK => ?_
    go_simp
    exact hK _ _ rfl (Only.refl _ _)
  intro f5 w5 hR5 hf
  dsimp only [mergeT]
  obtain ⟨e4, e5, -⟩ := hf
  replace e4 : OwnBy ((xs.drop nx).take n) n w1.heap.size (f5 4) w5 := e4
  replace e5 : f5 5 = _ := e5
  rw [e5]
  -- r5>>
  go_wp2_with fail
  go_ret2
  obtain ⟨q, k, e54, o⟩ := e4
  rw [e54]
  exact ⟨⟨q, k, rfl, o.weaken ho1.size⟩, hmv.only0 hR5, ho1.trans0 hR5⟩

theorem rdBy_no (w : World) (F : List Nat) (B : Nat) (xs : List UInt8) (pl : Nat) (most : Int) (E : Value) (hr : Rr w F B xs pl) (hb : xs.length ≤ 140737488351232) (hE : w.cell? ⟨1, 0, none⟩ = some E) (h : ∀ n l : Nat, Says (xs.drop pl) n l → most < (n : Int) ∨ xs.length < pl + l + n) :
    Calls Tryd.prog 27 #[.pointer (some ⟨B, 0, none⟩), .int .i64 most] w fun e w' => e = .returned (.tuple #[.slice none 0 0, E]) ∧ Only [] w w' := by
  obtain ⟨p, c, h0, h1, hf, rd, hcp, hcp2, hp, hpl⟩ := hr.field0
  by_cases hs : ∃ n l : Nat, Says (xs.drop pl) n l
  · obtain ⟨n, l, hs⟩ := hs
    have hnum := number_yes w F B xs pl n l hr (by omega) hs
    have h' := h n l hs
    have hlt := hs.2.2
    have hn63 := hs.1
    rw [List.length_drop] at hlt
    clear hr h hs
    have hle : pl + l ≤ xs.length := by omega
    generalize pl + l = nx at h' hnum hle
    by_cases hm : most < (n : Int)
    · have hd : (decide (most < (n : Int))) = true := by simp; exact hm
      clear h' rd hp hcp hcp2 hf
      go_enter Tryd.func27, Tryd.ntmps27
      go_wp2_with fail
      refine hnum.mono ?_
      rintro e w' ⟨rfl, rfl⟩
      go_wp2_with fail
      go_quiet (fail)
      go_wp2_with fail
      go_ret2
      exact ⟨rfl, Only.drewN _ _⟩
    · have hd : (decide (most < (n : Int))) = false := by simp; omega
      have hd2 : (decide ((xs.length : Int) - (nx : Int) < (n : Int))) = true := by simp; omega
      clear h' rd hp hcp hcp2 hf hm
      go_enter Tryd.func27, Tryd.ntmps27
      go_wp2_with fail
      refine hnum.mono ?_
      rintro e w' ⟨rfl, rfl⟩
      go_wp2_with fail
      go_quiet (fail)
      go_wp2_with fail
      go_ret2
      exact ⟨rfl, Only.drewN _ _⟩
  · have hnum := number_no w F B xs pl hr (by omega) hs
    clear hr h hs rd hp hcp hcp2 hf
    go_enter Tryd.func27, Tryd.ntmps27
    go_wp2_with fail
    refine hnum.mono ?_
    rintro e w' ⟨a, b, rfl, rfl⟩
    go_wp2_with fail
    go_quiet (fail)
    go_wp2_with fail
    go_ret2
    exact ⟨rfl, Only.drewN _ _⟩

theorem rdBy_any (w : World) (F : List Nat) (B : Nat) (xs : List UInt8) (pl : Nat) (most : Int) (az : List Addr) (hE : ErrAll w az) (hr : Rr w F B xs pl) (hb : xs.length ≤ 140737488351232) :
    Calls Tryd.prog 27 #[.pointer (some ⟨B, 0, none⟩), .int .i64 most] w fun e w' => ∃ q n k v, e = .returned (.tuple #[.slice q n k, v]) ∧ Hid ((byV xs pl most).length = n) ∧ Own w' w.heap.size 5 (.slice q n k) (u8s (byV xs pl most)) ∧ ErrNo az (byE xs pl most) v ∧ Rr w' F B xs (byQ xs pl most) ∧ Only [B] w w' := by
  obtain ⟨a4, h4⟩ : ∃ a, az[4]? = some a := ⟨_, List.getElem?_eq_getElem (by rw [hE.1]; omega)⟩
  have hc := (hE.2.2 4 _ a4 rfl h4).cell
  by_cases h : ∃ n l : Nat, Says (xs.drop pl) n l ∧ (n : Int) ≤ most ∧ pl + l + n ≤ xs.length
  · obtain ⟨n, l, h, hm, hn⟩ := h
    have e1 : byOk xs pl most = some ((xs.drop (pl + l)).take n, pl + l + n) := by rw [byOk, numAt_yes h]; simp [hm, hn]
    refine (rdBy_yes w F B xs pl n l most hr hb h hm hn).mono ?_
    rintro e w' ⟨⟨q, k, rfl, h0⟩, h1, h2⟩
    have e2 : byV xs pl most = (xs.drop (pl + l)).take n := by rw [byV, e1]; rfl
    exact ⟨q, n, k, .nilIface, rfl, by rw [e2]; show _ = _; rw [List.length_take, List.length_drop]; omega, by rw [e2]; exact h0, .inl ⟨by rw [byE, e1]; rfl, rfl⟩, by rw [byQ, e1]; exact h1, h2⟩
  · have h' : ∀ n l : Nat, Says (xs.drop pl) n l → most < (n : Int) ∨ xs.length < pl + l + n := fun n l hs => by
      rcases Int.lt_or_le most (n : Int) with k | k
      · exact .inl k
      · rcases Nat.lt_or_ge xs.length (pl + l + n) with k2 | k2
        · exact .inr k2
        · exact absurd ⟨n, l, hs, k, k2⟩ h
    have e1 : byOk xs pl most = none := by
      rw [byOk]
      cases e : numAt xs pl with
      | none => rfl
      | some z =>
        have := h' z.1 z.2 (numAt_some (by rw [e]))
        show (if (z.1 : Int) ≤ most ∧ pl + z.2 + z.1 ≤ xs.length then some ((xs.drop (pl + z.2)).take z.1, pl + z.2 + z.1) else none) = none
        rw [if_neg (by omega)]
    have e2 : byV xs pl most = [] := by rw [byV, e1]; rfl
    refine (rdBy_no w F B xs pl most _ hr hb hc h').mono ?_
    rintro e w' ⟨rfl, h1⟩
    exact ⟨none, 0, 0, _, rfl, by rw [e2]; exact rfl, by rw [e2]; exact Own.nil _ _ _, .inr ⟨a4, by rw [byE, e1]; decide, by rw [byE, e1]; exact h4, rfl⟩, by rw [byQ, e1]; exact hr.only0 h1, h1.mono (by simp)⟩

theorem rdText_any (w : World) (F : List Nat) (B : Nat) (xs : List UInt8) (pl : Nat) (most : Int) (az : List Addr) (hE : ErrAll w az) (hr : Rr w F B xs pl) (hb : xs.length ≤ 140737488351232) :
    Calls Tryd.prog 25 #[.pointer (some ⟨B, 0, none⟩), .int .i64 most] w fun e w' => ∃ v, e = .returned (.tuple #[.string ⟨(byV xs pl most).toArray⟩, v]) ∧ ErrNo az (byE xs pl most) v ∧ Rr w' F B xs (byQ xs pl most) ∧ Only [B] w w' := by
  have hby := rdBy_any w F B xs pl most az hE hr hb
  clear hr hE
  go_enter Tryd.func25, Tryd.ntmps25
  go_wp2_with fail
  refine hby.mono ?_
  rintro e w1 ⟨q, n, k, v, rfl, Hn, o, he, hr, ho⟩
  obtain ⟨rd, -, hp, -⟩ := o.view
  have hcv := conv_bytes (P := Tryd.prog) (c := k) w1 Tryd.underlying26 Tryd.underlying5 Tryd.underlying9 rd Hn.out hp
  clear rd hp o
  go_wp2_with fail
  go_ret2
  exact ⟨v, rfl, he, hr, ho⟩

theorem rdLeft_any (w : World) (F : List Nat) (B : Nat) (xs : List UInt8) (pl : Nat) (hr : Rr w F B xs pl) (hb : xs.length ≤ 140737488351232) :
    Calls Tryd.prog 29 #[.pointer (some ⟨B, 0, none⟩)] w fun e w' => e = .returned (.int .i64 ((xs.length - pl : Nat) : Int)) ∧ Drew w w' := by
  obtain ⟨p, c, h0, h1, hf, rd, hcp, hcp2, hp, hpl⟩ := hr.field0
  have e1 : ((xs.length : Int) - (pl : Int)) = ((xs.length - pl : Nat) : Int) := by omega
  clear hr hf rd hp
  go_enter Tryd.func29, Tryd.ntmps29
  go_wp2_with fail
  go_quiet (fail)
  go_wp2_with fail
  go_ret
  exact ⟨rfl, Drew.N _ _⟩

theorem rdEnd_any (w : World) (F : List Nat) (B : Nat) (xs : List UInt8) (pl : Nat) (E : Value) (hr : Rr w F B xs pl) (hb : xs.length ≤ 140737488351232) (hE : w.cell? ⟨1, 0, none⟩ = some E) :
    Calls Tryd.prog 28 #[.pointer (some ⟨B, 0, none⟩)] w fun e w' => e = .returned (if xs.length - pl = 0 then .nilIface else E) ∧ Only [] w w' := by
  have hl := rdLeft_any w F B xs pl hr hb
  by_cases h : xs.length - pl = 0
  · have hd : decide (0 < xs.length - pl) = false := by simp; omega
    rw [if_pos h]
    generalize xs.length - pl = z at hl hd
    clear hr h
    go_enter Tryd.func28, Tryd.ntmps28
    go_wp2_with fail
    refine hl.mono ?_
    rintro e w1 ⟨rfl, ⟨n, rfl⟩⟩
    go_wp2_with fail
    go_ret
    exact ⟨rfl, Only.drewN _ _⟩
  · have hd : decide (0 < xs.length - pl) = true := by simp; omega
    rw [if_neg h]
    generalize xs.length - pl = z at hl hd
    clear hr h
    go_enter Tryd.func28, Tryd.ntmps28
    go_wp2_with fail
    refine hl.mono ?_
    rintro e w1 ⟨rfl, ⟨n, rfl⟩⟩
    have hE' := (Only.drewN w n).cell hE (by simp)
    clear hE
    go_wp2_with fail
    go_ret
    exact ⟨rfl, Only.drewN _ _⟩
end Go.Proofs.YtkhccchjflmcmaaDoor
