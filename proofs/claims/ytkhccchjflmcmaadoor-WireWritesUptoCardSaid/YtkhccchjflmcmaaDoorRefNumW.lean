/- The walks of bollardref05: Num, Bytes. -/
import Derived.Test.YtkhccchjflmcmaaDoorReaderB
set_option linter.unusedVariables false
namespace Go.Proofs.YtkhccchjflmcmaaDoor
open Go.RowKit

/-- one byte behind a slice of our own -/
theorem push_u8 {w0 wr : World} {p : Option Addr} {c : Nat} (ys : List UInt8) (x : UInt8) (o : Own wr w0.heap.size 5 (.slice p ys.length c) (u8s ys)) (ho : Only [] w0 wr) (hl : ys.length + 1 ≤ 140737488355328) :
    ∃ p' c' w2, Hid ((Builtin.append_ #[26, 26] 26 #[.slice p ys.length c, .slice (some ⟨wr.heap.size, 0, none⟩) 1 1]).run Tryd.prog (wr.alloc (.cells #[.int .u8 (x.toNat : Int)] 5)) = .ok (.slice p' (ys.length + 1) c') w2) ∧
      Own w2 w0.heap.size 5 (.slice p' (ys ++ [x]).length c') (u8s (ys ++ [x])) ∧ Only [] w0 w2 := by
  have on := Only.alloc wr (.cells #[.int .u8 (x.toNat : Int)] 5)
  have rn := Row.new wr 5 (u8s [x])
  obtain ⟨p', c', w2, hr, o2, h2, hp⟩ := append_owned (P := Tryd.prog) (n := ys.length) (m := 1) (bytes := 1) (q := some ⟨wr.heap.size, 0, none⟩) (c := 1) (news := u8s [x]) (t := 26) (ty := 26) _ Tryd.underlying26 infoU8w rfl (o.only0 on) rn.rd0 (by rfl) (by simp) (fun v hv => u8s_one hv) (by omega) (by omega) (Nat.le_trans ho.size on.size)
  refine ⟨p', c', w2, Lib.hid hr, ?_, (ho.trans0 on).transN h2 ?_⟩
  · rw [u8s_append, List.length_append]; exact o2
  · intro k hk
    exact (blk_own o k hk).1

theorem ref_lo (j : Nat) (h : j < 128) : ∃ x : UInt8, nb j = [x] ∧ (j : Int) % 128 = (x.toNat : Int) := by
  refine ⟨_, nb_lo h, ?_⟩
  rw [UInt8.toNat_ofNat']; omega
theorem ref_hi (j : Nat) (h : 128 ≤ j) : ∃ x : UInt8, nb j = x :: nb (j / 128) ∧ (j : Int) % 128 + 128 = (x.toNat : Int) := by
  refine ⟨_, nb_hi h, ?_⟩
  rw [UInt8.toNat_ofNat']; omega

theorem refNum_any (w : World) (n : Nat) (hn : n < 9223372036854775808) :
    Calls Tryd.prog 15 #[.int .i64 (n : Int)] w fun e w' => ∃ p c, e = .returned (.slice p (nb n).length c) ∧ Own w' w.heap.size 5 (.slice p (nb n).length c) (u8s (nb n)) ∧ Only [] w w' := by
  have h9 := nb_len9 n hn
  go_enter Tryd.func15, Tryd.ntmps15
  go_wp2_with fail
  go_loopw [0, 3] (fun i s wr => ∃ (j : Nat) (ys : List UInt8) (p : Option Addr) (c : Nat), i = .int .i64 (j : Int) ∧ s = .slice p ys.length c ∧ j ≤ n ∧ Own wr w.heap.size 5 (.slice p ys.length c) (u8s ys) ∧ Only [] w wr ∧ ys ++ nb j = nb n) (fun i _ _ => (intOf i).toNat)
  case atStart =>
    exact ⟨n, [], _, _, rfl, rfl, Nat.le_refl _, Own.ofRow (vs := []) (rest := []) (Nat.le_refl _) (Row.new w _ _) rfl (by omega), Only.alloc _ _, rfl⟩
  case round =>
    obtain ⟨j, ys, p, c, rfl, rfl, hj, o, ho, he⟩ := hrel
    have hlen : ys.length + (nb j).length = (nb n).length := by rw [← List.length_append, he]
    by_cases h128 : j < 128
    · obtain ⟨x, hx, hbx⟩ := ref_lo j h128
      obtain ⟨p', c', w2, Hr, o2, ho2⟩ := push_u8 ys x o ho (by rw [hx] at hlen; simp at hlen; omega)
      have hd : ((j : Int) / 128 == 0) = true := by simp; omega
      rw [hx] at he
      have He := Lib.hid he
      clear he hlen o ho hx
      go_wp2_with (first | (at_builtin; refine wpl_append (s := .tmp 13) (x := .tmp 15) rfl rfl rfl rfl Hr.out ?_))
      go_ret
      exact ⟨p', c', by rw [← He.out, List.length_append]; rfl, by rw [← He.out]; exact o2, ho2⟩
    · obtain ⟨x, hx, hbx⟩ := ref_hi j (by omega)
      obtain ⟨p', c', w2, Hr, o2, ho2⟩ := push_u8 ys x o ho (by rw [hx] at hlen; simp at hlen; omega)
      have hd : ((j : Int) / 128 == 0) = false := by simp; omega
      rw [hx] at he
      have He := Lib.hid he
      clear he hlen o ho hx
      go_wp2_with (first | (at_builtin; refine wpl_append (s := .tmp 17) (x := .tmp 20) rfl rfl rfl rfl Hr.out ?_))
      go_roundw
      case rel => exact ⟨j / 128, ys ++ [x], p', c', by go_num, by rw [List.length_append]; rfl, by omega, o2, ho2, by rw [List.append_assoc]; exact He.out⟩
      case measure => simp [intOf]; omega

theorem refBytes_any (p : Option Addr) (xs : List UInt8) (n c : Nat) (w : World) (hn : xs.length = n) (hb : n ≤ 140737488351232) (hp : p = none → n = 0 ∧ c = 0) (hx : Rd w p (u8s xs)) :
    Calls Tryd.prog 17 #[.slice p n c] w fun e w' => ∃ q m d, e = .returned (.slice q m d) ∧ Hid ((nb n ++ xs).length = m) ∧ Own w' w.heap.size 5 (.slice q m d) (u8s (nb n ++ xs)) ∧ Only [] w w' := by
  have hnum := refNum_any w n (by omega)
  have h9 := nb_len9 n (by omega)
  go_enter Tryd.func17, Tryd.ntmps17
  go_wp2_with fail
  refine hnum.mono ?_
  rintro e w1 ⟨p1, c1, rfl, o1, ho1⟩
  generalize hys : nb n = ys at h9 o1
  have Hys := Lib.hid hys
  clear hys
  obtain ⟨p', c', w2, hr, o2, h2, hp2⟩ := append_owned (P := Tryd.prog) (n := ys.length) (m := n) (c := c) (bytes := 1) (q := p) (news := u8s xs) (t := 26) (ty := 26) _ Tryd.underlying26 infoU8w rfl o1 (hx.only0 ho1) (by rw [u8s_length, hn]) hp (fun v hv => u8s_one hv) (by omega) (by omega) ho1.size
  have h12 : Only [] w w2 := ho1.transN h2 (fun k hk => (blk_own o1 k hk).1)
  have Hr := Lib.hid hr
  have Hn := Lib.hid hn
  clear hr hn o1 h2 hp2 ho1 hnum
  go_wp2_with (first | (at_builtin; refine wpl_append (s := .tmp 5) (x := .tmp 6) rfl rfl rfl rfl Hr.out ?_))
  go_ret
  exact ⟨p', ys.length + n, c', rfl, by show _ = _; rw [List.length_append, Hn.out, Hys.out], by rw [u8s_append, Hys.out]; exact o2, h12⟩

/-- the last bytes first: what the document's loop makes -/
theorem val7_down (ys : List UInt8) (m : Nat) (x : UInt8) (h : ys[m]? = some x) : val7 (ys.drop m) = val7 (ys.drop (m + 1)) * 128 + x.toNat % 128 := by
  have hm := (List.getElem?_eq_some_iff.1 h).1
  have hx := (List.getElem?_eq_some_iff.1 h).2
  rw [← List.getElem_cons_drop hm, hx]
  simp only [val7]; omega
theorem val7_lim (ys : List UInt8) (m : Nat) (h : ys.length ≤ m + 9) : val7 (ys.drop m) < 9223372036854775808 := by
  have := val7_lt (ys.drop m)
  have h2 : (128 : Nat) ^ (ys.drop m).length ≤ 128 ^ 9 := Nat.pow_le_pow_right (by omega) (by rw [List.length_drop]; omega)
  have h3 : (128 : Nat) ^ 9 = 9223372036854775808 := by decide +kernel
  omega
theorem says_no {ys : List UInt8} {k : Nat} {x : UInt8} (hx : ys[k]? = some x) (hlo : x.toNat < 128) (hb : ∀ j y, j < k → ys[j]? = some y → 128 ≤ y.toNat) (hne : nb (val7 (ys.take (k + 1))) ≠ ys.take (k + 1)) : ¬ ∃ n l : Nat, Says ys n l := by
  rintro ⟨n, l, h⟩
  obtain ⟨i, c, rfl, h1, h2, h3, h4, h5⟩ := h.at
  have : i = k := by
    rcases Nat.lt_trichotomy i k with h6 | h6 | h6
    · have := hb i c h6 h2; omega
    · exact h6
    · have := h5 k x h6 hx; omega
  subst this
  exact hne (by rw [← h.2.1, val7_nb])
end Go.Proofs.YtkhccchjflmcmaaDoor
