/- The walks of bollardref01.Dot and AddScaled. -/
import Derived.Test.YtkhccchjflmcmaaRefGfW
import Derived.Test.YtkhccchjflmcmaaGfAt
import Derived.Test.YtkhccchjflmcmaaBytesW
set_option linter.unusedVariables false
namespace Go.Proofs.Ytkhccchjflmcmaa
open Go.RowKit

/-- a slice that reads as these bytes -/
def IsB (zs : List UInt8) (L : Nat) : Value → World → Prop := fun v w => zs.length = L ∧ ∃ p cap, v = .slice p L cap ∧ Rd w p (u8s zs) ∧ (p = none → L = 0 ∧ cap = 0)
theorem IsB.stable (zs : List UInt8) (L : Nat) : Stable (Only []) (IsB zs L) := fun _ _ _ ⟨hl, p, cap, e, r, hp⟩ ho => ⟨hl, p, cap, e, r.only0 ho, hp⟩

/-- what AddScaled of the document has made behind k rounds -/
def asUp (x : UInt8) (xs ys : List UInt8) (k : Nat) : List UInt8 := (List.range k).map fun i => gadd (xs.getD i 0) (gmul x (ys.getD i 0))
theorem asUp_length (x : UInt8) (xs ys : List UInt8) (k : Nat) : (asUp x xs ys k).length = k := by simp [asUp]
theorem asUp_succ (x : UInt8) (xs ys : List UInt8) (k : Nat) : asUp x xs ys (k + 1) = asUp x xs ys k ++ [gadd (xs.getD k 0) (gmul x (ys.getD k 0))] := by simp [asUp, List.range_succ]
theorem asUp_each (x : UInt8) (xs ys : List UInt8) {n m : Nat} (hn : xs.length = n) (hm : ys.length = m) : asUp x xs ys (max n m) = eachS (fun a b => gadd a (gmul x b)) xs ys := by
  apply List.ext_getElem
  · rw [asUp_length, eachS_length, hn, hm]
  · intro i h1 h2
    rw [← getD_at h2, eachS_getD (fun a b => gadd a (gmul x b)) (scaled_zero x)]
    simp [asUp]

theorem refDot_any (p q : Option Addr) (xs ys : List UInt8) (n m c d : Nat) (w : World) (hn' : xs.length = n) (hm' : ys.length = m)
    (hn : n ≤ 140737488351232) (hm : m ≤ 140737488351232) (hx : Rd w p (u8s xs)) (hy : Rd w q (u8s ys)) :
    Calls Try.prog 28 #[.slice p n c, .slice q m d] w fun e w' => e = .returned (.int .u8 ((gdot xs ys).toNat : Int)) ∧ Drew w w' := by
  obtain ⟨L, hL⟩ : ∃ L, min n m = L := ⟨_, rfl⟩
  have hxn : L ≤ n := by omega
  have hxm : L ≤ m := by omega
  have hor : L = n ∨ L = m := by omega
  have HL := Lib.hid hL
  have Hn := Lib.hid hn'
  have Hm := Lib.hid hm'
  clear hn' hm' hL
  go_enter Try.func28, Try.ntmps28
  go_wp2_with fail
  go_loopw [5, 6] (fun o i wr => ∃ j : Nat, j ≤ L ∧ i = .int .i64 (j : Int) ∧ o = .int .u8 ((gdotUp xs ys j).toNat : Int) ∧ Drew w wr) (fun _ i _ => L - (intOf i).toNat)
  case atStart => exact ⟨0, Nat.zero_le _, rfl, rfl, Drew.refl _⟩
  case round =>
    obtain ⟨j, hj, rfl, rfl, HN⟩ := hrel
    have o1 := HN.only
    by_cases hlt : j < L
    · obtain ⟨b, off, rfl, hxc⟩ := (hx.only0 o1).bytes (by rw [Hn.out]; omega)
      obtain ⟨b2, off2, rfl, hyc⟩ := (hy.only0 o1).bytes (by rw [Hm.out]; omega)
      have hc1 := hxc j (by rw [Hn.out]; omega)
      have hc2 := hyc j (by rw [Hm.out]; omega)
      have hj1 : (j : Int) < n := by omega
      have hj2 : (j : Int) < m := by omega
      clear hxc hyc hor
      go_wp2_with fail
      go_quiet ((go_at_call 25; exact qof0 (refMul_any _ _ _)))
      go_wp2_with fail
      go_roundw
      case rel => exact ⟨j + 1, by omega, by go_num, by rw [u8_xor_u8, gdotUp, getD_at, getD_at, gadd], HN.trans (Drew.N _ _)⟩
      case measure => simp [intOf]; omega
    · obtain rfl : j = L := by omega
      by_cases hn2 : j < n
      · have hm2 : ¬ j < m := by omega
        go_wp2_with fail
        go_ret
        exact ⟨by rw [gdot, Hn.out, Hm.out, HL.out]; rfl, HN⟩
      · skip
        go_wp2_with fail
        go_ret
        exact ⟨by rw [gdot, Hn.out, Hm.out, HL.out]; rfl, HN⟩

theorem refAddScaled_any (p q : Option Addr) (xs ys : List UInt8) (x : UInt8) (n m c d : Nat) (w : World) (hn' : xs.length = n) (hm' : ys.length = m)
    (hn : n ≤ 140737488351232) (hm : m ≤ 140737488351232) (hx : Rd w p (u8s xs)) (hy : Rd w q (u8s ys)) :
    Calls Try.prog 29 #[.slice p n c, .int .u8 (x.toNat : Int), .slice q m d] w fun e w' => ∃ v, e = .returned v ∧ Own w' w.heap.size 5 v (u8s (asUp x xs ys (max n m))) ∧ Only [] w w' := by
  obtain ⟨L, hL⟩ : ∃ L, max n m = L := ⟨_, rfl⟩
  rw [hL]
  have hxn : n ≤ L := by omega
  have hxm : m ≤ L := by omega
  have hor : L = n ∨ L = m := by omega
  have bL : L ≤ 140737488351232 := by omega
  have Hn := Lib.hid hn'
  have Hm := Lib.hid hm'
  clear hn' hm' hL
  go_enter Try.func29, Try.ntmps29
  go_wp2_with fail
  go_loopw [7, 8] (fun v i wr => ∃ j : Nat, j ≤ L ∧ i = .int .i64 (j : Int) ∧ Own wr w.heap.size 5 v (u8s (asUp x xs ys j)) ∧ Only [] w wr) (fun _ i _ => L - (intOf i).toNat)
  case atStart => exact ⟨0, Nat.zero_le _, rfl, Own.ofRow (vs := []) (rest := []) (Nat.le_refl _) (Row.new w 5 []) rfl (by omega), Only.alloc _ _⟩
  case round =>
    obtain ⟨j, hj, rfl, hown, ho⟩ := hrel
    by_cases hlt : j < L
    · obtain ⟨Z, hZ⟩ : ∃ Z, gadd (xs.getD j 0) (gmul x (ys.getD j 0)) = Z := ⟨_, rfl⟩
      have HZ := Lib.hid hZ
      obtain ⟨v', w2, hr, own2, o2⟩ := append_own (P := Try.prog) (wr.alloc (.cells #[.int .u8 (Z.toNat : Int)] 5)) (t := 33) (ty := 33) (c := 1) (m := 1) (p := some ⟨wr.heap.size, 0, none⟩) Try.underlying33 Try.infoU8' rfl
        (hown.only0 (Only.alloc _ _)) (Row.new wr 5 [u8 Z]).rd0 rfl (by simp) (by simp [u8]; rfl) (by rw [u8s_length, asUp_length]; omega) (by rw [u8s_length, asUp_length]; omega) (by have := ho.size; simp; omega)
      have o3 : Only [] w w2 := Only.own (ho.trans0 (Only.alloc _ _)) (hown.only0 (Only.alloc wr _)) (Nat.le_refl _) o2
      have own3 : Own w2 w.heap.size 5 v' (u8s (asUp x xs ys (j + 1))) := by rw [asUp_succ, u8s_append, hZ]; exact own2
      have Hr := Lib.hid hr
      have Hor : Hid (¬ j < n → j < m) := Lib.hid (by omega)
      clear hr own2 o2 hZ hor
      by_cases h1 : j < n
      · obtain ⟨b, off, rfl, hxc⟩ := (hx.only0 ho).bytes (by rw [Hn.out]; omega)
        have hc1 := hxc j (by rw [Hn.out]; omega)
        clear hxc
        by_cases h2 : j < m
        · obtain ⟨b2, off2, rfl, hyc⟩ := (hy.only0 ho).bytes (by rw [Hm.out]; omega)
          have hc2 := hyc j (by rw [Hm.out]; omega)
          have ex : bits .xor .u8 ((xs[j]'(by rw [Hn.out]; omega)).toNat : Int) ((gmul x (ys[j]'(by rw [Hm.out]; omega))).toNat : Int) = (Z.toNat : Int) := by
            rw [u8_xor_u8, ← HZ.out, getD_at, getD_at]; rfl
          clear hyc
          go_wp2_with fail
          (with_reducible refine (refMul_any _ _ _).mono ?_)
          rintro e w' ⟨rfl, rfl⟩
          go_wp2_with (first | (at_builtin; refine wpl_append (s := .tmp 43) (x := .tmp 45) rfl rfl rfl rfl Hr.out ?_))
          go_roundw
          case rel => exact ⟨j + 1, by omega, by go_num, own3, o3⟩
          case measure => simp [intOf]; omega
        · have e : xs[j]'(by rw [Hn.out]; omega) = Z := by rw [← HZ.out, getD_out (xs := ys) (by rw [Hm.out]; omega), gmul_zero_right, gadd_zero, getD_at]
          rw [e] at hc1
          clear e
          go_wp2_with (first | (at_builtin; refine wpl_append (s := .tmp 43) (x := .tmp 45) rfl rfl rfl rfl Hr.out ?_))
          go_roundw
          case rel => exact ⟨j + 1, by omega, by go_num, own3, o3⟩
          case measure => simp [intOf]; omega
      · have h2 : j < m := Hor.out h1
        obtain ⟨b2, off2, rfl, hyc⟩ := (hy.only0 ho).bytes (by rw [Hm.out]; omega)
        have hc2 := hyc j (by rw [Hm.out]; omega)
        have ex : bits .xor .u8 0 ((gmul x (ys[j]'(by rw [Hm.out]; omega))).toNat : Int) = (Z.toNat : Int) := by
          rw [← HZ.out, getD_out (xs := xs) (by rw [Hn.out]; omega), getD_at]
          exact u8_xor_u8 0 _
        clear hyc
        go_wp2_with fail
        (with_reducible refine (refMul_any _ _ _).mono ?_)
        rintro e w' ⟨rfl, rfl⟩
        go_wp2_with (first | (at_builtin; refine wpl_append (s := .tmp 43) (x := .tmp 45) rfl rfl rfl rfl Hr.out ?_))
        go_roundw
        case rel => exact ⟨j + 1, by omega, by go_num, own3, o3⟩
        case measure => simp [intOf]; omega
    · obtain rfl : j = L := by omega
      have h1 : ¬ j < n := by omega
      have h2 : ¬ j < m := by omega
      go_wp2_with fail
      go_ret
      exact ⟨_, rfl, hown, ho⟩
end Go.Proofs.Ytkhccchjflmcmaa
