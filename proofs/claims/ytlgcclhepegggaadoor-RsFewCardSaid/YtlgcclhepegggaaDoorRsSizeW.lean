/- The walks of rs.Check, rs.Size, bollardref02.Legal, bollardref02.Size. -/
import Derived.Test.YtlgcclhepegggaaDoorErrNumW
import Derived.Test.YtlgcclhepegggaaDoorRegion
import Derived.Deep.QuietTactic
import Derived.BigQuiet
set_option linter.unusedVariables false
set_option maxRecDepth 100000
namespace Go.Proofs.YtlgcclhepegggaaDoor
open Go.RowKit

def legal (k m : Int) : Bool := decide (1 ≤ m ∧ m ≤ k ∧ k + m ≤ 16)
theorem legal_iff {k m : Int} : legal k m = true ↔ 1 ≤ m ∧ m ≤ k ∧ k + m ≤ 16 := by unfold legal; exact decide_eq_true_iff
theorem legal_not {k m : Int} : legal k m = false ↔ ¬ (1 ≤ m ∧ m ≤ k ∧ k + m ≤ 16) := by unfold legal; exact decide_eq_false_iff_not

theorem check_ok (k m : Int) (h : legal k m = true) (w : World) : Calls Tryd.prog 24 #[.int .i64 k, .int .i64 m] w fun e w' => e = .returned .nilIface ∧ w = w' := by
  obtain ⟨h1, h2, h3⟩ := legal_iff.1 h
  have t1 : ¬ m < 1 := by omega
  have t2 : ¬ k < m := by omega
  have t3 : ¬ 16 - m < k := by omega
  go_enter Tryd.func24, Tryd.ntmps24
  go_wp2_with fail
  go_ret
  exact ⟨rfl, rfl⟩
theorem check_bad (k m : Int) (h : legal k m = false) (hk : -9223372036854775808 ≤ k ∧ k ≤ 9223372036854775807) (hm : -9223372036854775808 ≤ m ∧ m ≤ 9223372036854775807) (w : World) (a : Addr) (hE : ErrAt w 0 a) :
    Calls Tryd.prog 24 #[.int .i64 k, .int .i64 m] w fun e w' => e = .returned (ev a) ∧ w = w' := by
  have h0 := legal_not.1 h
  have hc := hE.cell
  clear h
  by_cases t1 : m < 1
  · skip
    go_enter Tryd.func24, Tryd.ntmps24
    go_wp2_with fail
    go_ret
    exact ⟨rfl, rfl⟩
  · by_cases t2 : k < m
    · skip
      go_enter Tryd.func24, Tryd.ntmps24
      go_wp2_with fail
      go_ret
      exact ⟨rfl, rfl⟩
    · have t3 : 16 - m < k := by omega
      go_enter Tryd.func24, Tryd.ntmps24
      go_wp2_with fail
      go_ret
      exact ⟨rfl, rfl⟩

/-- how long a shard is -/
def shardLen (k n : Nat) : Nat := (n + k - 1) / k
theorem shardLen_le {k n : Nat} (hn : n ≤ 1024) : shardLen k n ≤ 1024 := by
  unfold shardLen
  rcases Nat.eq_zero_or_pos k with rfl | h
  · simp
  · rw [Nat.div_le_iff_le_mul h]
    rcases Nat.eq_zero_or_pos n with rfl | h2
    · omega
    · have : n + k - 1 ≤ n * k + (k - 1) := by
        have := Nat.le_mul_of_pos_right n h
        omega
      have h3 := Nat.mul_le_mul_right k hn
      omega
theorem size_ok (k m n : Nat) (h : legal (k : Int) (m : Int) = true) (hn : n ≤ 1024) (w : World) : Calls Tryd.prog 26 #[.int .i64 (k : Int), .int .i64 (m : Int), .int .i64 (n : Int)] w fun e w' => e = .returned (.tuple #[.int .i64 (shardLen k n : Int), .nilIface]) ∧ w = w' := by
  have hc := check_ok k m h w
  obtain ⟨h1, h2, h3⟩ := legal_iff.1 h
  have t1 : ¬ (n : Int) < 0 := by omega
  have t2 : ¬ (1024 : Int) < (n : Int) := by omega
  have hq : Int.tdiv ((n : Int) + (k : Int) - 1) (k : Int) = (shardLen k n : Int) := by
    unfold shardLen
    rw [show (n : Int) + (k : Int) - 1 = ((n + k - 1 : Nat) : Int) by omega]
    rfl
  have hk0 : ((k : Int) == 0) = false := by simp; omega
  have hk1 : ((k : Int) == -1) = false := by simp
  have hl := shardLen_le (k := k) hn
  clear h
  go_enter Tryd.func26, Tryd.ntmps26
  go_wp2_with fail
  (with_reducible refine (hc).mono ?_)
  rintro e w' ⟨rfl, rfl⟩
  go_wp2_with fail
  go_ret2
  exact ⟨rfl, rfl⟩
theorem size_params (k m n : Int) (h : legal k m = false) (hk : -9223372036854775808 ≤ k ∧ k ≤ 9223372036854775807) (hm : -9223372036854775808 ≤ m ∧ m ≤ 9223372036854775807) (w : World) (a : Addr) (hE : ErrAt w 0 a) : Calls Tryd.prog 26 #[.int .i64 k, .int .i64 m, .int .i64 n] w fun e w' => e = .returned (.tuple #[.int .i64 0, ev a]) ∧ w = w' := by
  have hc := check_bad k m h hk hm w a hE
  clear h
  unfold ev at hc ⊢
  go_enter Tryd.func26, Tryd.ntmps26
  go_wp2_with fail
  (with_reducible refine (hc).mono ?_)
  rintro e w' ⟨rfl, rfl⟩
  go_wp2_with fail
  go_ret2
  exact ⟨rfl, rfl⟩
theorem size_neg (k m n : Int) (h : legal k m = true) (hn : n < 0) (w : World) (a : Addr) (hE : ErrAt w 3 a) : Calls Tryd.prog 26 #[.int .i64 k, .int .i64 m, .int .i64 n] w fun e w' => e = .returned (.tuple #[.int .i64 0, ev a]) ∧ Only [] w w' := by
  have hc := check_ok k m h w
  have hE' := hE.cell
  clear h
  unfold ev
  go_enter Tryd.func26, Tryd.ntmps26
  go_wp2_with fail
  (with_reducible refine (hc).mono ?_)
  rintro e w' ⟨rfl, rfl⟩
  go_wp2_with fail
  go_quiet (fail)
  go_wp2_with fail
  go_ret2
  exact ⟨rfl, Only.drewN _ _⟩
theorem size_large (k m n : Int) (h : legal k m = true) (hn : 1024 < n) (w : World) (a : Addr) (hE : ErrAt w 4 a) : Calls Tryd.prog 26 #[.int .i64 k, .int .i64 m, .int .i64 n] w fun e w' => e = .returned (.tuple #[.int .i64 0, ev a]) ∧ Only [] w w' := by
  have hc := check_ok k m h w
  have hE' := hE.cell
  have t1 : ¬ n < 0 := by omega
  clear h
  unfold ev
  go_enter Tryd.func26, Tryd.ntmps26
  go_wp2_with fail
  (with_reducible refine (hc).mono ?_)
  rintro e w' ⟨rfl, rfl⟩
  go_wp2_with fail
  go_quiet (fail)
  go_wp2_with fail
  go_ret2
  exact ⟨rfl, Only.drewN _ _⟩
theorem refLegal_any (k m : Int) (hk : -9223372036854775808 ≤ k ∧ k ≤ 9223372036854775807) (hm : -9223372036854775808 ≤ m ∧ m ≤ 9223372036854775807) (w : World) : Calls Tryd.prog 25 #[.int .i64 k, .int .i64 m] w fun e w' => e = .returned (.bool (legal k m)) ∧ w = w' := by
  by_cases t1 : 1 ≤ m
  · by_cases t2 : m ≤ k
    · by_cases t3 : k ≤ 16
      · by_cases t4 : k + m ≤ 16
        · have h : legal k m = true := legal_iff.2 ⟨t1, t2, t4⟩
          rw [h]
          go_enter Tryd.func25, Tryd.ntmps25
          go_wp2_with fail
          go_ret
          exact ⟨rfl, rfl⟩
        · have h : legal k m = false := legal_not.2 (by omega)
          rw [h]
          go_enter Tryd.func25, Tryd.ntmps25
          go_wp2_with fail
          go_ret
          exact ⟨rfl, rfl⟩
      · have h : legal k m = false := legal_not.2 (by omega)
        rw [h]
        go_enter Tryd.func25, Tryd.ntmps25
        go_wp2_with fail
        go_ret
        exact ⟨rfl, rfl⟩
    · have h : legal k m = false := legal_not.2 (by omega)
      rw [h]
      go_enter Tryd.func25, Tryd.ntmps25
      go_wp2_with fail
      go_ret
      exact ⟨rfl, rfl⟩
  · have h : legal k m = false := legal_not.2 (by omega)
    rw [h]
    go_enter Tryd.func25, Tryd.ntmps25
    go_wp2_with fail
    go_ret
    exact ⟨rfl, rfl⟩
theorem refSize_ok (k m n : Nat) (h : legal (k : Int) (m : Int) = true) (hn : n ≤ 1024) (w : World) : Calls Tryd.prog 27 #[.int .i64 (k : Int), .int .i64 (m : Int), .int .i64 (n : Int)] w fun e w' => e = .returned (.tuple #[.int .i64 (shardLen k n : Int), .int .i64 0]) ∧ w = w' := by
  have hc := refLegal_any k m (by have := legal_iff.1 h; omega) (by have := legal_iff.1 h; omega) w
  obtain ⟨h1, h2, h3⟩ := legal_iff.1 h
  have t1 : ¬ (n : Int) < 0 := by omega
  have t2 : ¬ (1024 : Int) < (n : Int) := by omega
  have hl := shardLen_le (k := k) hn
  rw [h] at hc
  have hdone : ∀ s, s ≤ shardLen k n → (¬ s * k < n) → s = shardLen k n := fun s hs hn2 => by
    unfold shardLen at *
    have : n + k - 1 < (s + 1) * k := by rw [Nat.add_mul]; omega
    have := (Nat.div_lt_iff_lt_mul (by omega)).2 this
    omega
  have hgo : ∀ s, s ≤ shardLen k n → s * k < n → s + 1 ≤ shardLen k n := fun s hs hn2 => by
    unfold shardLen at *
    rw [Nat.le_div_iff_mul_le (by omega), Nat.add_mul]; omega
  have Hd := Lib.hid hdone
  have Hg := Lib.hid hgo
  clear h hdone hgo
  go_enter Tryd.func27, Tryd.ntmps27
  go_wp2_with fail
  (with_reducible refine (hc).mono ?_)
  rintro e w' ⟨rfl, rfl⟩
  go_wp2_with fail
  go_loopw [8] (fun i wr => ∃ s : Nat, i = .int .i64 (s : Int) ∧ s ≤ shardLen k n ∧ wr = w) (fun i _ => 2000 - (intOf i).toNat)
  case atStart => exact ⟨0, rfl, Nat.zero_le _, rfl⟩
  case round =>
    obtain ⟨s, rfl, hs, rfl⟩ := hrel
    have hsk : s * k ≤ 1024 * 16 := Nat.mul_le_mul (by omega) (by omega)
    obtain ⟨z, hz⟩ : ∃ z, z = s * k := ⟨_, rfl⟩
    have hmul : (s : Int) * (k : Int) = (z : Int) := by rw [hz]; simp
    rw [← hz] at hsk
    have Hz := Lib.hid hz
    clear hz
    by_cases hlt : z < n
    · have hlt2 : (z : Int) < (n : Int) := by omega
      have hg2 := Hg.out s hs (by rw [← Hz.out]; exact hlt)
      clear hlt
      go_wp2_with fail
      exact ⟨⟨s + 1, by go_num, hg2, trivial⟩, by simp [intOf]; omega⟩
    · have hlt2 : ¬ (z : Int) < (n : Int) := by omega
      have he := Lib.hid (Hd.out s hs (by rw [← Hz.out]; exact hlt))
      clear hlt
      go_wp2_with fail
      go_ret2
      exact ⟨by rw [he.out]; rfl, rfl⟩
theorem refSize_bad (k m n : Int) (h : legal k m = false ∨ n < 0 ∨ 1024 < n) (hk : -9223372036854775808 ≤ k ∧ k ≤ 9223372036854775807) (hm : -9223372036854775808 ≤ m ∧ m ≤ 9223372036854775807) (w : World) : Calls Tryd.prog 27 #[.int .i64 k, .int .i64 m, .int .i64 n] w fun e w' => e = .returned (.tuple #[.int .i64 0, .int .i64 (if legal k m = false then 1 else if n < 0 then 2 else 11)]) ∧ w = w' := by
  have hc := refLegal_any k m hk hm w
  cases hl : legal k m with
  | false =>
    rw [hl] at hc
    rw [if_pos rfl]
    clear h hl
    go_enter Tryd.func27, Tryd.ntmps27
    go_wp2_with fail
    (with_reducible refine (hc).mono ?_)
    rintro e w' ⟨rfl, rfl⟩
    go_wp2_with fail
    go_ret2
    exact ⟨rfl, rfl⟩
  | true =>
    rw [hl] at hc h
    by_cases hn : n < 0
    · rw [if_neg (by simp), if_pos hn]
      clear h hl
      go_enter Tryd.func27, Tryd.ntmps27
      go_wp2_with fail
      (with_reducible refine (hc).mono ?_)
      rintro e w' ⟨rfl, rfl⟩
      go_wp2_with fail
      go_ret2
      exact ⟨rfl, rfl⟩
    · have hn2 : 1024 < n := by
        rcases h with h | h | h
        · cases h
        · exact absurd h hn
        · exact h
      rw [if_neg (by simp), if_neg hn]
      clear h hl
      go_enter Tryd.func27, Tryd.ntmps27
      go_wp2_with fail
      (with_reducible refine (hc).mono ?_)
      rintro e w' ⟨rfl, rfl⟩
      go_wp2_with fail
      go_ret2
      exact ⟨rfl, rfl⟩
end Go.Proofs.YtlgcclhepegggaaDoor
