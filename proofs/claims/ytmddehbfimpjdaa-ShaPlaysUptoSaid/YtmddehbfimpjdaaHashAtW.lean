/- Hashes that a call has made itself: what the laws of chapter 3 do to them. -/
import Derived.Test.YtmddehbfimpjdaaShaTopW
import Derived.Stop.BytesEq
set_option linter.unusedVariables false
namespace Go.Proofs.Ytmddehbfimpjdaa
open Go.RowKit

theorem eq32 (A B : List UInt8) (hA : A.length = 32) (hB : B.length = 32) (w : World) : (binOp .eql 25 (.agg (u8s A).toArray) (.agg (u8s B).toArray)).run Try.prog w = .ok (.bool (A == B)) w :=
  run_eql_bytes w _ _ 32 Try.underlying25 Try.underlying5 Try.sizeOf5 A B hA hB
theorem eqIn32 (A B : List UInt8) (hA : A.length = 32) (hB : B.length = 32) (w : World) : (Op.equalIn 10000 25 (.agg (u8s A).toArray) (.agg (u8s B).toArray)).run Try.prog w = .ok (A == B) w :=
  run_equalIn_bytes w 9998 _ _ 32 Try.underlying25 Try.underlying5 Try.sizeOf5 A B hA hB
theorem guard32 : Try.prog.eqGuardType Try.prog.depth 25 = false := by kernel_rfl

/-- a hash that was made behind the world W0 and was given xs -/
def HashAt (W0 w : World) (F : List Nat) (B : Nat) (xs : List UInt8) : Prop := Hs w F B xs ∧ Only [] W0 w ∧ ∀ k ∈ F, W0.heap.size ≤ k ∧ k < w.heap.size
theorem HashAt.low {W0 w : World} {F : List Nat} {B : Nat} {xs : List UInt8} (h : HashAt W0 w F B xs) : Only [] W0 w := h.2.1
theorem HashAt.only0 {W0 w w' : World} {F : List Nat} {B : Nat} {xs : List UInt8} (h : HashAt W0 w F B xs) (ho : Only [] w w') : HashAt W0 w' F B xs :=
  ⟨h.1.only ho (by simp), h.2.1.trans0 ho, fun k hk => ⟨(h.2.2 k hk).1, Nat.lt_of_lt_of_le (h.2.2 k hk).2 ho.size⟩⟩
/-- .. when another one turns -/
theorem HashAt.other {W0 w w' : World} {F G : List Nat} {B : Nat} {xs : List UInt8} (h : HashAt W0 w F B xs) (ho : Only G w w') (h0 : Only [] W0 w') (hd : ∀ k ∈ F, k ∉ G) : HashAt W0 w' F B xs :=
  ⟨h.1.only ho hd, h0, fun k hk => ⟨(h.2.2 k hk).1, Nat.lt_of_lt_of_le (h.2.2 k hk).2 ho.size⟩⟩
theorem new_at (W0 w : World) (h0 : Only [] W0 w) : Calls Try.prog 21 #[] w fun e w' => ∃ B F, e = .returned (.pointer (some ⟨B, 0, none⟩)) ∧ HashAt W0 w' F B [] ∧ Only [] w w' ∧ (∀ k ∈ F, w.heap.size ≤ k) := by
  refine (new_any w).mono ?_
  rintro e w' ⟨B, F, rfl, h1, h2, h3⟩
  exact ⟨B, F, rfl, ⟨h1, h0.trans0 h2, fun k hk => ⟨Nat.le_trans h0.size (h3 k hk), h1.lt k hk⟩⟩, h2, h3⟩
theorem write_at (W0 w : World) (F : List Nat) (B : Nat) (xs bs : List UInt8) (q : Option Addr) (m c : Nat) (h : HashAt W0 w F B xs) (hr : Rd W0 q (u8s bs)) (hm : bs.length = m) (hq : q = none → m = 0 ∧ c = 0)
    (hbm : m + 64 ≤ 140737488355328) (hb : xs.length + m ≤ 1152921504606846976) :
    Calls Try.prog 22 #[.pointer (some ⟨B, 0, none⟩), .slice q m c] w fun e w' => e = .returned (.tuple #[]) ∧ ∃ F', HashAt W0 w' F' B (xs ++ bs) ∧ Only F w w' ∧ (∀ k ∈ F', k ∈ F ∨ w.heap.size ≤ k) := by
  obtain ⟨h1, h2, h3⟩ := h
  refine (write_any w F B xs bs q m c h1 (fun w1 ho => hr.after (S := [B]) ((h2.mono (by simp)).trans ho (fun i hi _ => hi)) (fun k hk => by obtain rfl := List.mem_singleton.1 hk; exact (h3 _ h1.head).1)) hm hq hbm hb).mono ?_
  rintro e w' ⟨rfl, F', k1, k2, k3⟩
  exact ⟨rfl, F', ⟨k1, h2.transN k2 (fun i hi => (h3 i hi).1), fun k hk => ⟨(k3 k hk).elim (fun h => (h3 k h).1) (fun h => Nat.le_trans h2.size h), k1.lt k hk⟩⟩, k2, k3⟩
theorem sum_at (W0 w : World) (F : List Nat) (B : Nat) (xs : List UInt8) (h : HashAt W0 w F B xs) (hb : xs.length ≤ 1152921504606846976) :
    Calls Try.prog 23 #[.pointer (some ⟨B, 0, none⟩)] w fun e w' => e = .returned (.agg (u8s (shaB xs)).toArray) ∧ Only [] w w' := hashSum_any w F B xs h.1 hb
theorem len_at (W0 w : World) (F : List Nat) (B : Nat) (xs : List UInt8) (h : HashAt W0 w F B xs) : Calls Try.prog 24 #[.pointer (some ⟨B, 0, none⟩)] w fun e w' => e = .returned (.int .i64 (xs.length : Int)) ∧ w = w' := len_any w F B _ _ _ h.1
/-- a slice cut off at the front -/
theorem Rd.cut {w : World} {p : Option Addr} {vs : List Value} (h : Rd w p vs) (c k : Nat) (hc : vs.length ≤ c) : Rd w (if c = k then p else Option.map (fun x => (⟨x.block, x.off + k, none⟩ : Addr)) p) (vs.drop k) := by
  by_cases e : c = k
  · rw [List.drop_eq_nil_of_le (by omega)]; exact Rd.nil _ _
  · rw [if_neg e]
    rcases h with rfl | ⟨b, off, rfl, h⟩
    · exact .inl (by simp)
    · exact .inr ⟨b, off + k, rfl, fun j v hv => by
        rw [List.getElem?_drop] at hv
        have := h (k + j) v hv
        rwa [← Nat.add_assoc] at this⟩
theorem cut_none {p : Option Addr} {c k n : Nat} (hp : p = none → n = 0 ∧ c = 0) : (if c = k then p else Option.map (fun x => (⟨x.block, x.off + k, none⟩ : Addr)) p) = none → n = 0 ∧ c = 0 := by
  intro h
  apply hp
  split at h
  · exact h
  · simpa using h
end Go.Proofs.Ytmddehbfimpjdaa
