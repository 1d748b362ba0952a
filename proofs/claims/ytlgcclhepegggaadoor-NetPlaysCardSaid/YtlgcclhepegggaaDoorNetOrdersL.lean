/- What stands between two acts of bollardlaw14.NetOrders. -/
import Derived.Test.YtlgcclhepegggaaDoorNetAliveW
import Derived.Test.YtlgcclhepegggaaDoorSameIntsW
set_option linter.unusedVariables false
set_option maxRecDepth 100000
namespace Go.Proofs.YtlgcclhepegggaaDoor
open Go.RowKit

theorem numsV_ints (L : List Lt) : numsV L = intsV (L.map fun o => (o.n : Int)) := by simp [numsV, intsV]
/-- what stands between two acts -/
structure OS (w0 : World) (B0 j : Nat) (w : World) (q : Option Addr) (n c last : Nat) (L : List Lt) (p : Option Addr) (d : Nat) : Prop where
  net : NetAt w B0 B0 q n c last L
  rises : Rises last L
  own : Own w B0 3 (.slice p n d) (numsV L)
  apart : ∀ x ∈ blk p, x ∉ netD B0 q L
  n4 : n ≤ 4096
  lj : last ≤ j
  only : Only [] w0 w
  b0 : w0.heap.size ≤ B0
section
variable {w0 w w' w1 w5 : World} {B0 j n c last d : Nat} {q p : Option Addr} {L : List Lt}
theorem ownBlk {base n c : Nat} {p : Option Addr} {k : Nat} (hk : Value.ownBlock (.slice p n c) = some k) : k ∈ blk p := by
  cases p with
  | none => simp [Value.ownBlock] at hk
  | some a => simp [Value.ownBlock] at hk; simp [blk, hk]
theorem OS.only0 (h : OS w0 B0 j w q n c last L p d) (ho : Only [] w w') : OS w0 B0 j w' q n c last L p d :=
  ⟨h.net.only0 ho, h.rises, h.own.only0 ho, h.apart, h.n4, h.lj, h.only.trans0 ho, h.b0⟩
theorem OS.more (h : OS w0 B0 j w q n c last L p d) : OS w0 B0 (j + 1) w q n c last L p d := { h with lj := Nat.le_succ_of_le h.lj }
theorem OS.plt (h : OS w0 B0 j w q n c last L p d) : ∀ x ∈ blk p, B0 ≤ x ∧ x < w.heap.size := fun x hx => by
  cases p with
  | none => cases hx
  | some a => simp [blk] at hx; subst hx; exact h.own.lt _ rfl
theorem OS.rd (h : OS w0 B0 j w q n c last L p d) : Rd w p (numsV L) := h.own.view.1
theorem OS.netOnly (h : OS w0 B0 j w q n c last L p d) (hO : Only (B0 :: blk q) w w') : Own w' B0 3 (.slice p n d) (numsV L) ∧ Only [] w0 w' := by
  refine ⟨h.own.only hO (fun k hk hm => h.apart k (ownBlk (base := 0) hk) ?_), h.net.fresh h.b0 h.only hO⟩
  rcases List.mem_cons.1 hm with e | e
  · simp [netD, e]
  · simp [netD, e]
/-- a letter has been put, its number has been written down -/
theorem OS.put {c' d' : Nat} {q' p' : Option Addr} {o : Lt} (h : OS w0 B0 j w q n c last L p d) (hn : NetAt w' B0 B0 q' (n + 1) c' (last + 1) (L ++ [o])) (hon : o.n = last + 1) (hbb : ∀ x ∈ o.bb, w.heap.size ≤ x) (hq : ∀ x ∈ blk q', x ∈ blk q ∨ w.heap.size ≤ x) (hO : Only (B0 :: blk q) w w') (hn4 : n < 4096)
    (oA : Only [] w' w1) (own5 : Own w5 B0 3 (.slice p' (n + 1) d') (numsV L ++ [.int .i64 ((last + 1 : Nat) : Int)])) (o5 : Only (blk p) w1 w5) (hb5 : p' = p ∨ ∃ g, p' = some ⟨g, 0, none⟩ ∧ w1.heap.size ≤ g) :
    OS w0 B0 (j + 1) w5 q' (n + 1) c' (last + 1) (L ++ [o]) p' d' := by
  have hsz := hO.size
  have hszA := oA.size
  have hp : ∀ x ∈ blk p, x ∉ netD B0 q' (L ++ [o]) := fun x hx hm => by
    have h1 := (h.plt x hx).2
    unfold netD at hm
    rcases List.mem_cons.1 hm with e | hm
    · exact h.apart x hx (by simp [netD, e])
    · rcases List.mem_append.1 hm with hm | hm
      · rcases hq x hm with h2 | h2
        · exact h.apart x hx (by simp [netD, h2])
        · omega
      · rw [bbs_append] at hm
        rcases List.mem_append.1 hm with hm | hm
        · exact h.apart x hx (by simp [netD, hm])
        · have := hbb x (by simpa [bbs] using hm)
          omega
  have hN1 := hn.only0 oA
  have hfr := (h.netOnly hO).2
  refine ⟨hN1.only o5 hp, h.rises.snoc hon, ?_, ?_, by omega, by have := h.lj; omega, (hfr.trans0 oA).transN o5 (fun x hx => by have := (h.plt x hx).1; have := h.b0; omega), h.b0⟩
  · unfold numsV at own5 ⊢
    rw [List.map_append]
    simpa [hon] using own5
  · rcases hb5 with rfl | ⟨g, rfl, hg⟩
    · exact hp
    · intro x hx hm
      simp [blk] at hx
      subst hx
      have := (hN1.lt x hm).2
      omega
/-- a letter is gone, its number has been struck -/
theorem OS.erased {i d' : Nat} {p' : Option Addr} (h : OS w0 B0 j w q n c last L p d) (hn : NetAt w' B0 B0 q (n - 1) c last (L.eraseIdx i)) (hO : Only (B0 :: blk q) w w') (hB : w'.heap.size ≤ B0 ∨ True) (o5 : Only [] w' w5) (own5 : Own w5 w'.heap.size 3 (.slice p' (n - 1) d') (numsV (L.eraseIdx i))) :
    OS w0 B0 (j + 1) w5 q (n - 1) c last (L.eraseIdx i) p' d' := by
  have hsz := hO.size
  have hBw := h.net.st.lt
  have hn5 := hn.only0 o5
  refine ⟨hn5, h.rises.erase, own5.weaken (by omega), ?_, by have := h.n4; omega, by have := h.lj; omega, (h.netOnly hO).2.trans0 o5, h.b0⟩
  intro x hx hm
  cases p' with
  | none => cases hx
  | some a =>
    simp [blk] at hx
    subst hx
    have h1 := (own5.lt _ rfl).1
    have h2 := (hn.lt _ hm).2
    omega
theorem OS.find (h : OS w0 B0 j w q n c last L p d) {i k : Nat} {a b : Lt} (hi : L[i]? = some a) (hk : L[k]? = some b) (e : a.n = b.n) : i = k := by
  rcases Nat.lt_trichotomy i k with h1 | h1 | h1
  · have := h.rises.lt hi hk h1; omega
  · exact h1
  · have := h.rises.lt hk hi h1; omega
end
theorem numsV_erase (L : List Lt) (k : Nat) : numsV (L.eraseIdx k) = (numsV L).take k ++ (numsV L).drop (k + 1) := by
  unfold numsV
  rw [List.eraseIdx_eq_take_drop_succ, List.map_append, List.map_take, List.map_drop]
end Go.Proofs.YtlgcclhepegggaaDoor
