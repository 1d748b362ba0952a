/- Two nets and their models in two arrays: the state of bollardlaw14.NetPlays. -/
import Derived.Test.YtlgcclhepegggaaDoorNetWaitsW
set_option linter.unusedVariables false
set_option maxRecDepth 100000
namespace Go.Proofs.YtlgcclhepegggaaDoor
open Go.RowKit

theorem NetAt.weaken {w : World} {base b' B n c last : Nat} {q : Option Addr} {L : List Lt} (h : NetAt w base B q n c last L) (hb : b' ≤ base) : NetAt w b' B q n c last L :=
  ⟨h.st, h.own.weaken hb, h.ok, h.len, h.nd, Nat.le_trans hb h.lo.1, fun x hx => Nat.le_trans hb (h.lo.2 x hx)⟩
theorem RefAt.fresh {w : World} {base B : Nat} (h : Row w B 50 [.slice none 0 0, .int .i64 0]) (hb : base ≤ B) : RefAt w base B none 0 0 0 [] :=
  ⟨h, ⟨rfl, .inl ⟨rfl, rfl⟩⟩, rfl, by simp [blk], hb⟩
/-- a net and its model -/
structure Pr where
  B : Nat
  q : Option Addr
  n : Nat
  c : Nat
  last : Nat
  L : List Lt
  Br : Nat
  qr : Option Addr
  cr : Nat
def Pr.At (w : World) (base : Nat) (P : Pr) : Prop := PA w base P.B P.q P.n P.c P.last P.L P.Br P.qr P.cr
def Pr.D (P : Pr) : List Nat := paD P.B P.q P.L P.Br P.qr
def Pr.End (w0 : World) (base : Nat) (P : Pr) (w' : World) : Prop := PlayEnd w0 base P.B P.q P.last P.L P.Br P.qr w'
def pB (P : Pr) : Value := .pointer (some ⟨P.B, 0, none⟩)
def pR (P : Pr) : Value := .pointer (some ⟨P.Br, 0, none⟩)
theorem PlayEnd.from0 {w0 w w' : World} {base B last Br : Nat} {q qr : Option Addr} {L : List Lt} (h0 : Only [] w0 w) (h : PlayEnd w base B q last L Br qr w') : PlayEnd w0 base B q last L Br qr w' := by
  obtain ⟨q', n', c', last', L', qr', cr', h1, h2, h3, h4⟩ := h
  have hs := h0.size
  exact ⟨q', n', c', last', L', qr', cr', h1, h2, fun x hx => (h3 x hx).imp id (fun h => by omega), (h0.mono (by simp)).trans h4 (fun i hi _ => hi)⟩
theorem PlayEnd.only0 {w0 w w' : World} {base B last Br : Nat} {q qr : Option Addr} {L : List Lt} (h : PlayEnd w0 base B q last L Br qr w) (ho : Only [] w w') : PlayEnd w0 base B q last L Br qr w' := by
  obtain ⟨q', n', c', last', L', qr', cr', h1, h2, h3, h4⟩ := h
  exact ⟨q', n', c', last', L', qr', cr', h1.only0 ho, h2, h3, h4.trans0 ho⟩

structure NS (wz w : World) (ga gb : Nat) (P : Nat → Pr) (lim : Nat) : Prop where
  pa : ∀ k, k < 2 → (P k).At w wz.heap.size
  dis : ∀ k l, k < 2 → l < 2 → k ≠ l → ∀ x ∈ (P k).D, x ∉ (P l).D
  ra : Row w ga 46 [pB (P 0), pB (P 1)]
  rb : Row w gb 51 [pR (P 0), pR (P 1)]
  nd : ∀ k, k < 2 → ga ∉ (P k).D ∧ gb ∉ (P k).D
  lim : ∀ k, k < 2 → (P k).last ≤ lim
  only : Only [] wz w
section
variable {wz w w' : World} {ga gb lim lim' : Nat} {P : Nat → Pr}
theorem NS.only0 (h : NS wz w ga gb P lim) (ho : Only [] w w') : NS wz w' ga gb P lim :=
  ⟨fun k hk => (h.pa k hk).only0 ho, h.dis, h.ra.only0 ho, h.rb.only0 ho, h.nd, h.lim, h.only.trans0 ho⟩
theorem NS.mono (h : NS wz w ga gb P lim) (hl : lim ≤ lim') : NS wz w ga gb P lim' := ⟨h.pa, h.dis, h.ra, h.rb, h.nd, fun k hk => Nat.le_trans (h.lim k hk) hl, h.only⟩
theorem NS.lt (h : NS wz w ga gb P lim) {k : Nat} (hk : k < 2) : ∀ x ∈ (P k).D, wz.heap.size ≤ x ∧ x < w.heap.size := fun x hx => PA.lt (h.pa k hk) x hx
theorem NS.ca (h : NS wz w ga gb P lim) {k : Nat} (hk : k < 2) : w.cell? ⟨ga, k, none⟩ = some (pB (P k)) := h.ra.cell (by
  obtain rfl | rfl : k = 0 ∨ k = 1 := by omega
  · rfl
  · rfl)
theorem NS.cb (h : NS wz w ga gb P lim) {k : Nat} (hk : k < 2) : w.cell? ⟨gb, k, none⟩ = some (pR (P k)) := h.rb.cell (by
  obtain rfl | rfl : k = 0 ∨ k = 1 := by omega
  · rfl
  · rfl)
/-- a turn of the other pair leaves a pair alone -/
theorem NS.play (h : NS wz w ga gb P lim) {k : Nat} (hk : k < 2) (he : (P k).End w wz.heap.size w') : ∃ P', NS wz w' ga gb P' (lim + 1) ∧ (∀ i, i < 2 → ∀ x ∈ (P' i).D, x ∈ (P i).D ∨ w.heap.size ≤ x) := by
  obtain ⟨q', n', c', last', L', qr', cr', h1, h2, h3, h4⟩ := he
  have hs := h4.size
  refine ⟨fun i => if i = k then ⟨(P k).B, q', n', c', last', L', (P k).Br, qr', cr'⟩ else P i, ?_, fun i hi x hx => by
    dsimp only at hx
    by_cases e : i = k
    · subst e; rw [if_pos rfl] at hx; exact h3 x hx
    · rw [if_neg e] at hx; exact .inl hx⟩
  have hD : ∀ i, i < 2 → i ≠ k → ∀ x ∈ (P k).D, x ∉ (P i).D := fun i hi hne => h.dis k i hk hi (fun e => hne e.symm)
  have hD2 : ∀ i, i < 2 → i ≠ k → ∀ x ∈ paD (P k).B q' L' (P k).Br qr', x ∉ (P i).D := fun i hi hne x hx hm => by
    rcases h3 x hx with h5 | h5
    · exact hD i hi hne x h5 hm
    · have := (h.lt hi x hm).2; omega
  have hB : ∀ i, (if i = k then (⟨(P k).B, q', n', c', last', L', (P k).Br, qr', cr'⟩ : Pr) else P i).B = (P i).B := fun i => by split <;> rename_i e <;> simp [e]
  have hBr : ∀ i, (if i = k then (⟨(P k).B, q', n', c', last', L', (P k).Br, qr', cr'⟩ : Pr) else P i).Br = (P i).Br := fun i => by split <;> rename_i e <;> simp [e]
  have hl := h.lim k hk
  refine ⟨fun i hi => ?_, fun i j hi hj hij => ?_, ?_, ?_, fun i hi => ?_, fun i hi => ?_, h.only.transN h4 (fun x hx => (h.lt hk x hx).1)⟩
  · by_cases e : i = k
    · rw [if_pos e]; exact h1
    · rw [if_neg e]; exact PA.only (h.pa i hi) h4 (fun x hx hm => hD i hi e x hx hm)
  · by_cases e : i = k
    · by_cases e2 : j = k
      · exact absurd (e.trans e2.symm) hij
      · simp only [if_pos e, if_neg e2]; exact hD2 j hj e2
    · by_cases e2 : j = k
      · simp only [if_neg e, if_pos e2]
        exact fun x hx hm => hD2 i hi e x hm hx
      · simp only [if_neg e, if_neg e2]; exact h.dis i j hi hj hij
  · simp only [pB, hB]; exact h.ra.only h4 (h.nd k hk).1
  · simp only [pR, hBr]; exact h.rb.only h4 (h.nd k hk).2
  · by_cases e : i = k
    · rw [if_pos e]
      refine ⟨fun hm => ?_, fun hm => ?_⟩
      · rcases h3 _ hm with h5 | h5
        · exact (h.nd k hk).1 h5
        · have := h.ra.lt; omega
      · rcases h3 _ hm with h5 | h5
        · exact (h.nd k hk).2 h5
        · have := h.rb.lt; omega
    · rw [if_neg e]; exact h.nd i hi
  · by_cases e : i = k
    · rw [if_pos e]; dsimp only; omega
    · rw [if_neg e]; have := h.lim i hi; omega
end
/-- what a call of play answers, in a region -/
def PlayV (w0 : World) (base : Nat) (P : Pr) : Value → World → Prop := fun v w => v = .bool true ∧ P.End w0 base w
theorem PlayV.stable {w0 : World} {base : Nat} {P : Pr} : Stable (Only []) (PlayV w0 base P) := fun _ _ _ h ho => ⟨h.1, PlayEnd.only0 h.2 ho⟩
/-- a byte in a block of its own -/
def New1 (k : Nat) (x : UInt8) : Value → World → Prop := fun v w => ∃ g, v = .slice (some ⟨g, 0, none⟩) 1 1 ∧ k ≤ g ∧ Rd w (some ⟨g, 0, none⟩) (u8s [x])
theorem New1.stable {k : Nat} {x : UInt8} {S : List Nat} (hS : ∀ y ∈ S, y < k) : Stable (Only S) (New1 k x) := fun _ _ _ ⟨g, h1, h2, h3⟩ ho => ⟨g, h1, h2, h3.only ho (fun a ha hm => by
  obtain rfl := Option.some.inj ha
  have := hS _ hm
  dsimp only at this
  omega)⟩
def New1A (k : Nat) (x : UInt8) (t : Int) : Value → World → Prop := fun v w => ∃ g, v = .agg #[.int .i64 1, .int .i64 0, .int .i64 0, .int .i64 t, .int .i64 0, .slice (some ⟨g, 0, none⟩) 1 1] ∧ k ≤ g ∧ Rd w (some ⟨g, 0, none⟩) (u8s [x])
theorem New1A.stable {k : Nat} {x : UInt8} {t : Int} {S : List Nat} (hS : ∀ y ∈ S, y < k) : Stable (Only S) (New1A k x t) := fun _ _ _ ⟨g, h1, h2, h3⟩ ho => ⟨g, h1, h2, h3.only ho (fun a ha hm => by
  obtain rfl := Option.some.inj ha
  have := hS _ hm
  dsimp only at this
  omega)⟩
end Go.Proofs.YtlgcclhepegggaaDoor
