/- A net and the document's net, side by side. -/
import Derived.Test.YtlgcclhepegggaaDoorNetAliveW
import Derived.Test.YtlgcclhepegggaaDoorNetRefLoseW
set_option linter.unusedVariables false
set_option maxRecDepth 100000
namespace Go.Proofs.YtlgcclhepegggaaDoor
open Go.RowKit

/-- a net and the document's net with the same letters -/
structure PA (w : World) (base B : Nat) (q : Option Addr) (n c last : Nat) (L : List Lt) (Br : Nat) (qr : Option Addr) (cr : Nat) : Prop where
  net : NetAt w base B q n c last L
  rises : Rises last L
  ref : RefAt w base Br qr n cr last L
  dis : ∀ x ∈ Br :: blk qr, x ∉ netD B q L
  n4 : n ≤ 4096
/-- the blocks of both -/
def paD (B : Nat) (q : Option Addr) (L : List Lt) (Br : Nat) (qr : Option Addr) : List Nat := netD B q L ++ (Br :: blk qr)
def PlayEnd (w0 : World) (base B : Nat) (q : Option Addr) (last : Nat) (L : List Lt) (Br : Nat) (qr : Option Addr) (w' : World) : Prop :=
  ∃ q' n' c' last' L' qr' cr', PA w' base B q' n' c' last' L' Br qr' cr' ∧ last' ≤ last + 1 ∧ (∀ x ∈ paD B q' L' Br qr', x ∈ paD B q L Br qr ∨ w0.heap.size ≤ x) ∧ Only (paD B q L Br qr) w0 w'
section
variable {w w' w1 w2 : World} {base B Br n c last cr n' c' last' cr' : Nat} {q qr q' qr' : Option Addr} {L L' : List Lt}
theorem PA.only {S : List Nat} (h : PA w base B q n c last L Br qr cr) (ho : Only S w w') (hS : ∀ x ∈ S, x ∉ paD B q L Br qr) : PA w' base B q n c last L Br qr cr :=
  ⟨h.net.only ho (fun x hx hm => hS x hx (List.mem_append_left _ hm)), h.rises, h.ref.only ho (fun x hx hm => hS x hx (List.mem_append_right _ hm)), h.dis, h.n4⟩
theorem PA.only0 (h : PA w base B q n c last L Br qr cr) (ho : Only [] w w') : PA w' base B q n c last L Br qr cr := h.only ho (by simp)
theorem PA.lt (h : PA w base B q n c last L Br qr cr) : ∀ x ∈ paD B q L Br qr, base ≤ x ∧ x < w.heap.size := fun x hx => by
  rcases List.mem_append.1 hx with hx | hx
  · exact h.net.lt x hx
  · exact h.ref.lt x hx
theorem netD_head {x : Nat} (hx : x ∈ B :: blk q) : x ∈ netD B q L := by
  rcases List.mem_cons.1 hx with e | e
  · simp [netD, e]
  · simp [netD, e]
theorem netD_sub {M : List Lt} (hs : M.Sublist L) {x : Nat} (hx : x ∈ netD B q M) : x ∈ netD B q L := by
  unfold netD at hx ⊢
  rcases List.mem_cons.1 hx with e | hx
  · simp [e]
  · rcases List.mem_append.1 hx with hx | hx
    · simp [hx]
    · exact List.mem_cons_of_mem _ (List.mem_append_right _ ((bbs_sub hs).subset hx))
theorem netD_put {o : Lt} {k : Nat} (hbb : ∀ x ∈ o.bb, k ≤ x) (hq : ∀ x ∈ blk q', x ∈ blk q ∨ k ≤ x) : ∀ x ∈ netD B q' (L ++ [o]), x ∈ netD B q L ∨ k ≤ x := fun x hx => by
  unfold netD at hx ⊢
  rcases List.mem_cons.1 hx with e | hx
  · simp [e]
  · rcases List.mem_append.1 hx with hx | hx
    · rcases hq x hx with h | h
      · simp [h]
      · exact .inr h
    · rw [bbs_append] at hx
      rcases List.mem_append.1 hx with hx | hx
      · simp [hx]
      · exact .inr (hbb x (by simpa [bbs] using hx))
/-- the document's net behind a step of the net -/
theorem PA.ref1 (h : PA w base B q n c last L Br qr cr) (o1 : Only (netD B q L) w w1) : RefAt w1 base Br qr n cr last L :=
  h.ref.only o1 (fun x hx hm => h.dis x hm hx)
/-- the net behind a step of the document's -/
theorem PA.net1 (h : PA w base B q n c last L Br qr cr) (o1 : Only (Br :: blk qr) w w1) : NetAt w1 base B q n c last L :=
  h.net.only o1 (fun x hx hm => h.dis x hx hm)
/-- first the net, then the document's -/
theorem PA.step (h : PA w base B q n c last L Br qr cr) (hn : NetAt w1 base B q' n' c' last' L') (hr : Rises last' L') (hq : ∀ x ∈ netD B q' L', x ∈ netD B q L ∨ w.heap.size ≤ x) (o1 : Only (netD B q L) w w1)
    (hrf : RefAt w2 base Br qr' n' cr' last' L') (hqr : ∀ x ∈ blk qr', x ∈ blk qr ∨ w1.heap.size ≤ x) (o2 : Only (Br :: blk qr) w1 w2) (n4 : n' ≤ 4096) (hl : last' ≤ last + 1) :
    PA w2 base B q' n' c' last' L' Br qr' cr' ∧ (∀ x ∈ paD B q' L' Br qr', x ∈ paD B q L Br qr ∨ w.heap.size ≤ x) ∧ Only (paD B q L Br qr) w w2 := by
  have hs := o1.size
  have hd : ∀ x ∈ Br :: blk qr, x ∉ netD B q' L' := fun x hx hm => by
    rcases hq x hm with h1 | h1
    · exact h.dis x hx h1
    · have := (h.ref.lt x hx).2
      omega
  refine ⟨⟨hn.only o2 hd, hr, hrf, ?_, n4⟩, ?_, (o1.mono (fun x hx => List.mem_append_left _ hx)).trans (o2.mono (fun x hx => List.mem_append_right _ hx)) (fun i hi _ => hi)⟩
  · intro x hx
    rcases List.mem_cons.1 hx with rfl | hx
    · exact hd x (by simp)
    · rcases hqr x hx with h1 | h1
      · exact hd x (List.mem_cons_of_mem _ h1)
      · intro hm
        have := (hn.lt x hm).2
        omega
  · intro x hx
    rcases List.mem_append.1 hx with hx | hx
    · exact (hq x hx).imp (fun h1 => List.mem_append_left _ h1) id
    · rcases List.mem_cons.1 hx with rfl | hx
      · exact .inl (List.mem_append_right _ (by simp))
      · rcases hqr x hx with h1 | h1
        · exact .inl (List.mem_append_right _ (List.mem_cons_of_mem _ h1))
        · exact .inr (by omega)
/-- first the document's, then the net -/
theorem PA.step2 (h : PA w base B q n c last L Br qr cr) (hrf : RefAt w1 base Br qr' n' cr' last' L') (hqr : ∀ x ∈ blk qr', x ∈ blk qr ∨ w.heap.size ≤ x) (o1 : Only (Br :: blk qr) w w1)
    (hn : NetAt w2 base B q' n' c' last' L') (hr : Rises last' L') (hq : ∀ x ∈ netD B q' L', x ∈ netD B q L) (o2 : Only (netD B q L) w1 w2) (n4 : n' ≤ 4096) :
    PA w2 base B q' n' c' last' L' Br qr' cr' ∧ (∀ x ∈ paD B q' L' Br qr', x ∈ paD B q L Br qr ∨ w.heap.size ≤ x) ∧ Only (paD B q L Br qr) w w2 := by
  have hd : ∀ x ∈ Br :: blk qr', x ∉ netD B q L := fun x hx => by
    rcases List.mem_cons.1 hx with rfl | hx
    · exact h.dis x (by simp)
    · rcases hqr x hx with h1 | h1
      · exact h.dis x (List.mem_cons_of_mem _ h1)
      · intro hm
        have := (h.net.lt x hm).2
        omega
  refine ⟨⟨hn, hr, hrf.only o2 (fun x hx hm => hd x hm hx), fun x hx hm => hd x hx (hq x hm), n4⟩, ?_, (o1.mono (fun x hx => List.mem_append_right _ hx)).trans (o2.mono (fun x hx => List.mem_append_left _ hx)) (fun i hi _ => hi)⟩
  intro x hx
  rcases List.mem_append.1 hx with hx | hx
  · exact .inl (List.mem_append_left _ (hq x hx))
  · rcases List.mem_cons.1 hx with rfl | hx
    · exact .inl (List.mem_append_right _ (by simp))
    · rcases hqr x hx with h1 | h1
      · exact .inl (List.mem_append_right _ (List.mem_cons_of_mem _ h1))
      · exact .inr h1
theorem PlayEnd.same {w0 : World} {S : List Nat} (h : PA w0 base B q n c last L Br qr cr) (ho : Only S w0 w') (hS : ∀ x ∈ S, w0.heap.size ≤ x) : PlayEnd w0 base B q last L Br qr w' :=
  ⟨q, n, c, last, L, qr, cr, h.only0 (ho.drop hS), Nat.le_succ _, fun x hx => .inl hx, (ho.drop hS).mono (by simp)⟩
/-- a step from w1 on, and a last turn of other blocks -/
theorem PlayEnd.of {w0 : World} {S : List Nat} (h0 : Only [] w0 w) (hp : PA w2 base B q' n' c' last' L' Br qr' cr') (hl : last' ≤ last + 1) (hg : ∀ x ∈ paD B q' L' Br qr', x ∈ paD B q L Br qr ∨ w.heap.size ≤ x) (hO : Only (paD B q L Br qr) w w2) (o3 : Only S w2 w') (hS : ∀ x ∈ S, x ∉ paD B q' L' Br qr') (hS2 : ∀ x ∈ S, x ∈ paD B q L Br qr ∨ w0.heap.size ≤ x) : PlayEnd w0 base B q last L Br qr w' := by
  have hs := h0.size
  refine ⟨q', n', c', last', L', qr', cr', hp.only o3 hS, hl, fun x hx => (hg x hx).imp id (fun h => by omega), ?_⟩
  have h1 : Only (paD B q L Br qr) w0 w2 := (h0.mono (by simp)).trans hO (fun i hi _ => hi)
  refine h1.trans o3 (fun i hi hl => ?_)
  rcases hS2 i hi with h2 | h2
  · exact h2
  · omega
end
end Go.Proofs.YtlgcclhepegggaaDoor
