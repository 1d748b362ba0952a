/- Contracts of Scale and AddScaled at lengths and answers that are named. -/
import Derived.Test.YtlgcclhepegggaaDoorGfRest
import Derived.Test.YtlgcclhepegggaaDoorRegion
set_option linter.unusedVariables false
namespace Go.Proofs.YtlgcclhepegggaaDoor
open Go.RowKit

/-- a slice of bytes at the head of a block of its own, its whole block -/
def IsNew (zs : List UInt8) (L : Nat) : Value → World → Prop := fun v w => zs.length = L ∧ ∃ g, v = .slice (some ⟨g, 0, none⟩) L L ∧ Row w g 5 (u8s zs)
theorem IsNew.stable (zs : List UInt8) (L : Nat) : Stable (Only []) (IsNew zs L) := fun _ _ _ ⟨hl, g, e, r⟩ ho => ⟨hl, g, e, r.only0 ho⟩
theorem IsNew.rd {zs : List UInt8} {L : Nat} {v : Value} {w : World} (h : IsNew zs L v w) : ∃ p, v = .slice p L L ∧ Rd w p (u8s zs) ∧ zs.length = L ∧ (p = none → L = 0 ∧ L = 0) := by
  obtain ⟨hl, g, rfl, r⟩ := h
  exact ⟨_, rfl, r.rd0, hl, by simp⟩

theorem newBytes_at {xs zs : List UInt8} {L : Nat} {w : World} (hz : xs = zs) (hL : zs.length = L) {e : Ending} {w' : World} (h : NewBytes xs w e w') : ∃ v, e = .returned v ∧ IsNew zs L v w' ∧ Only [] w w' := by
  subst hz hL
  obtain ⟨g, rfl, _, r, o⟩ := h
  exact ⟨_, rfl, ⟨rfl, g, rfl, r⟩, o⟩
theorem scale_at {q : Option Addr} {x : UInt8} {ys zs : List UInt8} {m L : Nat} {d : Nat} {w : World} (hm : ys.length = m) (bm : m ≤ 140737488351232)
    (hy : Rd w q (u8s ys)) (hz : eachS (fun a b => gadd a (gmul x b)) [] ys = zs) (hL : zs.length = L) :
    Calls Tryd.prog 76 #[.int .u8 (x.toNat : Int), .slice q m d] w fun e w' => ∃ v, e = .returned v ∧ IsNew zs L v w' ∧ Only [] w w' := by
  subst hm
  exact (scale_any x q ys d w bm hy).mono fun _ _ h => newBytes_at hz hL h
theorem addScaled_at {p q : Option Addr} {x : UInt8} {xs ys zs : List UInt8} {n m L : Nat} {c d : Nat} {w : World} (hn : xs.length = n) (hm : ys.length = m) (bn : n ≤ 140737488351232) (bm : m ≤ 140737488351232)
    (hx : Rd w p (u8s xs)) (hy : Rd w q (u8s ys)) (hz : eachS (fun a b => gadd a (gmul x b)) xs ys = zs) (hL : zs.length = L) :
    Calls Tryd.prog 63 #[.slice p n c, .int .u8 (x.toNat : Int), .slice q m d] w fun e w' => ∃ v, e = .returned v ∧ IsNew zs L v w' ∧ Only [] w w' := by
  subst hn hm
  exact (addScaled_any x p q xs ys c d w bn bm hx hy).mono fun _ _ h => newBytes_at hz hL h
end Go.Proofs.YtlgcclhepegggaaDoor
