/- Regions that draw their order, with one call that turns a known block. Over any program. -/
import Derived.Test.YtfoplbolbjcggaaDoorRegion3
import Derived.Test.YtfoplbolbjcggaaDoorFresh
set_option linter.unusedVariables false
set_option maxRecDepth 100000
namespace Go.Proofs.YtfoplbolbjcggaaDoor
open Go.RowKit

/-- only D has turned, and what Z tells stays -/
def Rz (D : List Nat) (Z : World → Prop) : World → World → Prop := fun a b => Only D a b ∧ (Z a → Z b)
theorem Rz.refl (D : List Nat) (Z : World → Prop) (w : World) : Rz D Z w w := ⟨Only.refl _ _, id⟩
theorem Rz.trans {D : List Nat} {Z : World → Prop} (a b c : World) (h : Rz D Z a b) (k : Rz D Z b c) : Rz D Z a c := ⟨h.1.trans k.1 (fun i hi _ => hi), fun z => k.2 (h.2 z)⟩
/-- two values in a tuple -/
def Tup2 (A E : Value → World → Prop) : Value → World → Prop := fun v w => ∃ x y, v = .tuple #[x, y] ∧ A x w ∧ E y w
theorem Tup2.stable {R : World → World → Prop} {A E : Value → World → Prop} (hA : Stable R A) (hE : Stable R E) : Stable R (Tup2 A E) :=
  fun v w w' ⟨x, y, h, h1, h2⟩ hR => ⟨x, y, h, hA _ _ _ h1 hR, hE _ _ _ h2 hR⟩
def AndZ (E : Value → Prop) (Z : World → Prop) : Value → World → Prop := fun v w => E v ∧ Z w
theorem AndZ.stable (D : List Nat) (E : Value → Prop) (Z : World → Prop) : Stable (Rz D Z) (AndZ E Z) := fun v w w' ⟨h1, h2⟩ hR => ⟨h1, hR.2 h2⟩
/-- bytes of our own -/
def OwnB (e : TypeId) (bs : List UInt8) (base : Nat) : Value → World → Prop := fun v w => ∃ q n k, v = .slice q n k ∧ bs.length = n ∧ Own w base e (.slice q n k) (u8s bs)
theorem OwnB.stable {D : List Nat} {Z : World → Prop} (e : TypeId) (bs : List UInt8) (base : Nat) (hD : ∀ x ∈ D, x < base) : Stable (Rz D Z) (OwnB e bs base) := fun v w w' ⟨q, n, k, h1, h2, h3⟩ hR =>
  ⟨q, n, k, h1, h2, h3.only hR.1 (fun x hx hm => by have := (h3.lt x hx).1; have := hD x hm; omega)⟩
end Go.Proofs.YtfoplbolbjcggaaDoor
