/- WireReads, its two lists apart. -/
import Derived.Test.YtkhccchjflmcmaaDoorWireReadsW
set_option linter.unusedVariables false
namespace Go.Proofs.YtkhccchjflmcmaaDoor
open Go.RowKit

theorem wireReads_two (p0 p1 : Option Addr) (n0 n1 c0 c1 : Nat) (xs0 xs1 : List UInt8) (p : Option Addr) (os : List Op5) (n cp : Nat) (az : List Addr) (w : World) (l0 : xs0.length = n0) (l1 : xs1.length = n1) (b0 : n0 ≤ c0) (b1 : n1 ≤ c1) (g0 : c0 ≤ 140737488351232) (g1 : c1 ≤ 140737488351232) (z0 : p0 = none → c0 = 0) (z1 : p1 = none → c1 = 0) (r0 : Rd w p0 (u8s xs0)) (r1 : Rd w p1 (u8s xs1))
    (hn : os.length = n) (hw : n * 48 ≤ 140737488351232) (hpz : p = none → n = 0 ∧ cp = 0) (hacts : Acts w p os) (hE : ErrAll w az) :
    Calls Tryd.prog 6 #[.agg #[.slice p0 n0 c0, .slice p1 n1 c1], .slice p n cp] w fun e w' => e = .returned (.bool true) ∧ Only [] w w' := by
  refine wireReads_any (fun | 0 => p0 | _ => p1) (fun | 0 => n0 | _ => n1) (fun | 0 => c0 | _ => c1) (fun | 0 => xs0 | _ => xs1) p os n cp az w ?_ hn hw hpz hacts hE
  intro k hk
  match k, hk with
  | 0, _ => exact ⟨l0, b0, g0, fun h => ⟨by have := z0 h; show n0 = 0; omega, z0 h⟩, r0⟩
  | 1, _ => exact ⟨l1, b1, g1, fun h => ⟨by have := z1 h; show n1 = 0; omega, z1 h⟩, r1⟩
end Go.Proofs.YtkhccchjflmcmaaDoor
