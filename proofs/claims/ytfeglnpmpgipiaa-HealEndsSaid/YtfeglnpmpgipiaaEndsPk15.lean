/- EndsPk, part 15: HexMath, HexIdx. -/
import Derived.Test.YtfeglnpmpgipiaaEndsPk03
import Derived.Test.YtfeglnpmpgipiaaEndsPk12
import Derived.Lib.Bytealg
import Derived.Test.YtfeglnpmpgipiaaProg
import Derived.Laws.RangeString
set_option linter.unusedVariables false
set_option maxRecDepth 100000
section
set_option linter.unusedVariables false
set_option maxRecDepth 100000
namespace Go.Proofs.Ytfeglnpmpgipiaa
open Go.RowKit
def hexL : List UInt8 := [48, 49, 50, 51, 52, 53, 54, 55, 56, 57, 97, 98, 99, 100, 101, 102]
def dg (n : Nat) : UInt8 := hexL.getD n 0
def hex2 (c : UInt8) : List UInt8 := [dg (c.toNat / 16), dg (c.toNat % 16)]
def hexB (xs : List UInt8) : List UInt8 := xs.flatMap hex2
theorem hexB_app (xs ys : List UInt8) : hexB (xs ++ ys) = hexB xs ++ hexB ys := List.flatMap_append
theorem hexB_one (x : UInt8) : hexB [x] = hex2 x := by simp [hexB]
theorem hexB_len : ∀ xs : List UInt8, (hexB xs).length = 2 * xs.length
 | [] => rfl
 | x :: xs => by
  have := hexB_len xs; have e : hexB (x :: xs) = hex2 x ++ hexB xs := rfl; rw [e, List.length_append, this]; simp [hex2]; omega
end Go.Proofs.Ytfeglnpmpgipiaa
end
section
set_option linter.unusedVariables false
set_option maxRecDepth 100000
namespace Go.Proofs.Ytfeglnpmpgipiaa
open Go.RowKit
theorem run_hex_index (w : World) (n : Nat) (h : n < 16) (k : IntKind) : (Instr.index 9 (.string ⟨#[48, 49, 50, 51, 52, 53, 54, 55, 56, 57, 97, 98, 99, 100, 101, 102]⟩) (.int k (n : Int))).run Try.prog w = .ok (.int .u8 ((dg n).toNat : Int)) w := by
 rw [run_index_string _ _ _ _ _ Try.underlying9]; rw [dif_pos ⟨by omega, by show (n : Int) < 16; omega⟩]; have : ∀ m (hm : m < 16), ((⟨#[48, 49, 50, 51, 52, 53, 54, 55, 56, 57, 97, 98, 99, 100, 101, 102]⟩ : ByteArray)[m]'hm) = dg m := (by decide +kernel); have e := this n h; simp only [Int.toNat_natCast]; rw [e]
theorem rg_index {P : Program} {o : Oper} {a : Act} {K : Act → World → Prop} {w : World} {x y : Operand} {ty : TypeId} {xv yv v : Value} (ho : o.op = .index ty x y) (hx : a.eval x = xv) (hy : a.eval y = yv)
  (hr : (Instr.index ty xv yv).run P w = .ok v w) (h : K (a.put o.dst v) w) : o.wp P a w K (fun _ _ _ => False) := by
 unfold Oper.wp execOp; simp only [ho, hx, hy, hr, Sem.run_bind, Sem.run_pure, Result.andThen_ok]; exact h
end Go.Proofs.Ytfeglnpmpgipiaa
end
