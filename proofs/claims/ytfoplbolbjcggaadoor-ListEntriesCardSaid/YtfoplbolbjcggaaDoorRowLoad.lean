/- Whole arrays loaded and stored. Over any program. -/
import Derived.Test.YtfoplbolbjcggaaDoorMem
import Derived.Laws.Rows
import Derived.Laws.Tables
set_option linter.unusedVariables false
set_option maxRecDepth 100000
namespace Go.Proofs.YtfoplbolbjcggaaDoor
open Go.RowKit

theorem Row.loadAt {P : Program} {w : World} {g : Nat} {t ty e : TypeId} {n : Nat} {vs : List Value} (r : Row w g t vs) (hu : P.underlying ty = some (.array n e)) (hi : (P.info? ty).map (·.size) = some vs.length) :
    (Instr.loadAt ty (.pointer (some ⟨g, 0, none⟩))).run P w = .ok (.agg vs.toArray) w := by
  simp only [Instr.loadAt, Instr.sureAddr, Sem.run_bind, Sem.run_pure, Result.andThen]
  exact run_loadVar_row w g t ty vs.toArray (0, 0) _ r hu rfl (by simpa using hi)
theorem Row.storeAt {P : Program} {w : World} {g : Nat} {t ty : TypeId} {vs us : List Value} (r : Row w g t vs) (hi : (P.info? ty).map (·.size) = some us.length) (hl : vs.length = us.length) (h1 : ∀ u ∈ us, u.oneCell' = true) :
    (Instr.storeAt ty (.pointer (some ⟨g, 0, none⟩)) (.agg us.toArray)).run P w = .ok () (w.setRow g us.toArray) := by
  simp only [Instr.storeAt, Instr.sureAddr, Sem.run_bind, Sem.run_pure, Result.andThen]
  exact run_storeVar_row w g t ty vs.toArray us.toArray r (by simpa using hi) (by simpa using hl) (by simpa using h1)
theorem wpl_load {P : Program} {ops : Array Oper} {rest : List Oper} {o : Oper} {a : Act} {Q : Exit → Act → World → Prop} {w : World} {x : Operand} {ty : TypeId} {pv v : Value} (hg : o.guard = none) (ho : o.op = .load ty x) (hx : a.eval x = pv)
    (hr : (Instr.loadAt ty pv).run P w = .ok v w) (h : wpList P ops Q rest (a.put o.dst v) w) : wpList P ops Q (o :: rest) a w :=
  wpList_plain hg fun K hK => by
    unfold Oper.wp execOp
    simp only [ho, hx, hr, Sem.run_bind, Sem.run_pure, Result.andThen_ok]
    exact hK _ _ h
theorem wpl_store {P : Program} {ops : Array Oper} {rest : List Oper} {o : Oper} {a : Act} {Q : Exit → Act → World → Prop} {w w' : World} {x y : Operand} {ty : TypeId} {pv v : Value} (hg : o.guard = none) (ho : o.op = .store ty x y) (hx : a.eval x = pv) (hy : a.eval y = v)
    (hr : (Instr.storeAt ty pv v).run P w = .ok () w') (h : wpList P ops Q rest (a.put o.dst undef) w') : wpList P ops Q (o :: rest) a w :=
  wpList_plain hg fun K hK => by
    unfold Oper.wp execOp
    simp only [ho, hx, hy, hr, Sem.run_bind, Sem.run_pure, Result.andThen_ok]
    exact hK _ _ h
end Go.Proofs.YtfoplbolbjcggaaDoor
