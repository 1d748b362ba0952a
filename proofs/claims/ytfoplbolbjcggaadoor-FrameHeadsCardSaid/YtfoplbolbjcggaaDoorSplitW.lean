/- The walk of frame.split of what begins as a frame does. -/
import Derived.Test.YtfoplbolbjcggaaDoorPutW
import Derived.Test.YtfoplbolbjcggaaDoorErrNumW
import Derived.Test.YtfoplbolbjcggaaDoorReaders
set_option linter.unusedVariables false
set_option maxRecDepth 100000
namespace Go.Proofs.YtfoplbolbjcggaaDoor
open Go.RowKit Go.Shelf

theorem stInfo : (Tryd.prog.info? 67).map (·.size) = some 5 := by kernel_rfl
theorem Row.loadSt {w : World} {g : Nat} {s : Stp} (r : Row w g 67 (stCells s)) : (loadVar 67 ⟨g, 0, none⟩).run Tryd.prog w = .ok (stV s) w :=
  run_loadVar_row w g 67 67 (stCells s).toArray (0, 0) _ r Tryd.underlying67 rfl stInfo
theorem Row.loadSt' {w : World} {g : Nat} {s : Stp} (r : Row w g 67 (stCells s)) : (Instr.loadAt 67 (.pointer (some ⟨g, 0, none⟩))).run Tryd.prog w = .ok (stV s) w := by
  simp only [Instr.loadAt, Instr.sureAddr, Sem.run_bind, Sem.run_pure, Result.andThen]
  exact r.loadSt
theorem Row.storeSt {w : World} {g : Nat} {s s' : Stp} (r : Row w g 67 (stCells s)) : (Instr.storeAt 67 (.pointer (some ⟨g, 0, none⟩)) (stV s')).run Tryd.prog w = .ok () (w.setRow g (stCells s').toArray) :=
  r.storeAt (us := stCells s') stInfo rfl (by simp [stCells, Value.oneCell'])
theorem results_st3 {fn : Func} {a b c d : Tmp} (h : fn.results = #[.cell a 67, .tmp b, .tmp c, .tmp d]) (tmps : Array Value) (w : World) (g : Nat) (s : Stp) (ht : tmps.getD a undef = .pointer (some ⟨g, 0, none⟩)) (r : Row w g 67 (stCells s)) :
    (results fn tmps).run Tryd.prog w = .ok (.tuple #[stV s, tmps.getD b undef, tmps.getD c undef, tmps.getD d undef]) w := by
  rw [Array.getD_eq_getD_getElem?] at ht
  have hl := r.loadSt
  simp [results, h, ht, hl, asAddr]
theorem results_st2 {fn : Func} {a b c : Tmp} (h : fn.results = #[.cell a 67, .tmp b, .tmp c]) (tmps : Array Value) (w : World) (g : Nat) (s : Stp) (ht : tmps.getD a undef = .pointer (some ⟨g, 0, none⟩)) (r : Row w g 67 (stCells s)) :
    (results fn tmps).run Tryd.prog w = .ok (.tuple #[stV s, tmps.getD b undef, tmps.getD c undef]) w := by
  rw [Array.getD_eq_getD_getElem?] at ht
  have hl := r.loadSt
  simp [results, h, ht, hl, asAddr]
def st0z : Stp := ⟨0, 0, 0, 0, 0⟩

/-- where number j of a head begins -/
def offs (ns : List Nat) (j : Nat) : Nat := ((ns.take j).flatMap nb).length
theorem says_at {ns : List Nat} {j x : Nat} (hx : ns[j]? = some x) (hl : x < 9223372036854775808) : Says ((ns.flatMap nb).drop (offs ns j)) x (nb x).length ∧ offs ns (j + 1) = offs ns j + (nb x).length ∧ offs ns j + (nb x).length ≤ (ns.flatMap nb).length := by
  have hsp : ns.flatMap nb = (ns.take j).flatMap nb ++ (nb x ++ (ns.drop (j + 1)).flatMap nb) := by
    have hj := (List.getElem?_eq_some_iff.1 hx)
    obtain ⟨hjl, hje⟩ := hj
    conv => lhs; rw [← List.take_append_drop j ns, List.drop_eq_getElem_cons hjl, hje]
    rw [List.flatMap_append, List.flatMap_cons]
  have h1 : (ns.flatMap nb).drop (offs ns j) = nb x ++ (ns.drop (j + 1)).flatMap nb := by
    rw [hsp]; exact List.drop_left' rfl
  refine ⟨⟨hl, by rw [h1, List.take_left' rfl], by rw [h1, List.length_append]; omega⟩, ?_, ?_⟩
  · unfold offs
    rw [List.take_add_one, hx, List.flatMap_append, List.length_append]
    simp
  · rw [hsp, List.length_append, List.length_append]; unfold offs; omega
end Go.Proofs.YtfoplbolbjcggaaDoor
