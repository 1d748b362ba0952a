/- The walks of sha.start and sha.constants. -/
import Derived.Test.YtfoplbolbjcggaaDoorShaSchedW
set_option linter.unusedVariables false
set_option maxRecDepth 100000
namespace Go.Proofs.YtfoplbolbjcggaaDoor
open Go.RowKit

theorem wpl_build {P : Program} {ops : Array Oper} {rest : List Oper} {o : Oper} {a : Act} {Q : Exit → Act → World → Prop} {w : World} {t : TypeId} {parts : Array (Nat × Operand)} {cells : Array Value} (hg : o.guard = none) (ho : o.op = .build t parts)
    (hb : P.built t (parts.map fun (i, x) => (i, a.eval x)).toList = some cells) (h : wpList P ops Q rest (a.put o.dst (.agg cells)) w) : wpList P ops Q (o :: rest) a w :=
  wpList_plain hg fun K hK => by
    refine wp_build t parts ho (by rw [hb]; rfl) ?_
    rw [hb]
    exact hK _ _ h
set_option maxRecDepth 100000 in
theorem start_any (ww : World) : Calls Tryd.prog 114 #[] ww fun e w' => e = .returned (.agg (u32s st0.l).toArray) ∧ Only [] ww w' := by
  have hsz : (Tryd.prog.info? 197).map (·.size) = some (u32s st0.l).length := by kernel_rfl
  have hrow := Row.new ww 197 (List.replicate 8 (.int .u32 0))
  have hst := hrow.storeAt (P := Tryd.prog) hsz rfl (fun u hu => u32s_one hu)
  have hrow2 := hrow.setRow (u32s st0.l)
  have hos : Only [ww.heap.size] (ww.alloc (.cells (List.replicate 8 (Value.int .u32 0)).toArray 197)) _ := Only.setRow _ ww.heap.size (u32s st0.l).toArray
  have Hst := Lib.hid hst
  have Hrow2 := Lib.hid hrow2
  have Hos := Lib.hid hos
  clear hst hrow hrow2 hos
  go_enter Tryd.func114, Tryd.ntmps114
  go_wp2_with (first | ((with_reducible show wpList _ _ _ _ _ _); refine wpl_build (t := 197) (cells := (u32s st0.l).toArray) rfl rfl (by kernel_rfl) ?_) | ((with_reducible show wpList _ _ _ _ _ _); refine wpl_store (ty := 197) (x := .tmp 0) (y := .tmp 1) rfl rfl rfl rfl Hst.out ?_))
  refine bodyPost_ret (results_cell_row (p := 0) rfl _ _ ww.heap.size 197 (u32s st0.l).toArray (0, 0) _ (by rfl) Hrow2.out Tryd.underlying197 rfl (by simpa using hsz)) (by rfl) ?_
  exact ⟨rfl, (Only.alloc ww _).transN Hos.out (by simp)⟩
set_option maxRecDepth 100000 in
theorem consts_any (ww : World) : Calls Tryd.prog 136 #[] ww fun e w' => e = .returned (.agg (u32s shaK).toArray) ∧ Only [] ww w' := by
  have hsz : (Tryd.prog.info? 227).map (·.size) = some (u32s shaK).length := by kernel_rfl
  have hrow := Row.new ww 227 (List.replicate 64 (.int .u32 0))
  have hst := hrow.storeAt (P := Tryd.prog) hsz rfl (fun u hu => u32s_one hu)
  have hrow2 := hrow.setRow (u32s shaK)
  have hos : Only [ww.heap.size] (ww.alloc (.cells (List.replicate 64 (Value.int .u32 0)).toArray 227)) _ := Only.setRow _ ww.heap.size (u32s shaK).toArray
  have Hst := Lib.hid hst
  have Hrow2 := Lib.hid hrow2
  have Hos := Lib.hid hos
  clear hst hrow hrow2 hos
  go_enter Tryd.func136, Tryd.ntmps136
  go_wp2_with (first | ((with_reducible show wpList _ _ _ _ _ _); refine wpl_build (t := 227) (cells := (u32s shaK).toArray) rfl rfl (by kernel_rfl) ?_) | ((with_reducible show wpList _ _ _ _ _ _); refine wpl_store (ty := 227) (x := .tmp 0) (y := .tmp 1) rfl rfl rfl rfl Hst.out ?_))
  refine bodyPost_ret (results_cell_row (p := 0) rfl _ _ ww.heap.size 227 (u32s shaK).toArray (0, 0) _ (by rfl) Hrow2.out Tryd.underlying227 rfl (by simpa using hsz)) (by rfl) ?_
  exact ⟨rfl, (Only.alloc ww _).transN Hos.out (by simp)⟩
end Go.Proofs.YtfoplbolbjcggaaDoor
