/- frame.Put refusing; the walk of bollardlaw06.alive. -/
import Derived.Test.YtfoplbolbjcggaaDoorPutW
import Derived.Test.YtfoplbolbjcggaaDoorErrNumW
set_option linter.unusedVariables false
set_option maxRecDepth 100000
namespace Go.Proofs.YtfoplbolbjcggaaDoor
open Go.RowKit Go.Shelf

set_option maxHeartbeats 4000000 in
theorem put_number (s : Stp) (hs : ¬ stOk s) (p : Option Addr) (n c : Nat) (w0 : World) (aN : Addr) (hE : ErrAt w0 1 aN) :
    Calls Tryd.prog 30 #[stV s, .slice p n c] w0 fun e w' => e = .returned (.tuple #[.slice none 0 0, ev aN]) ∧ Only [] w0 w' := by
  obtain ⟨w1, hw1⟩ : ∃ w1, w1 = w0.alloc (.cells #[.int .i64 s.node, .int .i64 s.boot, .int .i64 s.seq, .int .i64 s.shard, .int .i64 s.size] 67) := ⟨_, rfl⟩
  have o1 : Only [] w0 w1 := by rw [hw1]; exact Only.alloc _ _
  have r1 : Row w1 w0.heap.size 67 [.int .i64 s.node, .int .i64 s.boot, .int .i64 s.seq, .int .i64 s.shard, .int .i64 s.size] := by rw [hw1]; exact Row.newOf _ _ _ _ rfl
  have hif : Calls Tryd.prog 55 #[stV s] w1 fun e w' => e = .returned (.bool false) ∧ Only [] w1 w' := (inForm_any s w1).mono (fun e w' h => ⟨by rw [h.1, decide_eq_false hs], h.2⟩)
  have c0 := r1.cell (i := 0) rfl
  have c1 := r1.cell (i := 1) rfl
  have c2 := r1.cell (i := 2) rfl
  have c3 := r1.cell (i := 3) rfl
  have c4 := r1.cell (i := 4) rfl
  have HE := Lib.hid hE
  have HO1 := Lib.hid o1
  have Hw1 := Lib.hid hw1
  rw [hw1] at c0 c1 c2 c3 c4
  unfold stV at hif ⊢
  clear hE o1 r1 hw1 hs
  refine calls_of_marks Tryd.func30 rfl ?_
  simp only [Tryd.ntmps30, List.size_toArray, List.length_cons, List.length_nil, Nat.reduceAdd, Nat.reduceSub, Array.replicate_succ, Array.replicate_zero, List.push_toArray, List.append_toArray, List.nil_append, List.cons_append]
  go_wp2_with fail
  rw [← Hw1.out]
  refine hif.mono ?_
  clear hif c0 c1 c2 c3 c4
  rintro e w2 ⟨rfl, o2⟩
  have hc := ((HE.out.only0 HO1.out).only0 o2).cell
  have HO2 := Lib.hid (HO1.out.trans0 o2)
  clear o2 Hw1
  go_wp2_with fail
  go_quiet (fail)
  go_wp2_with fail
  refine mret0 (results_tmp2 rfl _ _ _) ?_
  exact ⟨rfl, HO2.out.trans0 (Only.drewN _ _)⟩
set_option maxHeartbeats 4000000 in
theorem put_large (s : Stp) (hs : stOk s) (p : Option Addr) (n c : Nat) (hn : 1024 < n) (w0 : World) (aL : Addr) (hE : ErrAt w0 2 aL) :
    Calls Tryd.prog 30 #[stV s, .slice p n c] w0 fun e w' => e = .returned (.tuple #[.slice none 0 0, ev aL]) ∧ Only [] w0 w' := by
  obtain ⟨w1, hw1⟩ : ∃ w1, w1 = w0.alloc (.cells #[.int .i64 s.node, .int .i64 s.boot, .int .i64 s.seq, .int .i64 s.shard, .int .i64 s.size] 67) := ⟨_, rfl⟩
  have o1 : Only [] w0 w1 := by rw [hw1]; exact Only.alloc _ _
  have r1 : Row w1 w0.heap.size 67 [.int .i64 s.node, .int .i64 s.boot, .int .i64 s.seq, .int .i64 s.shard, .int .i64 s.size] := by rw [hw1]; exact Row.newOf _ _ _ _ rfl
  have hif : Calls Tryd.prog 55 #[stV s] w1 fun e w' => e = .returned (.bool true) ∧ Only [] w1 w' := (inForm_any s w1).mono (fun e w' h => ⟨by rw [h.1, decide_eq_true hs], h.2⟩)
  have c0 := r1.cell (i := 0) rfl
  have c1 := r1.cell (i := 1) rfl
  have c2 := r1.cell (i := 2) rfl
  have c3 := r1.cell (i := 3) rfl
  have c4 := r1.cell (i := 4) rfl
  have HE := Lib.hid hE
  have HO1 := Lib.hid o1
  have Hw1 := Lib.hid hw1
  have hni : (1024 : Int) < (n : Int) := by omega
  rw [hw1] at c0 c1 c2 c3 c4
  unfold stV at hif ⊢
  clear hE o1 r1 hw1 hs
  refine calls_of_marks Tryd.func30 rfl ?_
  simp only [Tryd.ntmps30, List.size_toArray, List.length_cons, List.length_nil, Nat.reduceAdd, Nat.reduceSub, Array.replicate_succ, Array.replicate_zero, List.push_toArray, List.append_toArray, List.nil_append, List.cons_append]
  go_wp2_with fail
  rw [← Hw1.out]
  refine hif.mono ?_
  clear hif c0 c1 c2 c3 c4
  rintro e w2 ⟨rfl, o2⟩
  have hc := ((HE.out.only0 HO1.out).only0 o2).cell
  have HO2 := Lib.hid (HO1.out.trans0 o2)
  clear o2 Hw1
  go_wp2_with fail
  go_quiet (fail)
  go_wp2_with fail
  refine mret0 (results_tmp2 rfl _ _ _) ?_
  exact ⟨rfl, HO2.out.trans0 (Only.drewN _ _)⟩
theorem frame_ex : ∃ S, S.length = 11 ∧ frameB ⟨1, 2, 3, 0, 4⟩ [97, 98] = 11 :: S ++ (97 :: 98 :: shaB [97, 98]) := by
  refine ⟨sealB [1, 1, 2, 3, 0, 4, 2], by rw [sealB_length]; rfl, ?_⟩
  have h1 : headB ⟨1, 2, 3, 0, 4⟩ 2 = [1, 1, 2, 3, 0, 4, 2] := by
    unfold headB headNs
    simp [nb_lo]
  have h2 : blks [97, 98] = [(0, [97, 98])] := by rfl
  have h3 : bodyB [97, 98] = 97 :: 98 :: shaB [97, 98] := by
    unfold bodyB
    rw [h2]
    simp [body1]
  have h4 : topB ⟨1, 2, 3, 0, 4⟩ 2 = 11 :: sealB [1, 1, 2, 3, 0, 4, 2] := by
    unfold topB
    rw [h1, nb_lo (by decide)]
    rfl
  unfold frameB
  rw [h3]
  show topB ⟨1, 2, 3, 0, 4⟩ 2 ++ _ = _
  rw [h4]
set_option maxHeartbeats 4000000 in
theorem alive06_any (w0 : World) : Calls Tryd.prog 15 #[] w0 fun e w' => e = .returned (.bool true) ∧ Only [] w0 w' := by
  have hcc := Go.Lib.run_convert_bytes_const (P := Tryd.prog) w0 22 5 #[.int .u8 97, .int .u8 98] 2 2 Tryd.underlying22 Tryd.underlying5
  obtain ⟨w1, hw1⟩ : ∃ w1, w1 = w0.alloc (.cells #[.int .u8 97, .int .u8 98] 5 (2, 3)) := ⟨_, rfl⟩
  have o1 : Only [] w0 w1 := by rw [hw1]; exact Only.alloc _ _
  have rn : Rd w1 (some ⟨w0.heap.size, 0, none⟩) (u8s [97, 98]) := by rw [hw1]; exact Rd.newMark w0 5 (u8s [97, 98]) (2, 3)
  have hput := put_ok ⟨1, 2, 3, 0, 4⟩ ⟨by decide, by decide, by decide, by decide, by decide, by decide, by decide, by decide, by decide, by decide⟩ (some ⟨w0.heap.size, 0, none⟩) [97, 98] 2 2 w1 rfl (by omega) (by simp) rn
  obtain ⟨S, hS, hfr⟩ := frame_ex
  have hl : (frameB ⟨1, 2, 3, 0, 4⟩ [97, 98]).length = 46 := by rw [hfr]; simp [hS, shaB_len]
  rw [hl] at hput
  have g0 : (frameB ⟨1, 2, 3, 0, 4⟩ [97, 98])[0]? = some 11 := by rw [hfr]; rfl
  have g12 : (frameB ⟨1, 2, 3, 0, 4⟩ [97, 98])[12]? = some 97 := by
    rw [hfr, List.getElem?_append_right (by simp [hS]), List.length_cons, hS]; rfl
  generalize frameB ⟨1, 2, 3, 0, 4⟩ [97, 98] = FB at hput g0 g12
  have HO1 := Lib.hid o1
  have Hw1 := Lib.hid hw1
  have G0 := Lib.hid g0
  have G12 := Lib.hid g12
  unfold stV at hput
  dsimp only at hput
  clear o1 rn hw1 hfr hl g0 g12
  go_enter Tryd.func15, Tryd.ntmps15
  go_wp2_with fail
  rw [← Hw1.out]
  refine hput.mono ?_
  clear hput hcc
  rintro e w2 ⟨q, m, k, rfl, rfl, own2, o2⟩
  obtain ⟨g, rfl, -, -⟩ := own2.at (by omega)
  have hc0 := own2.cellAt (i := 0) (v := .int .u8 11) (by unfold u8s; rw [List.getElem?_map, G0.out]; rfl)
  have hc12 := own2.cellAt (i := 12) (v := .int .u8 97) (by unfold u8s; rw [List.getElem?_map, G12.out]; rfl)
  have HO2 := Lib.hid (HO1.out.trans0 o2)
  clear o2 own2
  go_wp2_with fail
  go_ret
  exact ⟨rfl, HO2.out⟩
end Go.Proofs.YtfoplbolbjcggaaDoor
