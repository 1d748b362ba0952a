/- The walk of bollardlaw20.alive. -/
import Derived.Test.YtfoplbolbjcggaaDoorListPageW
import Derived.Laws.StructEq
set_option linter.unusedVariables false
set_option maxRecDepth 100000
namespace Go.Proofs.YtfoplbolbjcggaaDoor
open Go.RowKit

def aliveObs : List Ob := [⟨[97, 47, 98], 0, [], 0⟩, ⟨[97, 47, 99], 0, [], 0⟩, ⟨[98], 0, [], 0⟩]
theorem alive_ents : entries [] [47] aliveObs = [⟨[97, 47], true, 0, [], 0⟩, ⟨[98], false, 0, [], 0⟩] := by decide +kernel
theorem alive_page : pageOf hexB (entries [] [47] aliveObs) none 1 = ⟨[⟨[97, 47], true, 0, [], 0⟩], [54, 49, 50, 102]⟩ := by
  rw [alive_ents]
  unfold pageOf behind
  rw [List.filter_eq_self.2 (by intro a _; rfl)]
  simp only [List.take_succ_cons, List.take_zero, List.length_cons, List.length_nil]
  exact congrArg _ (by decide +kernel)
theorem alive_sorted : SortedK aliveObs := by
  have h1 : lt [97, 47, 98] [97, 47, 99] := by decide +kernel
  have h2 : lt [97, 47, 98] [98] := by decide +kernel
  have h3 : lt [97, 47, 99] [98] := by decide +kernel
  refine List.Pairwise.cons (fun b hb => ?_) (List.Pairwise.cons (fun b hb => ?_) (List.pairwise_singleton ..))
  · rcases List.mem_cons.1 hb with rfl | hb
    · exact h1
    · rw [List.mem_singleton.1 hb]; exact h2
  · rw [List.mem_singleton.1 hb]; exact h3
set_option maxHeartbeats 8000000 in
theorem alive20_any (mx : Int) (w0 : World) (hmx : w0.cell? ⟨18, 0, none⟩ = some (.int .i64 mx)) :
    Calls Tryd.prog 21 #[] w0 fun e w' => e = .returned (.bool true) ∧ Only [] w0 w' := by
  obtain ⟨w1, hw1⟩ : ∃ w1, w1 = w0.alloc (.cells #[.string ⟨#[97, 47, 98]⟩, .int .i64 0, .string ⟨#[]⟩, .int .i64 0, .slice none 0 0, .string ⟨#[97, 47, 99]⟩, .int .i64 0, .string ⟨#[]⟩, .int .i64 0, .slice none 0 0, .string ⟨#[98]⟩, .int .i64 0, .string ⟨#[]⟩, .int .i64 0, .slice none 0 0] 59) := ⟨_, rfl⟩
  obtain ⟨w2, hw2⟩ : ∃ w2, w2 = w1.alloc (.cells #[.string ⟨#[]⟩, .int .i64 0, .int .i64 0, .slice (some ⟨w0.heap.size, 0, none⟩) 3 3, .slice none 0 0] 39) := ⟨_, rfl⟩
  have o1 : Only [] w0 w1 := by rw [hw1]; exact Only.alloc _ _
  have o2 : Only [] w1 w2 := by rw [hw2]; exact Only.alloc _ _
  have r1 : Row w1 w0.heap.size 59 (aliveObs.flatMap obCells) := by rw [hw1]; exact Row.newOf _ _ _ _ rfl
  have s1 : w1.heap.size = w0.heap.size + 1 := by rw [hw1]; simp
  have r2 : Row w2 (w0.heap.size + 1) 39 [.string ⟨#[]⟩, .int .i64 0, .int .i64 0, .slice (some ⟨w0.heap.size, 0, none⟩) 3 3, .slice none 0 0] := by rw [← s1, hw2]; exact Row.newOf _ _ _ _ rfl
  have hpg := page_ok ⟨#[]⟩ 0 0 (.slice none 0 0) rfl (some ⟨w0.heap.size, 0, none⟩) aliveObs 3 3 1 [] [47] [] [] mx w2 rfl (by omega) (fun h => by cases h) (r1.only0 o2).rd0 alive_sorted (by decide) (by decide) (by decide) (by decide) (by omega) (by omega) rfl ((o1.trans0 o2).cell hmx (by simp))
  have hto : tokOf [] [] = none := rfl
  rw [hto, alive_page] at hpg
  have HO2 := Lib.hid (o1.trans0 o2)
  have Hw1 := Lib.hid hw1
  have Hw2 := Lib.hid hw2
  have b0 := r2.cell (i := 0) rfl
  have b1 := r2.cell (i := 1) rfl
  have b2 := r2.cell (i := 2) rfl
  have b3 := r2.cell (i := 3) rfl
  have b4 := r2.cell (i := 4) rfl
  unfold bkV' at hpg
  clear o1 o2 r1 s1 r2 hw1 hw2 hto hmx
  go_enter Tryd.func21, Tryd.ntmps21
  go_upto_region 2 with (fail)
  rw [← Hw1.out, ← Hw2.out]
  clear Hw1 Hw2
  go_wp2_with fail
  refine hpg.mono ?_
  clear hpg b0 b1 b2 b3 b4
  rintro e w3 ⟨q, m, k, rfl, hl, own, o3⟩
  obtain rfl : 1 = m := hl
  obtain ⟨g, rfl, -, -⟩ := own.at (by omega)
  have hrd := own.view.2.2.1
  obtain ⟨w4, hw4⟩ : ∃ w4, w4 = w3.alloc (.cells #[.slice (some ⟨g, 0, none⟩) 1 k, .string ⟨#[54, 49, 50, 102]⟩] 43) := ⟨_, rfl⟩
  have o4 : Only [] w3 w4 := by rw [hw4]; exact Only.alloc _ _
  have r4 : Row w4 w3.heap.size 43 [.slice (some ⟨g, 0, none⟩) 1 k, .string ⟨#[54, 49, 50, 102]⟩] := by rw [hw4]; exact Row.newOf _ _ _ _ rfl
  have hrd4 := hrd.only0 o4
  have HO4 := Lib.hid ((HO2.out.trans0 o3).trans0 o4)
  have p0 := r4.cell (i := 0) rfl
  have p1 := r4.cell (i := 1) rfl
  have z0 : w4.cell? ⟨g, 0, none⟩ = some (.string ⟨#[97, 47]⟩) := by have h := rd_elem enCells_len hrd4 (j := 0) (o := ⟨[97, 47], true, 0, [], 0⟩) rfl (r := 0) rfl; rwa [Addr.add_lit] at h
  have z1 : w4.cell? ⟨g, 1, none⟩ = some (.bool true) := by have h := rd_elem enCells_len hrd4 (j := 0) (o := ⟨[97, 47], true, 0, [], 0⟩) rfl (r := 1) rfl; rwa [Addr.add_lit] at h
  have z2 : w4.cell? ⟨g, 2, none⟩ = some (.int .i64 0) := by have h := rd_elem enCells_len hrd4 (j := 0) (o := ⟨[97, 47], true, 0, [], 0⟩) rfl (r := 2) rfl; rwa [Addr.add_lit] at h
  have z3 : w4.cell? ⟨g, 3, none⟩ = some (.string ⟨#[]⟩) := by have h := rd_elem enCells_len hrd4 (j := 0) (o := ⟨[97, 47], true, 0, [], 0⟩) rfl (r := 3) rfl; rwa [Addr.add_lit] at h
  have z4 : w4.cell? ⟨g, 4, none⟩ = some (.int .i64 0) := by have h := rd_elem enCells_len hrd4 (j := 0) (o := ⟨[97, 47], true, 0, [], 0⟩) rfl (r := 4) rfl; rwa [Addr.add_lit] at h
  have Hw4 := Lib.hid hw4
  unfold pgV str
  clear own o3 hrd o4 r4 hrd4 hw4
  go_upto_region 3 with (fail)
  rw [← Hw4.out]
  clear Hw4
  go_wp2_with fail
  go_ret
  exact ⟨rfl, HO4.out⟩
end Go.Proofs.YtfoplbolbjcggaaDoor
