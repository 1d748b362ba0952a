/- The walk of bollardlaw04.alive. -/
import Derived.Test.YtmddehbfimpjdaaMacSumW
set_option linter.unusedVariables false
namespace Go.Proofs.Ytmddehbfimpjdaa
open Go.RowKit

set_option maxRecDepth 100000 in
theorem alive04_any (ww : World) : Calls Try.prog 13 #[] ww fun e w' => e = .returned (.bool true) ∧ Only [] ww w' := by
  obtain ⟨wa, hwa⟩ : ∃ wa, wa = ww.alloc (.cells #[.int .u8 107, .int .u8 101, .int .u8 121] 5 (3, 4)) := ⟨_, rfl⟩
  obtain ⟨wb, hwb⟩ : ∃ wb, wb = wa.alloc (.cells #[.int .u8 84, .int .u8 104, .int .u8 101, .int .u8 32, .int .u8 113, .int .u8 117, .int .u8 105, .int .u8 99, .int .u8 107, .int .u8 32, .int .u8 98, .int .u8 114, .int .u8 111, .int .u8 119, .int .u8 110, .int .u8 32, .int .u8 102, .int .u8 111, .int .u8 120, .int .u8 32, .int .u8 106, .int .u8 117, .int .u8 109, .int .u8 112, .int .u8 115, .int .u8 32, .int .u8 111, .int .u8 118, .int .u8 101, .int .u8 114, .int .u8 32, .int .u8 116, .int .u8 104, .int .u8 101, .int .u8 32, .int .u8 108, .int .u8 97, .int .u8 122, .int .u8 121, .int .u8 32, .int .u8 100, .int .u8 111, .int .u8 103] 5 (43, 44)) := ⟨_, rfl⟩
  have hcc1 := Go.Lib.run_convert_bytes_const (P := Try.prog) ww 22 5 #[.int .u8 107, .int .u8 101, .int .u8 121] 3 3 Try.underlying22 Try.underlying5
  have hcc2 := Go.Lib.run_convert_bytes_const (P := Try.prog) wa 22 5 #[.int .u8 84, .int .u8 104, .int .u8 101, .int .u8 32, .int .u8 113, .int .u8 117, .int .u8 105, .int .u8 99, .int .u8 107, .int .u8 32, .int .u8 98, .int .u8 114, .int .u8 111, .int .u8 119, .int .u8 110, .int .u8 32, .int .u8 102, .int .u8 111, .int .u8 120, .int .u8 32, .int .u8 106, .int .u8 117, .int .u8 109, .int .u8 112, .int .u8 115, .int .u8 32, .int .u8 111, .int .u8 118, .int .u8 101, .int .u8 114, .int .u8 32, .int .u8 116, .int .u8 104, .int .u8 101, .int .u8 32, .int .u8 108, .int .u8 97, .int .u8 122, .int .u8 121, .int .u8 32, .int .u8 100, .int .u8 111, .int .u8 103] 43 43 Try.underlying22 Try.underlying5
  have hoa : Only [] ww wa := by rw [hwa]; exact Only.alloc _ _
  have hob : Only [] wa wb := by rw [hwb]; exact Only.alloc _ _
  have hsa : wa.heap.size = ww.heap.size + 1 := by rw [hwa]; simp
  have ra : Rd wa (some ⟨ww.heap.size, 0, none⟩) (u8s [107, 101, 121]) := by rw [hwa]; exact Rd.newMark ww 5 (u8s [107, 101, 121]) (3, 4)
  have rb : Rd wb (some ⟨wa.heap.size, 0, none⟩) (u8s [84, 104, 101, 32, 113, 117, 105, 99, 107, 32, 98, 114, 111, 119, 110, 32, 102, 111, 120, 32, 106, 117, 109, 112, 115, 32, 111, 118, 101, 114, 32, 116, 104, 101, 32, 108, 97, 122, 121, 32, 100, 111, 103]) := by rw [hwb]; exact Rd.newMark wa 5 (u8s [84, 104, 101, 32, 113, 117, 105, 99, 107, 32, 98, 114, 111, 119, 110, 32, 102, 111, 120, 32, 106, 117, 109, 112, 115, 32, 111, 118, 101, 114, 32, 116, 104, 101, 32, 108, 97, 122, 121, 32, 100, 111, 103]) (43, 44)
  have hs := macSum_any (some ⟨ww.heap.size, 0, none⟩) (some ⟨wa.heap.size, 0, none⟩) [107, 101, 121] [84, 104, 101, 32, 113, 117, 105, 99, 107, 32, 98, 114, 111, 119, 110, 32, 102, 111, 120, 32, 106, 117, 109, 112, 115, 32, 111, 118, 101, 114, 32, 116, 104, 101, 32, 108, 97, 122, 121, 32, 100, 111, 103] 3 3 43 43 wb rfl (by omega) (by simp) (ra.only0 hob) rfl (by omega) (by simp) rb
  obtain ⟨hA0, hA1, hA31⟩ := mac_fox
  have hlA := macB_len [107, 101, 121] [84, 104, 101, 32, 113, 117, 105, 99, 107, 32, 98, 114, 111, 119, 110, 32, 102, 111, 120, 32, 106, 117, 109, 112, 115, 32, 111, 118, 101, 114, 32, 116, 104, 101, 32, 108, 97, 122, 121, 32, 100, 111, 103]
  generalize macB [107, 101, 121] [84, 104, 101, 32, 113, 117, 105, 99, 107, 32, 98, 114, 111, 119, 110, 32, 102, 111, 120, 32, 106, 117, 109, 112, 115, 32, 111, 118, 101, 114, 32, 116, 104, 101, 32, 108, 97, 122, 121, 32, 100, 111, 103] = A at hs hA0 hA1 hA31 hlA
  have hobw := hoa.trans0 hob
  rw [hsa, hwa] at hcc2
  have Hs := Lib.hid hs
  have Hwb := Lib.hid hwb
  have Hwa := Lib.hid hwa
  have Hsa := Lib.hid hsa
  clear hs ra rb hoa hob hwb hwa hsa
  go_enter Try.func13, Try.ntmps13
  go_wp2_with fail
  clear hcc1 hcc2
  have e1 : (ww.alloc (.cells #[.int .u8 107, .int .u8 101, .int .u8 121] 5 (3, 4))).alloc (.cells #[.int .u8 84, .int .u8 104, .int .u8 101, .int .u8 32, .int .u8 113, .int .u8 117, .int .u8 105, .int .u8 99, .int .u8 107, .int .u8 32, .int .u8 98, .int .u8 114, .int .u8 111, .int .u8 119, .int .u8 110, .int .u8 32, .int .u8 102, .int .u8 111, .int .u8 120, .int .u8 32, .int .u8 106, .int .u8 117, .int .u8 109, .int .u8 112, .int .u8 115, .int .u8 32, .int .u8 111, .int .u8 118, .int .u8 101, .int .u8 114, .int .u8 32, .int .u8 116, .int .u8 104, .int .u8 101, .int .u8 32, .int .u8 108, .int .u8 97, .int .u8 122, .int .u8 121, .int .u8 32, .int .u8 100, .int .u8 111, .int .u8 103] 5 (43, 44)) = wb := by rw [Hwb.out, Hwa.out]
  have hs := Hs.out
  rw [Hsa.out, ← e1] at hs
  refine hs.mono ?_
  rw [e1]
  rintro e w1 ⟨rfl, h1⟩
  obtain ⟨W1, hW1⟩ : ∃ W1, W1 = w1.alloc (.cells #[.int .u8 0, .int .u8 0, .int .u8 0, .int .u8 0, .int .u8 0, .int .u8 0, .int .u8 0, .int .u8 0, .int .u8 0, .int .u8 0, .int .u8 0, .int .u8 0, .int .u8 0, .int .u8 0, .int .u8 0, .int .u8 0, .int .u8 0, .int .u8 0, .int .u8 0, .int .u8 0, .int .u8 0, .int .u8 0, .int .u8 0, .int .u8 0, .int .u8 0, .int .u8 0, .int .u8 0, .int .u8 0, .int .u8 0, .int .u8 0, .int .u8 0, .int .u8 0] 25) := ⟨_, rfl⟩
  have oW1 : Only [] w1 W1 := by rw [hW1]; exact Only.alloc _ _
  have r6 : Row W1 w1.heap.size 25 (u8s (List.replicate 32 0)) := by rw [hW1]; exact Row.newOf _ _ _ _ (by rfl)
  have hsz : (Try.prog.info? 25).map (·.size) = some (u8s A).length := by rw [u8s_length, hlA]; kernel_rfl
  have hst := r6.storeAt (P := Try.prog) hsz (by rw [u8s_length, u8s_length, hlA]; rfl) (fun u hu => u8s_one hu)
  have hrow := r6.setRow (u8s A)
  have hos : Only [w1.heap.size] W1 (W1.setRow w1.heap.size (u8s A).toArray) := Only.setRow _ _ _
  have hlow : Only [] ww (W1.setRow w1.heap.size (u8s A).toArray) := ((hobw.trans0 h1).trans0 oW1).transN hos (by have := (hobw.trans0 h1).size; simpa using this)
  have hc0 := hrow.cell (by unfold u8s; rw [List.getElem?_map, hA0]; rfl : (u8s A)[0]? = some (.int .u8 247))
  have hc1 := hrow.cell (by unfold u8s; rw [List.getElem?_map, hA1]; rfl : (u8s A)[1]? = some (.int .u8 188))
  have hc31 := hrow.cell (by unfold u8s; rw [List.getElem?_map, hA31]; rfl : (u8s A)[31]? = some (.int .u8 216))
  have Hst := Lib.hid hst
  clear hst hos r6 oW1 hsz hs e1 h1 hobw
  subst hW1
  go_wp2_with (first | ((with_reducible show wpList _ _ _ _ _ _); refine wpl_store (ty := 25) (x := .tmp 1) (y := .tmp 6) rfl rfl rfl rfl Hst.out ?_))
  clear Hst
  try dsimp only [Act.put]
  generalize (w1.alloc (.cells #[.int .u8 0, .int .u8 0, .int .u8 0, .int .u8 0, .int .u8 0, .int .u8 0, .int .u8 0, .int .u8 0, .int .u8 0, .int .u8 0, .int .u8 0, .int .u8 0, .int .u8 0, .int .u8 0, .int .u8 0, .int .u8 0, .int .u8 0, .int .u8 0, .int .u8 0, .int .u8 0, .int .u8 0, .int .u8 0, .int .u8 0, .int .u8 0, .int .u8 0, .int .u8 0, .int .u8 0, .int .u8 0, .int .u8 0, .int .u8 0, .int .u8 0, .int .u8 0] 25)).setRow w1.heap.size (u8s A).toArray = w8 at hc0 hc1 hc31 hlow hrow ⊢
  go_wp2_with fail
  go_ret
  exact ⟨rfl, hlow⟩
end Go.Proofs.Ytmddehbfimpjdaa
