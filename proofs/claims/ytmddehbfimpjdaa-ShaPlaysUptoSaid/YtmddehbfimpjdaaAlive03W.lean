/- The walk of bollardlaw03.alive. -/
import Derived.Test.YtmddehbfimpjdaaShaTopW
import Derived.Test.YtmddehbfimpjdaaHexW
set_option linter.unusedVariables false
namespace Go.Proofs.Ytmddehbfimpjdaa
open Go.RowKit

theorem abc_hex : hexB ((shaB [97, 98, 99]).take 4) = [98, 97, 55, 56, 49, 54, 98, 102] := by decide +kernel
theorem alive03_any (ww : World) : Calls Try.prog 18 #[] ww fun e w' => e = .returned (.bool true) ∧ Only [] ww w' := by
  have hcc := Go.Lib.run_convert_bytes_const (P := Try.prog) ww 22 5 #[.int .u8 97, .int .u8 98, .int .u8 99] 3 3 Try.underlying22 Try.underlying5
  have ho0 : Only [] ww (ww.alloc (.cells #[.int .u8 97, .int .u8 98, .int .u8 99] 5 (3, 4))) := Only.alloc _ _
  have r0 : Rd (ww.alloc (.cells #[.int .u8 97, .int .u8 98, .int .u8 99] 5 (3, 4))) (some ⟨ww.heap.size, 0, none⟩) (u8s [97, 98, 99]) := Rd.newMark ww 5 (u8s [97, 98, 99]) (3, 4)
  have hs := shaSum_any (some ⟨ww.heap.size, 0, none⟩) [97, 98, 99] 3 3 (ww.alloc (.cells #[.int .u8 97, .int .u8 98, .int .u8 99] 5 (3, 4))) rfl (by omega) (by simp) r0
  have hlA : (shaB [97, 98, 99]).length = 32 := rfl
  have hA := abc_hex
  generalize shaB [97, 98, 99] = A at hlA hA hs
  go_enter Try.func18, Try.ntmps18
  go_wp2_with fail
  clear hcc
  refine hs.mono ?_
  rintro e w1 ⟨rfl, h1⟩
  have ho1 := ho0.trans0 h1
  obtain ⟨W1, hW1⟩ : ∃ W1, W1 = w1.alloc (.cells #[.int .u8 0, .int .u8 0, .int .u8 0, .int .u8 0, .int .u8 0, .int .u8 0, .int .u8 0, .int .u8 0, .int .u8 0, .int .u8 0, .int .u8 0, .int .u8 0, .int .u8 0, .int .u8 0, .int .u8 0, .int .u8 0, .int .u8 0, .int .u8 0, .int .u8 0, .int .u8 0, .int .u8 0, .int .u8 0, .int .u8 0, .int .u8 0, .int .u8 0, .int .u8 0, .int .u8 0, .int .u8 0, .int .u8 0, .int .u8 0, .int .u8 0, .int .u8 0] 25) := ⟨_, rfl⟩
  have oW1 : Only [] w1 W1 := by rw [hW1]; exact Only.alloc _ _
  have rz : Row W1 w1.heap.size 25 (u8s (List.replicate 32 0)) := by rw [hW1]; exact Row.newOf _ _ _ _ (by rfl)
  have hsz : (Try.prog.info? 25).map (·.size) = some (u8s A).length := by rw [u8s_length, hlA]; kernel_rfl
  have hst := rz.storeAt (P := Try.prog) hsz (by rw [u8s_length, u8s_length, hlA]; rfl) (fun u hu => u8s_one hu)
  have hrow := rz.setRow (u8s A)
  have hos : Only [w1.heap.size] W1 (W1.setRow w1.heap.size (u8s A).toArray) := Only.setRow _ _ _
  have ho2 : Only [] ww (W1.setRow w1.heap.size (u8s A).toArray) := (ho1.trans0 oW1).transN hos (by have := ho1.size; simpa using this)
  have hrd : Rd (W1.setRow w1.heap.size (u8s A).toArray) (some ⟨w1.heap.size, 0, none⟩) (u8s (A.take 4)) := by have := hrow.rd0.take 4; rwa [u8s_take] at this
  have hx := hex_any (some ⟨w1.heap.size, 0, none⟩) (A.take 4) 4 32 _ (by rw [List.length_take, hlA]; rfl) (by omega) hrd
  rw [hA] at hx
  have Hst := Lib.hid hst
  have Hx := Lib.hid hx
  have Ho2 := Lib.hid ho2
  clear hst hrow hos rz hsz oW1 hrd hx ho2 hs r0 ho0 h1 ho1 hA hlA
  subst hW1
  go_wp2_with (first | ((with_reducible show wpList _ _ _ _ _ _); refine wpl_store (ty := 25) (x := .tmp 1) (y := .tmp 4) rfl rfl rfl rfl Hst.out ?_))
  refine Hx.out.mono ?_
  rintro e w2 ⟨rfl, h2⟩
  go_wp2_with fail
  go_ret
  exact ⟨rfl, Ho2.out.trans0 h2⟩
end Go.Proofs.Ytmddehbfimpjdaa
