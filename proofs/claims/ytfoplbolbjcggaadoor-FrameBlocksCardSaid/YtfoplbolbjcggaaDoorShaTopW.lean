/- The walk of sha.Sum. -/
import Derived.Test.YtfoplbolbjcggaaDoorShaSumW
set_option linter.unusedVariables false
set_option maxRecDepth 100000
namespace Go.Proofs.YtfoplbolbjcggaaDoor
open Go.RowKit

theorem shaSum_any (p : Option Addr) (xs : List UInt8) (n c : Nat) (ww : World) (hn : xs.length = n) (hb : n + 64 ≤ 140737488355328) (hp : p = none → n = 0 ∧ c = 0) (hx : Rd ww p (u8s xs)) :
    Calls Tryd.prog 61 #[.slice p n c] ww fun e w' => e = .returned (.agg (u8s (shaB xs)).toArray) ∧ Only [] ww w' := by
  obtain ⟨w0, hw0⟩ : ∃ w0, w0 = ww.alloc (.cells #[.int .u8 0, .int .u8 0, .int .u8 0, .int .u8 0, .int .u8 0, .int .u8 0, .int .u8 0, .int .u8 0, .int .u8 0, .int .u8 0, .int .u8 0, .int .u8 0, .int .u8 0, .int .u8 0, .int .u8 0, .int .u8 0, .int .u8 0, .int .u8 0, .int .u8 0, .int .u8 0, .int .u8 0, .int .u8 0, .int .u8 0, .int .u8 0, .int .u8 0, .int .u8 0, .int .u8 0, .int .u8 0, .int .u8 0, .int .u8 0, .int .u8 0, .int .u8 0] 122) := ⟨_, rfl⟩
  have ho0 : Only [] ww w0 := by rw [hw0]; exact Only.alloc _ _
  have hnew := new_any w0
  have rz : Row w0 ww.heap.size 122 (u8s (List.replicate 32 0)) := by rw [hw0]; exact Row.newOf _ _ _ _ (by rfl)
  have hlA : (shaB xs).length = 32 := rfl
  have hsum := fun w F B h => hashSum_any w F B xs h (by omega)
  generalize shaB xs = A at hlA hsum ⊢
  rw [hw0] at hnew
  go_enter Tryd.func61, Tryd.ntmps61
  go_wp2_with fail
  refine hnew.mono ?_
  rintro e w1 ⟨B, F, rfl, hh, h1, hF⟩
  rw [← hw0] at h1 hF
  clear hnew
  go_wp2_with fail
  have hz := rz.lt
  have ho1 : Only [] ww w1 := ho0.trans0 h1
  have hF0 : ∀ k ∈ F, ww.heap.size < k := fun k hk => by have := hF k hk; have := rz.lt; omega
  refine (write_any w1 F B [] xs p n c hh (fun w2 h => hx.after (S := [B]) ((ho1.mono (by simp)).trans h (fun i hi _ => hi)) (fun k hk => by obtain rfl := List.mem_singleton.1 hk; have := hF0 k hh.head; omega)) hn hp (by omega) (by simp; omega)).mono ?_
  rintro e w2 ⟨rfl, F2, hh2, h2, hF2⟩
  rw [List.nil_append] at hh2
  have rz2 := (rz.only0 h1).only h2 (fun h => by have := hF0 _ h; omega)
  have ho2 := ho1.transN h2 (fun k hk => by have := hF0 k hk; omega)
  clear hh hx hF hF2 hw0
  go_wp2_with fail
  refine (hsum w2 F2 B hh2).mono ?_
  rintro e w3 ⟨rfl, h3⟩
  have rz3 := rz2.only0 h3
  have ho3 := ho2.trans0 h3
  have hsz : (Tryd.prog.info? 122).map (·.size) = some (u8s A).length := by rw [u8s_length, hlA]; kernel_rfl
  have hst := rz3.storeAt (P := Tryd.prog) hsz (by rw [u8s_length, u8s_length, hlA]; rfl) (fun u hu => u8s_one hu)
  have hrow := rz3.setRow (u8s A)
  have hos : Only [ww.heap.size] w3 (w3.setRow ww.heap.size (u8s A).toArray) := Only.setRow _ _ _
  have Hrow := Lib.hid hrow
  have Hst := Lib.hid hst
  have Hsz := Lib.hid hsz
  clear hst hsz hrow rz rz2 rz3 hsum hh2
  go_wp2_with (first | ((with_reducible show wpList _ _ _ _ _ _); refine wpl_store (ty := 122) (x := .tmp 2) (y := .tmp 9) rfl rfl rfl rfl Hst.out ?_))
  refine bodyPost_ret (results_cell_row (p := 2) rfl _ _ ww.heap.size 122 (u8s A).toArray (0, 0) _ (by rfl) Hrow.out Tryd.underlying122 rfl (by rw [List.size_toArray]; exact Hsz.out)) (by rfl) ?_
  exact ⟨rfl, ho3.transN hos (by simp)⟩
end Go.Proofs.YtfoplbolbjcggaaDoor
