/- EndsPk, part 17: Ref08Dec. -/
import Derived.Test.YtfeglnpmpgipiaaEndsPk03
import Derived.Test.YtfeglnpmpgipiaaEndsPk08
import Derived.Test.YtfeglnpmpgipiaaEndsPk11
import Derived.Test.YtfeglnpmpgipiaaEndsPk15
import Derived.Test.YtfeglnpmpgipiaaProg
set_option linter.unusedVariables false
set_option maxRecDepth 100000
section
set_option linter.unusedVariables false
set_option maxRecDepth 100000
namespace Go.Proofs.Ytfeglnpmpgipiaa
open Go.RowKit
set_option maxHeartbeats 4000000 in
theorem ref08Dec_any (n : Nat) (w0 : World) (hn : n ≤ 1000000000000) : Calls Try.prog 53 #[.int .i64 (n : Int)] w0 fun e w' => e = .returned (.string (str (decB n))) ∧ Only [] w0 w' := by
 have H0 : Hid (decGo n [] = decB n) := Lib.hid (decGo_nil n)
 go_enter Try.func53, Try.ntmps53
 go_wp2_with fail
 go_loopw [0, 3] (fun a b wl => ∃ (m : Nat) (s : List UInt8), a = .int .i64 (m : Int) ∧ b = .string (str s) ∧ m ≤ n ∧ Hid (decGo m s = decB n) ∧ Hid (Only [] w0 wl)) (fun a b _ => match b with | .string x => if x.size = 0 then (intOf a).toNat + 1 else (intOf a).toNat | _ => 0)
 case atStart => exact ⟨n, [], rfl, rfl, Nat.le_refl _, H0, Lib.hid (Only.refl _ _)⟩
 case round =>
  obtain ⟨m, s, rfl, rfl, hm, Hd, HOl⟩ := hrel
  by_cases hc : s = [] ∨ 0 < m
  ·have hst := decGo_step hc; rw [Hd.out] at hst; obtain ⟨d, hd⟩ : ∃ d, UInt8.ofNat (48 + m % 10) = d := ⟨_, rfl⟩; rw [hd] at hst; have hdv : (d.toNat : Int) = 48 + (m : Int) % 10 := (by rw [← hd, UInt8.toNat_ofNat']; omega); have Hst := Lib.hid hst; have hmod : (m : Int).tmod 10 = (m : Int) % 10 := Int.tmod_eq_emod_of_nonneg (by omega); have hdiv : (m : Int).tdiv 10 = ((m / 10 : Nat) : Int) := (by rw [Int.tdiv_eq_ediv_of_nonneg (by omega)]; omega); have hw : IntKind.u8.wrap (48 + (m : Int) % 10) = (d.toNat : Int) := by rw [hdv]; simp [IntKind.wrap, IntKind.bits, IntKind.signed]; omega
   have hcv : (Go.convert 100 9 (.slice (some ⟨wr.heap.size, 0, none⟩) 1 1)).run Try.prog (wr.alloc (.cells #[.int .u8 (d.toNat : Int)] 5)) = .ok (.string (str [d])) (wr.alloc (.cells #[.int .u8 (d.toNat : Int)] 5)) := by
    refine conv_bytes (xs := [d]) _ Try.underlying100 Try.underlying5 Try.underlying9 ?_ rfl (fun h => by cases h); exact (Row.new wr 5 [Go.Proofs.Ytfeglnpmpgipiaa.u8 d]).rd0
   have HO2 : Hid (Only [] w0 (wr.alloc (.cells #[.int .u8 (d.toNat : Int)] 5))) := Lib.hid (HOl.out.trans0 (Only.alloc _ _))
   have hap : str [d] ++ str s = str (d :: s) := by
    apply ByteArray.ext; simp [str]
   by_cases hs : s = []
   ·subst hs; have e1 : (str []).toList.isEmpty = true := (by rw [str_toList]; rfl); have e2 : ((str []).toList = []) = True := (by rw [str_toList]; simp); clear hd hdv hst hc; go_wp2_with fail; refine ⟨⟨m / 10, [d], by rw [Int.natCast_ediv]; rfl, rfl, by omega, Hst, HO2⟩, ?_⟩; show (if (str [d]).size = 0 then ((m : Int) / 10).toNat + 1 else ((m : Int) / 10).toNat) < (if (str []).size = 0 then ((m : Int)).toNat + 1 else ((m : Int)).toNat); rw [str_size, str_size, if_neg (by simp), if_pos (by simp)]; omega
   ·have hm0 : 0 < m := hc.resolve_left hs; obtain ⟨x, xs, rfl⟩ := List.exists_cons_of_ne_nil hs; have e1 : (str (x :: xs)).toList.isEmpty = false := (by rw [str_toList]; rfl); have e2 : ((str (x :: xs)).toList = []) = False := (by rw [str_toList]; simp); have e3 : ((str (x :: xs)).toList == []) = false := (by rw [str_toList]; rfl); have hl1 := decGo_len m (x :: xs); rw [Hd.out] at hl1; have hl2 := decB_len 12 n (by omega)
    have hsz : ¬ 9223372036854775807 < (str [d]).size + (str (x :: xs)).size := by
     rw [str_size, str_size]; simp only [List.length_cons, List.length_nil] at hl1 ⊢; omega
    clear hd hdv hst hc hs hl1 hl2; go_wp2_with fail; refine ⟨⟨m / 10, d :: x :: xs, by rw [Int.natCast_ediv]; rfl, rfl, by omega, Hst, HO2⟩, ?_⟩; show (if (str (d :: x :: xs)).size = 0 then ((m : Int) / 10).toNat + 1 else ((m : Int) / 10).toNat) < (if (str (x :: xs)).size = 0 then ((m : Int)).toNat + 1 else ((m : Int)).toNat); rw [str_size, str_size, if_neg (by simp), if_neg (by simp)]; omega
  ·have hs : s ≠ [] := fun h => hc (.inl h); have hm0 : m = 0 := (by omega); subst hm0; have hd := Hd.out; rw [decGo_done hc] at hd; obtain ⟨x, xs, rfl⟩ := List.exists_cons_of_ne_nil hs; have e1 : (str (x :: xs)).toList.isEmpty = false := (by rw [str_toList]; rfl); have e2 : ((str (x :: xs)).toList = []) = False := (by rw [str_toList]; simp); have e3 : ((str (x :: xs)).toList == []) = false := (by rw [str_toList]; rfl); have Hd2 := Lib.hid hd; clear hd Hd hc hs; go_wp2_with fail
   go_ret
   exact ⟨by rw [← Hd2.out]; rfl, HOl.out⟩
end Go.Proofs.Ytfeglnpmpgipiaa
end
