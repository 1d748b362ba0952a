/- MacLong holds, of every input of bulk at most 1048576: no other condition. -/
import Derived.Test.YtmddehbfimpjdaaLawOpen
import Derived.Test.YtmddehbfimpjdaaOpenS
import Derived.JoinedCond
import Derived.Deep.CondSized
import Derived.Test.YtmddehbfimpjdaaOpenStr
import Derived.Test.YtmddehbfimpjdaaMacLongW
import Derived.Test.YtmddehbfimpjdaaOpenStrs
set_option linter.unusedVariables false
namespace Go.Proofs.Ytmddehbfimpjdaa
open Go.ChangeShapes Go.WideShapes Go.ChangeAt Go.RowKit

theorem macLong_contract (H : Type) (enc : TypeId × Value → H) (W : World) (base : Nat) (args : Array Value) (ds gs : List (DataW H)) (before : List MemPlace)
    (hval0 : ∀ (j : Nat) t v, Try.f11.params[j]? = some t → args[j]? = some v → Value.okWide Try.prog W .any base t v)
    (hW : DataW.Whole enc Try.prog Try.f11.params.toList Rows.macLongSpec.vars false W args.toList ds gs before)
    (hsz0 : (DataW.weightsEach Try.prog (Try.f11.params.toList ++ Rows.macLongSpec.plain.varTypes Try.prog) (ds ++ gs)).all (· ≤ reachBytes) = true)
    (hcnd : Rows.uptoBulkAll (ds ++ gs) ≤ 1048576) :
    Calls Try.prog 11 args W fun e W' => ∃ v, e = .returned v ∧ Rows.macLongSpec.post enc Try.prog Try.f11 false true false false W args v W' := by
  have hval : ∀ (j : Nat) t v, Try.f11.params[j]? = some t → args[j]? = some v → Value.okWide Try.prog W .any base t v := hval0
  have hW' := hW
  obtain ⟨p, q, hA0, hV, rfl, hfz, hnd⟩ := hW
  have hA : DataW.TrodAll enc Try.prog W 0 (fun _ => true) true Try.f11.params.toList args.toList ds p := hA0
  rw [Try.params11] at hA hval hsz0
  obtain ⟨v0, vs0, d0, ds0, pp0, q0, hargs, rfl, rfl, h0, r0⟩ := trodAll_cons hA
  obtain ⟨rfl, rfl, rfl⟩ := trodAll_nil r0
  obtain rfl : args = #[v0] := by cases args; simp_all
  obtain ⟨rfl, rfl⟩ := trodVars_none hV
  have fit0 := fits_arg hsz0 (j := 0) rfl rfl
  have bk0 : Rows.uptoBulk d0 ≤ 1048576 := Nat.le_trans (bulk_mem (by simp)) hcnd
  obtain ⟨c0_0, c0_1, c0_2, c0_3, y0_0, y0_1, y0_2, y0_3, m0, rfl, rfl, rfl, t0_0, t0_1, t0_2, t0_3⟩ := Joins.open_agg4 Try.underlying50 (by kernel_rfl) (by kernel_rfl) (hval 0 _ v0 rfl rfl) h0
  obtain ⟨p0_0, n0_0, k0_0, xs0_0, rfl, l0_0, b0_0, g0_0, z0_0, rd0_0⟩ := open_bytes Try.underlying22 Try.underlying5 (by kernel_rfl) (by kernel_rfl) t0_0 (fits_field Try.underlying50 fit0 (j := 0) rfl rfl)
  obtain ⟨p0_1, n0_1, k0_1, xs0_1, rfl, l0_1, b0_1, g0_1, z0_1, rd0_1⟩ := open_bytes Try.underlying22 Try.underlying5 (by kernel_rfl) (by kernel_rfl) t0_1 (fits_field Try.underlying50 fit0 (j := 1) rfl rfl)
  obtain ⟨p0_2, n0_2, k0_2, os0_2, rfl, l0_2, b0_2, g0_2, z0_2, wt0_2, acts0_2⟩ := open_strs t0_2 (fits_field Try.underlying50 fit0 (j := 2) rfl rfl)
  obtain ⟨p0_3, n0_3, k0_3, os0_3, rfl, l0_3, b0_3, g0_3, z0_3, wt0_3, acts0_3⟩ := open_strs t0_3 (fits_field Try.underlying50 fit0 (j := 3) rfl rfl)
  have bk0_0 : Rows.uptoBulk y0_0.1 ≤ 1048576 := by have := bk0; simp only [Rows.uptoBulk, Rows.uptoBulkAll] at this; omega
  have bn0_0 := bulk_slice Try.underlying22 t0_0
  have bk0_1 : Rows.uptoBulk y0_1.1 ≤ 1048576 := by have := bk0; simp only [Rows.uptoBulk, Rows.uptoBulkAll] at this; omega
  have bn0_1 := bulk_slice Try.underlying22 t0_1
  have bk0_2 : Rows.uptoBulk y0_2.1 ≤ 1048576 := by have := bk0; simp only [Rows.uptoBulk, Rows.uptoBulkAll] at this; omega
  have bn0_2 := bulk_slice Try.underlying45 t0_2
  have bk0_3 : Rows.uptoBulk y0_3.1 ≤ 1048576 := by have := bk0; simp only [Rows.uptoBulk, Rows.uptoBulkAll] at this; omega
  have bn0_3 := bulk_slice Try.underlying45 t0_3
  refine (macLong_walk p0_0 p0_1 p0_2 p0_3 xs0_0 xs0_1 os0_2 os0_3 n0_0 k0_0 n0_1 k0_1 n0_2 k0_2 n0_3 k0_3 W l0_0 (by omega) (fun h => ⟨by have := z0_0 h; omega, z0_0 h⟩) rd0_0 l0_1 (by omega) (fun h => ⟨by have := z0_1 h; omega, z0_1 h⟩) rd0_1 l0_2 (by omega) z0_2 acts0_2 l0_3 (by omega) z0_3 acts0_3).mono fun e W' ⟨he, ho⟩ => ⟨_, he, ?_⟩
  exact law_post laidOut (by kernel_rfl) rfl rfl Try.underlying4 hW' rfl rfl rfl ho.below

set_option maxRecDepth 100000 in
theorem macLong_lifted (os : Os) (started : os.Started) (H : Type) (enc : TypeId × Value → H) (F : Stop.Interp) :
    ReturnsInHanded {} Try.checked os 11 .any ((Rows.OpenSpec.upto Rows.macLongSpec).pre6 enc Try.prog Try.f11 Rows.macLongUptoRow.domain false) (((Rows.OpenSpec.upto Rows.macLongSpec).at F).post enc Try.prog Try.f11 false true false false) := by
  refine returnsInHanded_of_cond_sized (C := Try.checked) (s := Rows.OpenSpec.upto Rows.macLongSpec) (k := Rows.uptoSmall) rfl own started (by kernel_rfl) Try.func11
    (OpenSpec.witness (enc := enc) (C := Try.checked) (s := Rows.OpenSpec.upto Rows.macLongSpec) (k := Rows.uptoSmall) rfl false ⟨#[], #[.agg #[.slice none 0 0, .slice none 0 0, .slice none 0 0, .slice none 0 0]], []⟩ 8 (by kernel_rfl) (by kernel_rfl) (by kernel_rfl)
      (x := ([.agg [.nil, .nil, .nil, .nil]], [], [])) (by kernel_rfl) rfl (by kernel_rfl)) ?_
  intro W base args ds gs before hval hW _ hk hsz _
  exact macLong_contract H enc W base args ds gs before hval hW hsz (of_decide_eq_true hk)

theorem macLong_proved : Rows.MacLongUptoSaid :=
  OpenClaim.holds_of_cond 11 Try.f11 rfl rfl rfl rfl rfl rfl rfl ⟨rfl, rfl, rfl, rfl, rfl⟩ rfl rfl rfl rfl rfl (by kernel_rfl) Try.func11 (by kernel_rfl)
    (of_decide_eq_true (by kernel_rfl)) (by unfold Func.isWrapper; first | (rw [if_pos (by decide +kernel)]; kernel_rfl) | (rw [if_neg (by decide +kernel)]; exact ⟨rfl, rfl⟩))
    (fun os started H enc _ F => macLong_lifted os started H enc F)

end Go.Proofs.Ytmddehbfimpjdaa
