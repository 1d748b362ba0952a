/- MacSums holds, of every input: no condition. -/
import Derived.Test.YtmddehbfimpjdaaLawOpen
import Derived.Test.YtmddehbfimpjdaaMacSumsW
set_option linter.unusedVariables false
namespace Go.Proofs.Ytmddehbfimpjdaa
open Go.ChangeShapes Go.WideShapes Go.ChangeAt Go.RowKit

theorem macSums_contract (H : Type) (enc : TypeId × Value → H) (W : World) (base : Nat) (args : Array Value) (ds gs : List (DataW H)) (before : List MemPlace)
    (hval0 : ∀ (j : Nat) t v, Try.f3.params[j]? = some t → args[j]? = some v → Value.okWide Try.prog W .any base t v)
    (hW : DataW.Whole enc Try.prog Try.f3.params.toList Rows.macSumsSpec.vars false W args.toList ds gs before)
    (hsz0 : (DataW.weightsEach Try.prog (Try.f3.params.toList ++ Rows.macSumsSpec.plain.varTypes Try.prog) (ds ++ gs)).all (· ≤ reachBytes) = true) :
    Calls Try.prog 3 args W fun e W' => ∃ v, e = .returned v ∧ Rows.macSumsSpec.post enc Try.prog Try.f3 false true false false W args v W' := by
  have hval : ∀ (j : Nat) t v, Try.f3.params[j]? = some t → args[j]? = some v → Value.okWide Try.prog W .any base t v := hval0
  have hW' := hW
  obtain ⟨p, q, hA0, hV, rfl, hfz, hnd⟩ := hW
  have hA : DataW.TrodAll enc Try.prog W 0 (fun _ => true) true Try.f3.params.toList args.toList ds p := hA0
  rw [Try.params3] at hA hval hsz0
  obtain ⟨v0, vs0, d0, ds0, pp0, q0, hargs, rfl, rfl, h0, r0⟩ := trodAll_cons hA
  obtain ⟨v1, vs1, d1, ds1, pp1, q1, rfl, rfl, rfl, h1, r1⟩ := trodAll_cons r0
  obtain ⟨rfl, rfl, rfl⟩ := trodAll_nil r1
  obtain rfl : args = #[v0, v1] := by cases args; simp_all
  obtain ⟨rfl, rfl⟩ := trodVars_none hV
  have fit0 := fits_arg hsz0 (j := 0) rfl rfl
  have fit1 := fits_arg hsz0 (j := 1) rfl rfl
  obtain ⟨fu0, t0⟩ := arg_slice Try.underlying22 (hval 0 _ v0 rfl rfl) h0
  obtain ⟨p0, n0, k0, xs0, rfl, l0, b0, g0, z0, rd0⟩ := open_bytes Try.underlying22 Try.underlying5 (by kernel_rfl) (by kernel_rfl) t0 (fit0)
  obtain ⟨fu1, t1⟩ := arg_slice Try.underlying22 (hval 1 _ v1 rfl rfl) h1
  obtain ⟨p1, n1, k1, xs1, rfl, l1, b1, g1, z1, rd1⟩ := open_bytes Try.underlying22 Try.underlying5 (by kernel_rfl) (by kernel_rfl) t1 (fit1)
  refine (macSums_walk p0 p1 xs0 xs1 n0 k0 n1 k1 W l0 (by omega) (fun h => ⟨by have := z0 h; omega, z0 h⟩) rd0 l1 (by omega) (fun h => ⟨by have := z1 h; omega, z1 h⟩) rd1).mono fun e W' ⟨he, ho⟩ => ⟨_, he, ?_⟩
  exact law_post laidOut (by kernel_rfl) rfl rfl Try.underlying4 hW' rfl rfl rfl ho.below

set_option maxRecDepth 100000 in
theorem macSums_lifted (os : Os) (started : os.Started) (H : Type) (enc : TypeId × Value → H) :
    ReturnsInHanded {} Try.checked os 3 .any (Rows.macSumsSpec.pre6 enc Try.prog Try.f3 Rows.macSumsRow.domain false) (Rows.macSumsSpec.post enc Try.prog Try.f3 false true false false) := by
  refine returnsInHanded_of_change_sized (C := Try.checked) own started (by kernel_rfl) Try.func3
    (ChangeSpec.witness6 (enc := enc) (C := Try.checked) false ⟨#[], #[.slice none 0 0, .slice none 0 0], []⟩ 8 (by kernel_rfl) (by kernel_rfl) (by kernel_rfl) (by kernel_rfl)) ?_
  intro W base args ds gs before hval hW _ hsz _
  exact macSums_contract H enc W base args ds gs before hval hW hsz

theorem macSums_proved : Rows.MacSumsSaid :=
  OpenClaim.holds_of_wide 3 Try.f3 rfl rfl rfl rfl rfl rfl rfl ⟨rfl, rfl, rfl, rfl, rfl⟩ rfl rfl rfl rfl rfl (by kernel_rfl) Try.func3 (by kernel_rfl)
    (of_decide_eq_true (by kernel_rfl)) (by unfold Func.isWrapper; first | (rw [if_pos (by decide +kernel)]; kernel_rfl) | (rw [if_neg (by decide +kernel)]; exact ⟨rfl, rfl⟩))
    (fun os started H enc _ => macSums_lifted os started H enc)


end Go.Proofs.Ytmddehbfimpjdaa
