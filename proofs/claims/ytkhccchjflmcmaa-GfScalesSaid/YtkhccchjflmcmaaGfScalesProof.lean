/- GfScales holds, of every input: no condition. -/
import Derived.Test.YtkhccchjflmcmaaLawOpen
import Derived.Test.YtkhccchjflmcmaaGfScalesW
set_option linter.unusedVariables false
namespace Go.Proofs.Ytkhccchjflmcmaa
open Go.ChangeShapes Go.WideShapes Go.ChangeAt Go.RowKit

theorem gfScales_contract (H : Type) (enc : TypeId × Value → H) (W : World) (base : Nat) (args : Array Value) (ds gs : List (DataW H)) (before : List MemPlace)
    (hval0 : ∀ (j : Nat) t v, Try.f7.params[j]? = some t → args[j]? = some v → Value.okWide Try.prog W .any base t v)
    (hW : DataW.Whole enc Try.prog Try.f7.params.toList Rows.gfScalesSpec.vars false W args.toList ds gs before)
    (hsz0 : (DataW.weightsEach Try.prog (Try.f7.params.toList ++ Rows.gfScalesSpec.plain.varTypes Try.prog) (ds ++ gs)).all (· ≤ reachBytes) = true) :
    Calls Try.prog 7 args W fun e W' => ∃ v, e = .returned v ∧ Rows.gfScalesSpec.post enc Try.prog Try.f7 false true false false W args v W' := by
  have hval : ∀ (j : Nat) t v, Try.f7.params[j]? = some t → args[j]? = some v → Value.okWide Try.prog W .any base t v := hval0
  have hW' := hW
  obtain ⟨p, q, hA0, hV, rfl, hfz, hnd⟩ := hW
  have hA : DataW.TrodAll enc Try.prog W 0 (fun _ => true) true Try.f7.params.toList args.toList ds p := hA0
  rw [Try.params7] at hA hval hsz0
  obtain ⟨v0, vs0, d0, ds0, pp0, q0, hargs, rfl, rfl, h0, r0⟩ := trodAll_cons hA
  obtain ⟨v1, vs1, d1, ds1, pp1, q1, rfl, rfl, rfl, h1, r1⟩ := trodAll_cons r0
  obtain ⟨rfl, rfl, rfl⟩ := trodAll_nil r1
  obtain rfl : args = #[v0, v1] := by cases args; simp_all
  obtain ⟨rfl, rfl⟩ := trodVars_none hV
  have fit0 := fits_arg hsz0 (j := 0) rfl rfl
  obtain ⟨c0_0, c0_1, c0_2, c0_3, y0_0, y0_1, y0_2, y0_3, m0, rfl, rfl, rfl, t0_0, t0_1, t0_2, t0_3⟩ := Joins.open_agg4 Try.underlying35 (by kernel_rfl) (by kernel_rfl) (hval 0 _ v0 rfl rfl) h0
  obtain ⟨p0_0, n0_0, k0_0, xs0_0, rfl, l0_0, b0_0, g0_0, z0_0, rd0_0⟩ := open_bytes Try.underlying33 Try.underlying5 (by kernel_rfl) (by kernel_rfl) t0_0 (fits_field Try.underlying35 fit0 (j := 0) rfl rfl)
  obtain ⟨p0_1, n0_1, k0_1, xs0_1, rfl, l0_1, b0_1, g0_1, z0_1, rd0_1⟩ := open_bytes Try.underlying33 Try.underlying5 (by kernel_rfl) (by kernel_rfl) t0_1 (fits_field Try.underlying35 fit0 (j := 1) rfl rfl)
  obtain ⟨p0_2, n0_2, k0_2, xs0_2, rfl, l0_2, b0_2, g0_2, z0_2, rd0_2⟩ := open_bytes Try.underlying33 Try.underlying5 (by kernel_rfl) (by kernel_rfl) t0_2 (fits_field Try.underlying35 fit0 (j := 2) rfl rfl)
  obtain ⟨x0_3, rfl⟩ := open_u8 Try.underlying5 t0_3
  obtain ⟨fu1, t1⟩ := arg_int Try.underlying5 (hval 1 _ v1 rfl rfl) h1
  obtain ⟨x1, rfl⟩ := open_u8 Try.underlying5 t1
  refine (gfScales_walk p0_0 p0_1 p0_2 xs0_0 xs0_1 xs0_2 n0_0 n0_1 n0_2 k0_0 k0_1 k0_2 x0_3 x1 W l0_0 l0_1 l0_2 b0_0 b0_1 b0_2 g0_0 g0_1 g0_2 rd0_0 rd0_1 rd0_2).mono fun e W' ⟨he, ho⟩ => ⟨_, he, ?_⟩
  exact law_post laidOut (by kernel_rfl) rfl rfl Try.underlying4 hW' rfl rfl rfl ho.below

set_option maxRecDepth 100000 in
theorem gfScales_lifted (os : Os) (started : os.Started) (H : Type) (enc : TypeId × Value → H) :
    ReturnsInHanded {} Try.checked os 7 .any (Rows.gfScalesSpec.pre6 enc Try.prog Try.f7 Rows.gfScalesRow.domain false) (Rows.gfScalesSpec.post enc Try.prog Try.f7 false true false false) := by
  refine returnsInHanded_of_change_sized (C := Try.checked) own started (by kernel_rfl) Try.func7
    (ChangeSpec.witness6 (enc := enc) (C := Try.checked) false ⟨#[], #[.agg #[.slice none 0 0, .slice none 0 0, .slice none 0 0, .int .u8 0], .int .u8 0], []⟩ 8 (by kernel_rfl) (by kernel_rfl) (by kernel_rfl) (by kernel_rfl)) ?_
  intro W base args ds gs before hval hW _ hsz _
  exact gfScales_contract H enc W base args ds gs before hval hW hsz

theorem gfScales_proved : Rows.GfScalesSaid :=
  OpenClaim.holds_of_wide 7 Try.f7 rfl rfl rfl rfl rfl rfl rfl ⟨rfl, rfl, rfl, rfl, rfl⟩ rfl rfl rfl rfl rfl (by kernel_rfl) Try.func7 (by kernel_rfl)
    (of_decide_eq_true (by kernel_rfl)) (by unfold Func.isWrapper; first | (rw [if_pos (by decide +kernel)]; kernel_rfl) | (rw [if_neg (by decide +kernel)]; exact ⟨rfl, rfl⟩))
    (fun os started H enc _ => gfScales_lifted os started H enc)


end Go.Proofs.Ytkhccchjflmcmaa
