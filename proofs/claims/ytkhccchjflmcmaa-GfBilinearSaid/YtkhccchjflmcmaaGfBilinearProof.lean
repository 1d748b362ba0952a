/- GfBilinear holds, of every input: no condition. -/
import Derived.Test.YtkhccchjflmcmaaLawOpen
import Derived.Test.YtkhccchjflmcmaaGfBilinearW
set_option linter.unusedVariables false
namespace Go.Proofs.Ytkhccchjflmcmaa
open Go.ChangeShapes Go.WideShapes Go.ChangeAt Go.RowKit

theorem gfBilinear_contract (H : Type) (enc : TypeId × Value → H) (W : World) (base : Nat) (args : Array Value) (ds gs : List (DataW H)) (before : List MemPlace)
    (hval0 : ∀ (j : Nat) t v, Try.f6.params[j]? = some t → args[j]? = some v → Value.okWide Try.prog W .any base t v)
    (hW : DataW.Whole enc Try.prog Try.f6.params.toList Rows.gfBilinearSpec.vars false W args.toList ds gs before)
    (hsz0 : (DataW.weightsEach Try.prog (Try.f6.params.toList ++ Rows.gfBilinearSpec.plain.varTypes Try.prog) (ds ++ gs)).all (· ≤ reachBytes) = true) :
    Calls Try.prog 6 args W fun e W' => ∃ v, e = .returned v ∧ Rows.gfBilinearSpec.post enc Try.prog Try.f6 false true false false W args v W' := by
  have hval : ∀ (j : Nat) t v, Try.f6.params[j]? = some t → args[j]? = some v → Value.okWide Try.prog W .any base t v := hval0
  have hW' := hW
  obtain ⟨p, q, hA0, hV, rfl, hfz, hnd⟩ := hW
  have hA : DataW.TrodAll enc Try.prog W 0 (fun _ => true) true Try.f6.params.toList args.toList ds p := hA0
  rw [Try.params6] at hA hval hsz0
  obtain ⟨v0, vs0, d0, ds0, p0, q0, hargs, rfl, rfl, h0, r0⟩ := trodAll_cons hA
  obtain ⟨rfl, rfl, rfl⟩ := trodAll_nil r0
  obtain rfl : args = #[v0] := by cases args; simp_all
  obtain ⟨rfl, rfl⟩ := trodVars_none hV
  have fit0 := fits_arg hsz0 (j := 0) rfl rfl
  obtain ⟨c0, c1, c2, c3, y0, y1, y2, y3, m, rfl, rfl, rfl, t0, t1, t2, t3⟩ := Joins.open_agg4 Try.underlying35 (by kernel_rfl) (by kernel_rfl) (hval 0 _ v0 rfl rfl) h0
  obtain ⟨a0, n0, k0, xs, rfl, l0, b0, g0, z0, rd0⟩ := open_bytes Try.underlying33 Try.underlying5 (by kernel_rfl) (by kernel_rfl) t0 (fits_field Try.underlying35 fit0 (j := 0) rfl rfl)
  obtain ⟨a1, n1, k1, ys, rfl, l1, b1, g1, z1, rd1⟩ := open_bytes Try.underlying33 Try.underlying5 (by kernel_rfl) (by kernel_rfl) t1 (fits_field Try.underlying35 fit0 (j := 1) rfl rfl)
  obtain ⟨a2, n2, k2, zs, rfl, l2, b2, g2, z2, rd2⟩ := open_bytes Try.underlying33 Try.underlying5 (by kernel_rfl) (by kernel_rfl) t2 (fits_field Try.underlying35 fit0 (j := 2) rfl rfl)
  obtain ⟨c, rfl⟩ := open_u8 Try.underlying5 t3
  refine (gfBilinear_walk a0 a1 a2 xs ys zs n0 n1 n2 k0 k1 k2 _ c W l0 l1 l2 b0 b1 b2 g0 g1 g2 z0 z1 z2 rd0 rd1 rd2 rfl).mono fun e W' ⟨he, ho⟩ => ⟨_, he, ?_⟩
  exact law_post laidOut (by kernel_rfl) rfl rfl Try.underlying4 hW' rfl rfl rfl ho.below

set_option maxRecDepth 100000 in
theorem gfBilinear_lifted (os : Os) (started : os.Started) (H : Type) (enc : TypeId × Value → H) :
    ReturnsInHanded {} Try.checked os 6 .any (Rows.gfBilinearSpec.pre6 enc Try.prog Try.f6 Rows.gfBilinearRow.domain false) (Rows.gfBilinearSpec.post enc Try.prog Try.f6 false true false false) := by
  refine returnsInHanded_of_change_sized (C := Try.checked) own started (by kernel_rfl) Try.func6
    (ChangeSpec.witness6 (enc := enc) (C := Try.checked) false ⟨#[], #[.agg #[.slice none 0 0, .slice none 0 0, .slice none 0 0, .int .u8 0]], []⟩ 8 (by kernel_rfl) (by kernel_rfl) (by kernel_rfl) (by kernel_rfl)) ?_
  intro W base args ds gs before hval hW _ hsz _
  exact gfBilinear_contract H enc W base args ds gs before hval hW hsz

theorem gfBilinear_proved : Rows.GfBilinearSaid :=
  OpenClaim.holds_of_wide 6 Try.f6 rfl rfl rfl rfl rfl rfl rfl ⟨rfl, rfl, rfl, rfl, rfl⟩ rfl rfl rfl rfl rfl (by kernel_rfl) Try.func6 (by kernel_rfl)
    (of_decide_eq_true (by kernel_rfl)) (by unfold Func.isWrapper; first | (rw [if_pos (by decide +kernel)]; kernel_rfl) | (rw [if_neg (by decide +kernel)]; exact ⟨rfl, rfl⟩))
    (fun os started H enc _ => gfBilinear_lifted os started H enc)

end Go.Proofs.Ytkhccchjflmcmaa
