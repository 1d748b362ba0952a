/- ShaHexes holds, of every input of bulk at most 1048576: no other condition. -/
import Derived.Test.YtmddehbfimpjdaaLawOpen
import Derived.Test.YtmddehbfimpjdaaOpenS
import Derived.JoinedCond
import Derived.Deep.CondSized
import Derived.Test.YtmddehbfimpjdaaOpenStr
import Derived.Test.YtmddehbfimpjdaaShaHexesW
set_option linter.unusedVariables false
namespace Go.Proofs.Ytmddehbfimpjdaa
open Go.ChangeShapes Go.WideShapes Go.ChangeAt Go.RowKit

theorem shaHexes_contract (H : Type) (enc : TypeId × Value → H) (W : World) (base : Nat) (args : Array Value) (ds gs : List (DataW H)) (before : List MemPlace)
    (hval0 : ∀ (j : Nat) t v, Try.f12.params[j]? = some t → args[j]? = some v → Value.okWide Try.prog W .any base t v)
    (hW : DataW.Whole enc Try.prog Try.f12.params.toList Rows.shaHexesSpec.vars false W args.toList ds gs before)
    (hsz0 : (DataW.weightsEach Try.prog (Try.f12.params.toList ++ Rows.shaHexesSpec.plain.varTypes Try.prog) (ds ++ gs)).all (· ≤ reachBytes) = true)
    (hcnd : Rows.uptoBulkAll (ds ++ gs) ≤ 1048576) :
    Calls Try.prog 12 args W fun e W' => ∃ v, e = .returned v ∧ Rows.shaHexesSpec.post enc Try.prog Try.f12 false true false false W args v W' := by
  have hval : ∀ (j : Nat) t v, Try.f12.params[j]? = some t → args[j]? = some v → Value.okWide Try.prog W .any base t v := hval0
  have hW' := hW
  obtain ⟨p, q, hA0, hV, rfl, hfz, hnd⟩ := hW
  have hA : DataW.TrodAll enc Try.prog W 0 (fun _ => true) true Try.f12.params.toList args.toList ds p := hA0
  rw [Try.params12] at hA hval hsz0
  obtain ⟨v0, vs0, d0, ds0, pp0, q0, hargs, rfl, rfl, h0, r0⟩ := trodAll_cons hA
  obtain ⟨v1, vs1, d1, ds1, pp1, q1, rfl, rfl, rfl, h1, r1⟩ := trodAll_cons r0
  obtain ⟨rfl, rfl, rfl⟩ := trodAll_nil r1
  obtain rfl : args = #[v0, v1] := by cases args; simp_all
  obtain ⟨rfl, rfl⟩ := trodVars_none hV
  have fit0 := fits_arg hsz0 (j := 0) rfl rfl
  have bk0 : Rows.uptoBulk d0 ≤ 1048576 := Nat.le_trans (bulk_mem (by simp)) hcnd
  have fit1 := fits_arg hsz0 (j := 1) rfl rfl
  have bk1 : Rows.uptoBulk d1 ≤ 1048576 := Nat.le_trans (bulk_mem (by simp)) hcnd
  obtain ⟨fu0, t0⟩ := arg_slice Try.underlying22 (hval 0 _ v0 rfl rfl) h0
  obtain ⟨p0, n0, k0, xs0, rfl, l0, b0, g0, z0, rd0⟩ := open_bytes Try.underlying22 Try.underlying5 (by kernel_rfl) (by kernel_rfl) t0 (fit0)
  have bn0 := bulk_slice Try.underlying22 t0
  dsimp only at bn0
  obtain ⟨fu1, t1⟩ := arg_string Try.underlying9 (hval 1 _ v1 rfl rfl) h1
  obtain ⟨xs1, rfl, b1, bn1⟩ := open_str Try.underlying9 t1 (fit1)
  dsimp only at bn1
  refine (shaHexes_walk p0 xs0 xs1 n0 k0 W l0 (by omega) (by omega) b0 (fun h => ⟨by have := z0 h; omega, z0 h⟩) rd0).mono fun e W' ⟨he, ho⟩ => ⟨_, he, ?_⟩
  exact law_post laidOut (by kernel_rfl) rfl rfl Try.underlying4 hW' rfl rfl rfl ho.below

set_option maxRecDepth 100000 in
theorem shaHexes_lifted (os : Os) (started : os.Started) (H : Type) (enc : TypeId × Value → H) (F : Stop.Interp) :
    ReturnsInHanded {} Try.checked os 12 .any ((Rows.OpenSpec.upto Rows.shaHexesSpec).pre6 enc Try.prog Try.f12 Rows.shaHexesUptoRow.domain false) (((Rows.OpenSpec.upto Rows.shaHexesSpec).at F).post enc Try.prog Try.f12 false true false false) := by
  refine returnsInHanded_of_cond_sized (C := Try.checked) (s := Rows.OpenSpec.upto Rows.shaHexesSpec) (k := Rows.uptoSmall) rfl own started (by kernel_rfl) Try.func12
    (OpenSpec.witness (enc := enc) (C := Try.checked) (s := Rows.OpenSpec.upto Rows.shaHexesSpec) (k := Rows.uptoSmall) rfl false ⟨#[], #[.slice none 0 0, .string ⟨#[]⟩], []⟩ 8 (by kernel_rfl) (by kernel_rfl) (by kernel_rfl)
      (x := ([.nil, .lit (.string [])], [], [])) (by kernel_rfl) rfl (by kernel_rfl)) ?_
  intro W base args ds gs before hval hW _ hk hsz _
  exact shaHexes_contract H enc W base args ds gs before hval hW hsz (of_decide_eq_true hk)

theorem shaHexes_proved : Rows.ShaHexesUptoSaid :=
  OpenClaim.holds_of_cond 12 Try.f12 rfl rfl rfl rfl rfl rfl rfl ⟨rfl, rfl, rfl, rfl, rfl⟩ rfl rfl rfl rfl rfl (by kernel_rfl) Try.func12 (by kernel_rfl)
    (of_decide_eq_true (by kernel_rfl)) (by unfold Func.isWrapper; first | (rw [if_pos (by decide +kernel)]; kernel_rfl) | (rw [if_neg (by decide +kernel)]; exact ⟨rfl, rfl⟩))
    (fun os started H enc _ F => shaHexes_lifted os started H enc F)

end Go.Proofs.Ytmddehbfimpjdaa
