/- ShaPlays holds, of every input of bulk at most 1048576: no other condition. -/
import Derived.Test.YtmddehbfimpjdaaLawOpen
import Derived.Test.YtmddehbfimpjdaaOpenS
import Derived.JoinedCond
import Derived.Deep.CondSized
import Derived.Test.YtmddehbfimpjdaaShaPlaysW
set_option linter.unusedVariables false
namespace Go.Proofs.Ytmddehbfimpjdaa
open Go.ChangeShapes Go.WideShapes Go.ChangeAt Go.RowKit

theorem shaPlays_contract (H : Type) (enc : TypeId × Value → H) (W : World) (base : Nat) (args : Array Value) (ds gs : List (DataW H)) (before : List MemPlace)
    (hval0 : ∀ (j : Nat) t v, Try.f6.params[j]? = some t → args[j]? = some v → Value.okWide Try.prog W .any base t v)
    (hW : DataW.Whole enc Try.prog Try.f6.params.toList Rows.shaPlaysSpec.vars false W args.toList ds gs before)
    (hsz0 : (DataW.weightsEach Try.prog (Try.f6.params.toList ++ Rows.shaPlaysSpec.plain.varTypes Try.prog) (ds ++ gs)).all (· ≤ reachBytes) = true)
    (hcnd : Rows.uptoBulkAll (ds ++ gs) ≤ 1048576) :
    Calls Try.prog 6 args W fun e W' => ∃ v, e = .returned v ∧ Rows.shaPlaysSpec.post enc Try.prog Try.f6 false true false false W args v W' := by
  have hval : ∀ (j : Nat) t v, Try.f6.params[j]? = some t → args[j]? = some v → Value.okWide Try.prog W .any base t v := hval0
  have hW' := hW
  obtain ⟨p, q, hA0, hV, rfl, hfz, hnd⟩ := hW
  have hA : DataW.TrodAll enc Try.prog W 0 (fun _ => true) true Try.f6.params.toList args.toList ds p := hA0
  rw [Try.params6] at hA hval hsz0
  obtain ⟨v0, vs0, d0, ds0, pp0, q0, hargs, rfl, rfl, h0, r0⟩ := trodAll_cons hA
  obtain ⟨rfl, rfl, rfl⟩ := trodAll_nil r0
  obtain rfl : args = #[v0] := by cases args; simp_all
  obtain ⟨rfl, rfl⟩ := trodVars_none hV
  have fit0 := fits_arg hsz0 (j := 0) rfl rfl
  have bk0 : Rows.uptoBulk d0 ≤ 1048576 := Nat.le_trans (bulk_mem (by simp)) hcnd
  obtain ⟨fu0, t0⟩ := arg_slice Try.underlying31 (hval 0 _ v0 rfl rfl) h0
  obtain ⟨p0, n0, k0, os0, rfl, l0, b0, g0, z0, wt0, acts0⟩ := open_acts t0 fit0
  refine (shaPlays_walk p0 os0 n0 k0 W l0 (Nat.le_trans wt0 bk0) z0 acts0).mono fun e W' ⟨he, ho⟩ => ⟨_, he, ?_⟩
  exact law_post laidOut (by kernel_rfl) rfl rfl Try.underlying4 hW' rfl rfl rfl ho.below

set_option maxRecDepth 100000 in
theorem shaPlays_lifted (os : Os) (started : os.Started) (H : Type) (enc : TypeId × Value → H) (F : Stop.Interp) :
    ReturnsInHanded {} Try.checked os 6 .any ((Rows.OpenSpec.upto Rows.shaPlaysSpec).pre6 enc Try.prog Try.f6 Rows.shaPlaysUptoRow.domain false) (((Rows.OpenSpec.upto Rows.shaPlaysSpec).at F).post enc Try.prog Try.f6 false true false false) := by
  refine returnsInHanded_of_cond_sized (C := Try.checked) (s := Rows.OpenSpec.upto Rows.shaPlaysSpec) (k := Rows.uptoSmall) rfl own started (by kernel_rfl) Try.func6
    (OpenSpec.witness (enc := enc) (C := Try.checked) (s := Rows.OpenSpec.upto Rows.shaPlaysSpec) (k := Rows.uptoSmall) rfl false ⟨#[], #[.slice none 0 0], []⟩ 8 (by kernel_rfl) (by kernel_rfl) (by kernel_rfl)
      (x := ([.nil], [], [])) (by kernel_rfl) rfl (by kernel_rfl)) ?_
  intro W base args ds gs before hval hW _ hk hsz _
  exact shaPlays_contract H enc W base args ds gs before hval hW hsz (of_decide_eq_true hk)

theorem shaPlays_proved : Rows.ShaPlaysUptoSaid :=
  OpenClaim.holds_of_cond 6 Try.f6 rfl rfl rfl rfl rfl rfl rfl ⟨rfl, rfl, rfl, rfl, rfl⟩ rfl rfl rfl rfl rfl (by kernel_rfl) Try.func6 (by kernel_rfl)
    (of_decide_eq_true (by kernel_rfl)) (by unfold Func.isWrapper; first | (rw [if_pos (by decide +kernel)]; kernel_rfl) | (rw [if_neg (by decide +kernel)]; exact ⟨rfl, rfl⟩))
    (fun os started H enc _ F => shaPlays_lifted os started H enc F)

end Go.Proofs.Ytmddehbfimpjdaa
