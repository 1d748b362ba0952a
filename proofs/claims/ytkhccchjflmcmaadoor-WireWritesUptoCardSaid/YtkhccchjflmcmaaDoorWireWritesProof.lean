/- wireWrites: the law returns true for every input of bulk at most 1048576; its row's errors are tied to the program's text: no other condition. -/
import Derived.Test.YtkhccchjflmcmaaDoorOpenS
import Derived.Test.YtkhccchjflmcmaaDoorErrs
import Derived.Test.YtkhccchjflmcmaaDoorCards
import Derived.Test.YtkhccchjflmcmaaDoorTie
import Derived.Deep.DeepWitnessRowRef
import Derived.Deep.DeepHandedRow
import Derived.Test.YtkhccchjflmcmaaDoorWireWritesW
set_option linter.unusedVariables false
namespace Go.Proofs.YtkhccchjflmcmaaDoor.wireWritesP
open Go.ChangeShapes Go.WideShapes Go.ChangeAt Go.RowKit

def names : List (String × List UInt8) := [("bollard/api.ErrNumber", [98, 111, 108, 108, 97, 114, 100, 58, 32, 110, 117, 109, 98, 101, 114])]
theorem contract (H : Type) (enc : TypeId × Value → H) (W : World) (base : Nat) (args : Array Value) (ds gs : List (DataW H)) (before : List MemPlace)
    (hval0 : ∀ (j : Nat) t v, Tryd.f4.params[j]? = some t → args[j]? = some v → Value.okWide Tryd.prog W .any base t v)
    (hW : DataW.Whole enc Tryd.prog Tryd.f4.params.toList Rows.wireWritesSpec.vars false W args.toList ds gs before)
    (hsz0 : (DataW.weightsEach Tryd.prog (Tryd.f4.params.toList ++ Rows.wireWritesSpec.plain.varTypes Tryd.prog) (ds ++ gs)).all (· ≤ reachBytes) = true)
    (hcnd : Rows.uptoBulkAll (ds ++ gs) ≤ 1048576)
    (hL : laidMetH Tryd.prog Rows.wireWritesUptoRow.laid W) :
    Calls Tryd.prog 4 args W fun e W' => ∃ v, e = .returned v ∧ Rows.wireWritesSpec.post enc Tryd.prog Tryd.f4 false true false false W args v W' := by
  have hval : ∀ (j : Nat) t v, Tryd.f4.params[j]? = some t → args[j]? = some v → Value.okWide Tryd.prog W .any base t v := hval0
  have hW' := hW
  obtain ⟨p, q, hA0, hV, rfl, hfz, hnd0⟩ := hW
  have hA : DataW.TrodAll enc Tryd.prog W 0 (fun _ => true) true Tryd.f4.params.toList args.toList ds p := hA0
  rw [Tryd.params4] at hA hval hsz0
  obtain ⟨v0, vs0, d0, ds0, pp0, q0, hargs, rfl, rfl, h0, r0⟩ := trodAll_cons hA
  obtain ⟨rfl, rfl, rfl⟩ := trodAll_nil r0
  obtain rfl : args = #[v0] := by cases args; simp_all
  obtain ⟨rfl, rfl⟩ := trodVars_none hV
  have fit0 := fits_arg hsz0 (j := 0) rfl rfl
  have bk0 : Rows.uptoBulk d0 ≤ 1048576 := Nat.le_trans (bulk_mem (by simp)) hcnd
  obtain ⟨fu0, t0⟩ := arg_slice Tryd.underlying33 (hval 0 _ v0 rfl rfl) h0
  obtain ⟨p0, n0, k0, os0, rfl, l0, b0, g0, z0, wt0, acts0⟩ := open_acts t0 fit0
  obtain ⟨az, hlen, hnd, hez⟩ := errs_of_laid names (by rfl) (by kernel_rfl) (by kernel_rfl) hL
  have hla : az.length = 1 := hlen
  obtain ⟨e0, rfl⟩ : ∃ e0, az = [e0] := by
    obtain _ | ⟨e0, az⟩ := az; · simp at hla
    obtain _ | ⟨x, az⟩ := az
    · exact ⟨e0, rfl⟩
    · simp at hla
  have hE0 : ErrAt W 0 e0 := by
    obtain ⟨g, k1, k2⟩ := hez 0 _ e0 rfl rfl
    rw [show Tryd.prog.globalNamed "bollard/api.ErrNumber" = some 0 by kernel_rfl] at k1
    obtain rfl := Option.some.inj k1; exact k2
  refine (wireWrites_any p0 os0 n0 k0 e0 W l0 (Nat.le_trans wt0 bk0) z0 acts0 hE0).mono fun e W' ⟨he, ho⟩ => ⟨_, he, ?_⟩
  exact law_post laidOut (by kernel_rfl) rfl rfl Tryd.underlying4 hW' rfl rfl rfl ho.below

/-- a world for the witness -/
noncomputable def lw (os : Os) : World := errWorld os [(0, [98, 111, 108, 108, 97, 114, 100, 58, 32, 110, 117, 109, 98, 101, 114])]
theorem met (os : Os) : laidMetH Tryd.prog Rows.wireWritesUptoRow.laid ((lw os).forCall (fun _ _ => 0) ⟨#[], #[.slice none 0 0], []⟩).memory := by
  rw [Go.MakeChecks.laidMetH_plain _ _ _ (by kernel_rfl)]
  exact laidMet_of_run' 8 (by kernel_rfl) (by kernel_rfl)
theorem reads (os : Os) {H : Type} (enc : TypeId × Value → H) : ∃ places, DataW.whole enc Tryd.prog ((lw os).forCall (fun _ _ => 0) ⟨#[], #[.slice none 0 0], []⟩).memory Tryd.f4.params.toList Rows.wireWritesSpec.vars false (#[.slice none 0 0] : Array Value).toList 8 = some ([.nil], [], places) :=
  ⟨[], by kernel_rfl⟩

set_option maxRecDepth 100000 in
theorem lifted (os : Os) (started : os.Started) (H : Type) (enc : TypeId × Value → H) (F : Stop.Interp) :
    ReturnsInHanded {} Tryd.checked os 4 .any ((Rows.OpenSpec.upto Rows.wireWritesSpec).preRow enc Tryd.prog Tryd.f4 Rows.wireWritesUptoRow.domain false Rows.wireWritesUptoRow.laid) (((Rows.OpenSpec.upto Rows.wireWritesSpec).at F).post enc Tryd.prog Tryd.f4 false true false false) := by
  obtain ⟨places, hx⟩ := reads os enc
  refine returnsInHanded_of_row (C := Tryd.checked) (s := (Rows.OpenSpec.upto Rows.wireWritesSpec)) own started (by kernel_rfl) Tryd.func4
    (witness_row_atRef (enc := enc) (C := Tryd.checked) false (lw os) #[.slice none 0 0] rfl (by kernel_rfl) (by kernel_rfl) (by kernel_rfl)
      (OpenSpec.preRow_of_cond 8 hx (by kernel_rfl) (fun k hk => by cases hk; kernel_rfl) (by kernel_rfl) (met os))) ?_
  intro W base args ds gs before hval hW _ hcond hsz hL _ _
  exact contract H enc W base args ds gs before hval hW hsz (of_decide_eq_true (hcond _ rfl)) hL

theorem said : Rows.WireWritesUptoSaid :=
  OpenClaim.holds_of_cond 4 Tryd.f4 rfl rfl rfl rfl rfl rfl rfl ⟨rfl, rfl, rfl, rfl, rfl⟩ rfl rfl rfl rfl rfl (by kernel_rfl) Tryd.func4 (by kernel_rfl)
    (of_decide_eq_true (by kernel_rfl)) (by unfold Func.isWrapper; first | (rw [if_pos (by decide +kernel)]; kernel_rfl) | (rw [if_neg (by decide +kernel)]; exact ⟨rfl, rfl⟩))
    (fun os started H enc _ F => by rw [OpenClaim.pre_eq_preRow]; exact lifted os started H enc F)

theorem plain (f : FuncId) (fn : Func) (hf : Tryd.pinned.checked.prog.funcNamed "bollard/bollardlaw05.WireWrites" = some f) (hfn : Tryd.pinned.checked.prog.funcs[f]? = some fn) :
    true = Tryd.pinned.checked.prog.looks [] ∧ ∀ (j : Nat) t, fn.params[j]? = some t → Tryd.pinned.checked.prog.wantsStandIn t = false := by
  obtain rfl : f = 4 := Option.some.inj ((show Tryd.prog.funcNamed "bollard/bollardlaw05.WireWrites" = some 4 by kernel_rfl).symm.trans hf) |>.symm
  obtain rfl : fn = Tryd.f4 := (Option.some.inj (Tryd.func4.symm.trans hfn)).symm
  refine ⟨by kernel_rfl, fun j t ht => ?_⟩
  have h : (Tryd.f4.params.toList.all fun t => !Tryd.prog.wantsStandIn t) = true := by kernel_rfl
  have := List.all_eq_true.1 h t (by rw [Array.mem_toList_iff]; exact Array.mem_of_getElem? ht)
  have h2 : Tryd.prog.wantsStandIn t = false := by simpa using this
  exact h2
end Go.Proofs.YtkhccchjflmcmaaDoor.wireWritesP
namespace Go.Proofs.YtkhccchjflmcmaaDoor
open Go.RowKit
theorem wireWrites_proved : Rows.WireWritesUptoCardSaid :=
  Claim7.holds_tied_plain_at .later [] _ _ _ _ wireWritesP.said (fun _ h => by cases h) (by kernel_rfl) (fun _ h => by cases h) wireWritesUpto_row_tie rfl ⟨rfl, rfl⟩ (by kernel_rfl) rfl wireWritesP.plain (by kernel_rfl)
end Go.Proofs.YtkhccchjflmcmaaDoor
