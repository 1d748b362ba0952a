/- wireBack: the law returns true for every input of bulk at most 1048576; its row's errors are tied to the program's text: no other condition. -/
import Derived.Test.YtkhccchjflmcmaaDoorOpenS
import Derived.Test.YtkhccchjflmcmaaDoorErrs
import Derived.Test.YtkhccchjflmcmaaDoorCards
import Derived.Test.YtkhccchjflmcmaaDoorTie
import Derived.Deep.DeepWitnessRowRef
import Derived.Deep.DeepHandedRow
import Derived.Test.YtkhccchjflmcmaaDoorWireBackW
set_option linter.unusedVariables false
namespace Go.Proofs.YtkhccchjflmcmaaDoor.wireBackP
open Go.ChangeShapes Go.WideShapes Go.ChangeAt Go.RowKit

def names : List (String × List UInt8) := [("bollard/api.ErrNumber", [98, 111, 108, 108, 97, 114, 100, 58, 32, 110, 117, 109, 98, 101, 114]), ("bollard/api.ErrBytes", [98, 111, 108, 108, 97, 114, 100, 58, 32, 98, 121, 116, 101, 115])]
theorem contract (H : Type) (enc : TypeId × Value → H) (W : World) (base : Nat) (args : Array Value) (ds gs : List (DataW H)) (before : List MemPlace)
    (hval0 : ∀ (j : Nat) t v, Tryd.f7.params[j]? = some t → args[j]? = some v → Value.okWide Tryd.prog W .any base t v)
    (hW : DataW.Whole enc Tryd.prog Tryd.f7.params.toList Rows.wireBackSpec.vars false W args.toList ds gs before)
    (hsz0 : (DataW.weightsEach Tryd.prog (Tryd.f7.params.toList ++ Rows.wireBackSpec.plain.varTypes Tryd.prog) (ds ++ gs)).all (· ≤ reachBytes) = true)
    (hcnd : Rows.uptoBulkAll (ds ++ gs) ≤ 1048576)
    (hL : laidMetH Tryd.prog Rows.wireBackUptoRow.laid W) :
    Calls Tryd.prog 7 args W fun e W' => ∃ v, e = .returned v ∧ Rows.wireBackSpec.post enc Tryd.prog Tryd.f7 false true false false W args v W' := by
  have hval : ∀ (j : Nat) t v, Tryd.f7.params[j]? = some t → args[j]? = some v → Value.okWide Tryd.prog W .any base t v := hval0
  have hW' := hW
  obtain ⟨p, q, hA0, hV, rfl, hfz, hnd0⟩ := hW
  have hA : DataW.TrodAll enc Tryd.prog W 0 (fun _ => true) true Tryd.f7.params.toList args.toList ds p := hA0
  rw [Tryd.params7] at hA hval hsz0
  obtain ⟨v0, vs0, d0, ds0, pp0, q0, hargs, rfl, rfl, h0, r0⟩ := trodAll_cons hA
  obtain ⟨v1, vs1, d1, ds1, pp1, q1, rfl, rfl, rfl, h1, r1⟩ := trodAll_cons r0
  obtain ⟨rfl, rfl, rfl⟩ := trodAll_nil r1
  obtain rfl : args = #[v0, v1] := by cases args; simp_all
  obtain ⟨rfl, rfl⟩ := trodVars_none hV
  have fit0 := fits_arg hsz0 (j := 0) rfl rfl
  have bk0 : Rows.uptoBulk d0 ≤ 1048576 := Nat.le_trans (bulk_mem (by simp)) hcnd
  obtain ⟨fu0, t0⟩ := arg_slice Tryd.underlying33 (hval 0 _ v0 rfl rfl) h0
  obtain ⟨p0, n0, k0, os0, rfl, l0, b0, g0, z0, wt0, acts0⟩ := open_acts t0 fit0
  obtain ⟨fu1, t1⟩ := arg_int Tryd.underlying3 (hval 1 _ v1 rfl rfl) h1
  obtain ⟨a1, rfl, b1⟩ := open_i64 Tryd.underlying3 t1
  obtain ⟨az, hlen, hnd, hez⟩ := errs_of_laid names (by rfl) (by kernel_rfl) (by kernel_rfl) hL
  have hla : az.length = 2 := hlen
  obtain ⟨e0, e1, rfl⟩ : ∃ e0 e1, az = [e0, e1] := by
    obtain _ | ⟨e0, az⟩ := az; · simp at hla
    obtain _ | ⟨e1, az⟩ := az; · simp at hla
    obtain _ | ⟨x, az⟩ := az
    · exact ⟨e0, e1, rfl⟩
    · simp at hla
  have hE0 : ErrAt W 0 e0 := by
    obtain ⟨g, k1, k2⟩ := hez 0 _ e0 rfl rfl
    rw [show Tryd.prog.globalNamed "bollard/api.ErrNumber" = some 0 by kernel_rfl] at k1
    obtain rfl := Option.some.inj k1; exact k2
  have hE1 : ErrAt W 1 e1 := by
    obtain ⟨g, k1, k2⟩ := hez 1 _ e1 rfl rfl
    rw [show Tryd.prog.globalNamed "bollard/api.ErrBytes" = some 1 by kernel_rfl] at k1
    obtain rfl := Option.some.inj k1; exact k2
  refine (wireBack_any p0 os0 n0 k0 a1 e1 W l0 acts0 (Nat.le_trans wt0 bk0) b1 hE1).mono fun e W' ⟨he, ho⟩ => ⟨_, he, ?_⟩
  exact law_post laidOut (by kernel_rfl) rfl rfl Tryd.underlying4 hW' rfl rfl rfl ho.below

/-- a world for the witness -/
noncomputable def lw (os : Os) : World := errWorld os [(0, [98, 111, 108, 108, 97, 114, 100, 58, 32, 110, 117, 109, 98, 101, 114]), (1, [98, 111, 108, 108, 97, 114, 100, 58, 32, 98, 121, 116, 101, 115])]
theorem met (os : Os) : laidMetH Tryd.prog Rows.wireBackUptoRow.laid ((lw os).forCall (fun _ _ => 0) ⟨#[], #[.slice none 0 0, .int .i64 0], []⟩).memory := by
  rw [Go.MakeChecks.laidMetH_plain _ _ _ (by kernel_rfl)]
  exact laidMet_of_run' 8 (by kernel_rfl) (by kernel_rfl)
theorem reads (os : Os) {H : Type} (enc : TypeId × Value → H) : ∃ places, DataW.whole enc Tryd.prog ((lw os).forCall (fun _ _ => 0) ⟨#[], #[.slice none 0 0, .int .i64 0], []⟩).memory Tryd.f7.params.toList Rows.wireBackSpec.vars false (#[.slice none 0 0, .int .i64 0] : Array Value).toList 8 = some ([.nil, .lit (.int .i64 0)], [], places) :=
  ⟨[], by kernel_rfl⟩

set_option maxRecDepth 100000 in
theorem lifted (os : Os) (started : os.Started) (H : Type) (enc : TypeId × Value → H) (F : Stop.Interp) :
    ReturnsInHanded {} Tryd.checked os 7 .any ((Rows.OpenSpec.upto Rows.wireBackSpec).preRow enc Tryd.prog Tryd.f7 Rows.wireBackUptoRow.domain false Rows.wireBackUptoRow.laid) (((Rows.OpenSpec.upto Rows.wireBackSpec).at F).post enc Tryd.prog Tryd.f7 false true false false) := by
  obtain ⟨places, hx⟩ := reads os enc
  refine returnsInHanded_of_row (C := Tryd.checked) (s := (Rows.OpenSpec.upto Rows.wireBackSpec)) own started (by kernel_rfl) Tryd.func7
    (witness_row_atRef (enc := enc) (C := Tryd.checked) false (lw os) #[.slice none 0 0, .int .i64 0] rfl (by kernel_rfl) (by kernel_rfl) (by kernel_rfl)
      (OpenSpec.preRow_of_cond 8 hx (by kernel_rfl) (fun k hk => by cases hk; kernel_rfl) (by kernel_rfl) (met os))) ?_
  intro W base args ds gs before hval hW _ hcond hsz hL _ _
  exact contract H enc W base args ds gs before hval hW hsz (of_decide_eq_true (hcond _ rfl)) hL

theorem said : Rows.WireBackUptoSaid :=
  OpenClaim.holds_of_cond 7 Tryd.f7 rfl rfl rfl rfl rfl rfl rfl ⟨rfl, rfl, rfl, rfl, rfl⟩ rfl rfl rfl rfl rfl (by kernel_rfl) Tryd.func7 (by kernel_rfl)
    (of_decide_eq_true (by kernel_rfl)) (by unfold Func.isWrapper; first | (rw [if_pos (by decide +kernel)]; kernel_rfl) | (rw [if_neg (by decide +kernel)]; exact ⟨rfl, rfl⟩))
    (fun os started H enc _ F => by rw [OpenClaim.pre_eq_preRow]; exact lifted os started H enc F)

theorem plain (f : FuncId) (fn : Func) (hf : Tryd.pinned.checked.prog.funcNamed "bollard/bollardlaw05.WireBack" = some f) (hfn : Tryd.pinned.checked.prog.funcs[f]? = some fn) :
    true = Tryd.pinned.checked.prog.looks [] ∧ ∀ (j : Nat) t, fn.params[j]? = some t → Tryd.pinned.checked.prog.wantsStandIn t = false := by
  obtain rfl : f = 7 := Option.some.inj ((show Tryd.prog.funcNamed "bollard/bollardlaw05.WireBack" = some 7 by kernel_rfl).symm.trans hf) |>.symm
  obtain rfl : fn = Tryd.f7 := (Option.some.inj (Tryd.func7.symm.trans hfn)).symm
  refine ⟨by kernel_rfl, fun j t ht => ?_⟩
  have h : (Tryd.f7.params.toList.all fun t => !Tryd.prog.wantsStandIn t) = true := by kernel_rfl
  have := List.all_eq_true.1 h t (by rw [Array.mem_toList_iff]; exact Array.mem_of_getElem? ht)
  have h2 : Tryd.prog.wantsStandIn t = false := by simpa using this
  exact h2
end Go.Proofs.YtkhccchjflmcmaaDoor.wireBackP
namespace Go.Proofs.YtkhccchjflmcmaaDoor
open Go.RowKit
theorem wireBack_proved : Rows.WireBackUptoCardSaid :=
  Claim7.holds_tied_plain_at .later [] _ _ _ _ wireBackP.said (fun _ h => by cases h) (by kernel_rfl) (fun _ h => by cases h) wireBackUpto_row_tie rfl ⟨rfl, rfl⟩ (by kernel_rfl) rfl wireBackP.plain (by kernel_rfl)
end Go.Proofs.YtkhccchjflmcmaaDoor
