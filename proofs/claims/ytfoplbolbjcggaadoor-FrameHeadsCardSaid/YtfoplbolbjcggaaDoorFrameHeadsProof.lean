/- frameHeads: the law returns true for every input; its row's errors are tied to the program's text: no other condition. -/
import Derived.Test.YtfoplbolbjcggaaDoorOpens
import Derived.Test.YtfoplbolbjcggaaDoorErrs
import Derived.Test.YtfoplbolbjcggaaDoorCards
import Derived.Test.YtfoplbolbjcggaaDoorTie
import Derived.Deep.DeepWitnessRowRef
import Derived.Deep.DeepHandedRow
import Derived.Test.YtfoplbolbjcggaaDoorOpenStamp
import Derived.Test.YtfoplbolbjcggaaDoorFrameHeadsW
set_option linter.unusedVariables false
set_option maxRecDepth 100000
namespace Go.Proofs.YtfoplbolbjcggaaDoor.frameHeadsP
open Go.ChangeShapes Go.WideShapes Go.ChangeAt Go.RowKit

def names : List (String × List UInt8) := [("bollard/api.ErrNumber", [98, 111, 108, 108, 97, 114, 100, 58, 32, 110, 117, 109, 98, 101, 114]), ("bollard/api.ErrBytes", [98, 111, 108, 108, 97, 114, 100, 58, 32, 98, 121, 116, 101, 115]), ("bollard/api.ErrDigest", [98, 111, 108, 108, 97, 114, 100, 58, 32, 100, 105, 103, 101, 115, 116]), ("bollard/api.ErrLarge", [98, 111, 108, 108, 97, 114, 100, 58, 32, 108, 97, 114, 103, 101])]
set_option maxRecDepth 100000 in
theorem contract (H : Type) (enc : TypeId × Value → H) (W : World) (base : Nat) (args : Array Value) (ds gs : List (DataW H)) (before : List MemPlace)
    (hval0 : ∀ (j : Nat) t v, Tryd.f12.params[j]? = some t → args[j]? = some v → Value.okWide Tryd.prog W .any base t v)
    (hW : DataW.Whole enc Tryd.prog Tryd.f12.params.toList Rows.frameHeadsSpec.vars false W args.toList ds gs before)
    (hsz0 : (DataW.weightsEach Tryd.prog (Tryd.f12.params.toList ++ Rows.frameHeadsSpec.plain.varTypes Tryd.prog) (ds ++ gs)).all (· ≤ reachBytes) = true)
    (hL : laidMetH Tryd.prog Rows.frameHeadsRow.laid W) :
    Calls Tryd.prog 12 args W fun e W' => ∃ v, e = .returned v ∧ Rows.frameHeadsSpec.post enc Tryd.prog Tryd.f12 false true false false W args v W' := by
  have hval : ∀ (j : Nat) t v, Tryd.f12.params[j]? = some t → args[j]? = some v → Value.okWide Tryd.prog W .any base t v := hval0
  have hW' := hW
  obtain ⟨p, q, hA0, hV, rfl, hfz, hnd0⟩ := hW
  have hA : DataW.TrodAll enc Tryd.prog W 0 (fun _ => true) true Tryd.f12.params.toList args.toList ds p := hA0
  rw [Tryd.params12] at hA hval hsz0
  obtain ⟨v0, vs0, d0, ds0, pp0, q0, hargs, rfl, rfl, h0, r0⟩ := trodAll_cons hA
  obtain ⟨v1, vs1, d1, ds1, pp1, q1, rfl, rfl, rfl, h1, r1⟩ := trodAll_cons r0
  obtain ⟨rfl, rfl, rfl⟩ := trodAll_nil r1
  obtain rfl : args = #[v0, v1] := by cases args; simp_all
  obtain ⟨rfl, rfl⟩ := trodVars_none hV
  have fit0 := fits_arg hsz0 (j := 0) rfl rfl
  obtain ⟨s0, c0_1, c0_2, c0_3, y0_0, y0_1, y0_2, y0_3, m0, rfl, rfl, t0_1, t0_2, t0_3⟩ := open_slip (hval 0 _ v0 rfl rfl) h0
  obtain ⟨p0_1, n0_1, k0_1, xs0_1, rfl, l0_1, b0_1, g0_1, z0_1, rd0_1⟩ := open_bytes Tryd.underlying22 Tryd.underlying5 (by kernel_rfl) (by kernel_rfl) t0_1 (fits_field Tryd.underlying69 fit0 (j := 1) rfl rfl)
  obtain ⟨a0_2, rfl, b0_2⟩ := open_i64 Tryd.underlying3 t0_2
  obtain ⟨x0_3, rfl⟩ := open_u8 Tryd.underlying5 t0_3
  obtain ⟨fu1, t1⟩ := arg_int Tryd.underlying3 (hval 1 _ v1 rfl rfl) h1
  obtain ⟨a1, rfl, b1⟩ := open_i64 Tryd.underlying3 t1
  obtain ⟨az, hlen, hnd, hez⟩ := errs_of_laid names (by rfl) (by kernel_rfl) (by kernel_rfl) hL
  have hla : az.length = 4 := hlen
  obtain ⟨e0, e1, e2, e3, rfl⟩ : ∃ e0 e1 e2 e3, az = [e0, e1, e2, e3] := by
    obtain _ | ⟨e0, az⟩ := az; · simp at hla
    obtain _ | ⟨e1, az⟩ := az; · simp at hla
    obtain _ | ⟨e2, az⟩ := az; · simp at hla
    obtain _ | ⟨e3, az⟩ := az; · simp at hla
    obtain _ | ⟨x, az⟩ := az
    · exact ⟨e0, e1, e2, e3, rfl⟩
    · simp at hla
  have hE0 : ErrAt W 1 e0 := by
    obtain ⟨g, k1, k2⟩ := hez 0 _ e0 rfl rfl
    rw [show Tryd.prog.globalNamed "bollard/api.ErrNumber" = some 1 by kernel_rfl] at k1
    obtain rfl := Option.some.inj k1; exact k2
  have hE1 : ErrAt W 3 e1 := by
    obtain ⟨g, k1, k2⟩ := hez 1 _ e1 rfl rfl
    rw [show Tryd.prog.globalNamed "bollard/api.ErrBytes" = some 3 by kernel_rfl] at k1
    obtain rfl := Option.some.inj k1; exact k2
  have hE2 : ErrAt W 0 e2 := by
    obtain ⟨g, k1, k2⟩ := hez 2 _ e2 rfl rfl
    rw [show Tryd.prog.globalNamed "bollard/api.ErrDigest" = some 0 by kernel_rfl] at k1
    obtain rfl := Option.some.inj k1; exact k2
  have hE3 : ErrAt W 2 e3 := by
    obtain ⟨g, k1, k2⟩ := hez 3 _ e3 rfl rfl
    rw [show Tryd.prog.globalNamed "bollard/api.ErrLarge" = some 2 by kernel_rfl] at k1
    obtain rfl := Option.some.inj k1; exact k2
  refine (frameHeads_any s0 p0_1 xs0_1 n0_1 k0_1 a0_2 x0_3 a1 W l0_1 b0_1 (by have h := g0_1; unfold reachBytes at h; omega) (fun h => ⟨by have := z0_1 h; omega, z0_1 h⟩) rd0_1 b1 e1 e2 hE1 hE2).mono fun e W' ⟨he, ho⟩ => ⟨_, he, ?_⟩
  exact law_post laidOut (by kernel_rfl) rfl rfl Tryd.underlying4 hW' rfl rfl rfl ho.below

/-- a world for the witness -/
noncomputable def lw (os : Os) : World := errWorld os [(1, [98, 111, 108, 108, 97, 114, 100, 58, 32, 110, 117, 109, 98, 101, 114]), (3, [98, 111, 108, 108, 97, 114, 100, 58, 32, 98, 121, 116, 101, 115]), (0, [98, 111, 108, 108, 97, 114, 100, 58, 32, 100, 105, 103, 101, 115, 116]), (2, [98, 111, 108, 108, 97, 114, 100, 58, 32, 108, 97, 114, 103, 101])]
theorem met (os : Os) : laidMetH Tryd.prog Rows.frameHeadsRow.laid ((lw os).forCall (fun _ _ => 0) ⟨#[], #[.agg #[.int .i64 0, .int .i64 0, .int .i64 0, .int .i64 0, .int .i64 0, .slice none 0 0, .int .i64 0, .int .u8 0], .int .i64 0], []⟩).memory := by
  rw [Go.MakeChecks.laidMetH_plain _ _ _ (by kernel_rfl)]
  exact laidMet_of_run' 8 (by kernel_rfl) (by kernel_rfl)
theorem reads (os : Os) {H : Type} (enc : TypeId × Value → H) : ∃ places, DataW.whole enc Tryd.prog ((lw os).forCall (fun _ _ => 0) ⟨#[], #[.agg #[.int .i64 0, .int .i64 0, .int .i64 0, .int .i64 0, .int .i64 0, .slice none 0 0, .int .i64 0, .int .u8 0], .int .i64 0], []⟩).memory Tryd.f12.params.toList Rows.frameHeadsSpec.vars false (#[.agg #[.int .i64 0, .int .i64 0, .int .i64 0, .int .i64 0, .int .i64 0, .slice none 0 0, .int .i64 0, .int .u8 0], .int .i64 0] : Array Value).toList 8 = some ([.agg [.agg [.agg [.lit (.int .i64 0), .lit (.int .i64 0), .lit (.int .i64 0)], .lit (.int .i64 0), .lit (.int .i64 0)], .nil, .lit (.int .i64 0), .lit (.int .u8 0)], .lit (.int .i64 0)], [], places) :=
  ⟨[], by kernel_rfl⟩

set_option maxRecDepth 100000 in
theorem lifted (os : Os) (started : os.Started) (H : Type) (enc : TypeId × Value → H) (F : Stop.Interp) :
    ReturnsInHanded {} Tryd.checked os 12 .any ((OpenSpec.ofChange Rows.frameHeadsSpec).preRow enc Tryd.prog Tryd.f12 Rows.frameHeadsRow.domain false Rows.frameHeadsRow.laid) (((OpenSpec.ofChange Rows.frameHeadsSpec).at F).post enc Tryd.prog Tryd.f12 false true false false) := by
  obtain ⟨places, hx⟩ := reads os enc
  refine returnsInHanded_of_row (C := Tryd.checked) (s := (OpenSpec.ofChange Rows.frameHeadsSpec)) own started (by kernel_rfl) Tryd.func12
    (witness_row_atRef (enc := enc) (C := Tryd.checked) false (lw os) #[.agg #[.int .i64 0, .int .i64 0, .int .i64 0, .int .i64 0, .int .i64 0, .slice none 0 0, .int .i64 0, .int .u8 0], .int .i64 0] rfl (by kernel_rfl) (by kernel_rfl) (by kernel_rfl)
      (OpenSpec.preRow_of_cond 8 hx (by kernel_rfl) (fun k hk => by cases hk) (by kernel_rfl) (met os))) ?_
  intro W base args ds gs before hval hW _ hcond hsz hL _ _
  exact contract H enc W base args ds gs before hval hW hsz hL

theorem said : Rows.FrameHeadsSaid :=
  OpenClaim.holds_of_cond 12 Tryd.f12 rfl rfl rfl rfl rfl rfl rfl ⟨rfl, rfl, rfl, rfl, rfl⟩ rfl rfl rfl rfl rfl (by kernel_rfl) Tryd.func12 (by kernel_rfl)
    (of_decide_eq_true (by kernel_rfl)) (by unfold Func.isWrapper; first | (rw [if_pos (by decide +kernel)]; kernel_rfl) | (rw [if_neg (by decide +kernel)]; exact ⟨rfl, rfl⟩))
    (fun os started H enc _ F => by rw [OpenClaim.pre_eq_preRow]; exact lifted os started H enc F)

theorem plain (f : FuncId) (fn : Func) (hf : Tryd.pinned.checked.prog.funcNamed "bollard/bollardlaw06.FrameHeads" = some f) (hfn : Tryd.pinned.checked.prog.funcs[f]? = some fn) :
    true = Tryd.pinned.checked.prog.looks [] ∧ ∀ (j : Nat) t, fn.params[j]? = some t → Tryd.pinned.checked.prog.wantsStandIn t = false := by
  obtain rfl : f = 12 := Option.some.inj ((show Tryd.prog.funcNamed "bollard/bollardlaw06.FrameHeads" = some 12 by kernel_rfl).symm.trans hf) |>.symm
  obtain rfl : fn = Tryd.f12 := (Option.some.inj (Tryd.func12.symm.trans hfn)).symm
  refine ⟨by kernel_rfl, fun j t ht => ?_⟩
  have h : (Tryd.f12.params.toList.all fun t => !Tryd.prog.wantsStandIn t) = true := by kernel_rfl
  have := List.all_eq_true.1 h t (by rw [Array.mem_toList_iff]; exact Array.mem_of_getElem? ht)
  have h2 : Tryd.prog.wantsStandIn t = false := by simpa using this
  exact h2
end Go.Proofs.YtfoplbolbjcggaaDoor.frameHeadsP
namespace Go.Proofs.YtfoplbolbjcggaaDoor
open Go.RowKit
theorem frameHeads_proved : Rows.FrameHeadsCardSaid :=
  Claim7.holds_tied_plain_at .later [] _ _ _ _ frameHeadsP.said (fun _ h => by cases h) (by kernel_rfl) (fun _ h => by cases h) frameHeads_row_tie rfl ⟨rfl, rfl⟩ (by kernel_rfl) rfl frameHeadsP.plain (by kernel_rfl)
end Go.Proofs.YtfoplbolbjcggaaDoor
