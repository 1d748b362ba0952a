/- listPages: the law returns true for every input; its row's errors are tied to the program's text: no other condition. -/
import Derived.Test.YtfoplbolbjcggaaDoorOpens
import Derived.Test.YtfoplbolbjcggaaDoorErrs
import Derived.Test.YtfoplbolbjcggaaDoorCards
import Derived.Test.YtfoplbolbjcggaaDoorTie
import Derived.Deep.DeepWitnessRowRef
import Derived.Deep.DeepHandedRow
import Derived.Test.YtfoplbolbjcggaaDoorKeysOpen
import Derived.Test.YtfoplbolbjcggaaDoorOpenAgg5
set_option linter.unusedVariables false
set_option maxRecDepth 100000
namespace Go.Proofs.YtfoplbolbjcggaaDoor.listPagesP
open Go.ChangeShapes Go.WideShapes Go.ChangeAt Go.RowKit

def names : List (String × List UInt8) := [("bollard/api.ErrParams", [98, 111, 108, 108, 97, 114, 100, 58, 32, 112, 97, 114, 97, 109, 115]), ("bollard/api.ErrNumber", [98, 111, 108, 108, 97, 114, 100, 58, 32, 110, 117, 109, 98, 101, 114]), ("bollard/api.ErrData", [98, 111, 108, 108, 97, 114, 100, 58, 32, 100, 97, 116, 97]), ("bollard/api.ErrLost", [98, 111, 108, 108, 97, 114, 100, 58, 32, 108, 111, 115, 116]), ("bollard/api.ErrBytes", [98, 111, 108, 108, 97, 114, 100, 58, 32, 98, 121, 116, 101, 115]), ("bollard/api.ErrDigest", [98, 111, 108, 108, 97, 114, 100, 58, 32, 100, 105, 103, 101, 115, 116]), ("bollard/api.ErrName", [98, 111, 108, 108, 97, 114, 100, 58, 32, 110, 97, 109, 101]), ("bollard/api.ErrGone", [98, 111, 108, 108, 97, 114, 100, 58, 32, 103, 111, 110, 101]), ("bollard/api.ErrThere", [98, 111, 108, 108, 97, 114, 100, 58, 32, 116, 104, 101, 114, 101]), ("bollard/api.ErrFull", [98, 111, 108, 108, 97, 114, 100, 58, 32, 102, 117, 108, 108]), ("bollard/api.ErrLarge", [98, 111, 108, 108, 97, 114, 100, 58, 32, 108, 97, 114, 103, 101]), ("bollard/api.ErrBallot", [98, 111, 108, 108, 97, 114, 100, 58, 32, 98, 97, 108, 108, 111, 116]), ("bollard/api.ErrRequest", [98, 111, 108, 108, 97, 114, 100, 58, 32, 114, 101, 113, 117, 101, 115, 116]), ("bollard/api.ErrUri", [98, 111, 108, 108, 97, 114, 100, 58, 32, 117, 114, 105]), ("bollard/api.ErrDenied", [98, 111, 108, 108, 97, 114, 100, 58, 32, 100, 101, 110, 105, 101, 100]), ("bollard/api.ErrSkew", [98, 111, 108, 108, 97, 114, 100, 58, 32, 115, 107, 101, 119]), ("bollard/api.ErrMethod", [98, 111, 108, 108, 97, 114, 100, 58, 32, 109, 101, 116, 104, 111, 100]), ("bollard/api.ErrState", [98, 111, 108, 108, 97, 114, 100, 58, 32, 115, 116, 97, 116, 101])]
set_option maxRecDepth 100000 in
theorem contract (H : Type) (enc : TypeId × Value → H) (W : World) (base : Nat) (args : Array Value) (ds gs : List (DataW H)) (before : List MemPlace)
    (hval0 : ∀ (j : Nat) t v, Tryd.f5.params[j]? = some t → args[j]? = some v → Value.okWide Tryd.prog W .any base t v)
    (hW : DataW.Whole enc Tryd.prog Tryd.f5.params.toList Rows.listPagesSpec.vars false W args.toList ds gs before)
    (hsz0 : (DataW.weightsEach Tryd.prog (Tryd.f5.params.toList ++ Rows.listPagesSpec.plain.varTypes Tryd.prog) (ds ++ gs)).all (· ≤ reachBytes) = true)
    (hL : laidMetH Tryd.prog Rows.listPagesRow.laid W) (hsh : W.ShapedOpen Tryd.prog) :
    Calls Tryd.prog 5 args W fun e W' => ∃ v, e = .returned v ∧ Rows.listPagesSpec.post enc Tryd.prog Tryd.f5 false true false false W args v W' := by
  have hval : ∀ (j : Nat) t v, Tryd.f5.params[j]? = some t → args[j]? = some v → Value.okWide Tryd.prog W .any base t v := hval0
  have hW' := hW
  obtain ⟨p, q, hA0, hV, rfl, hfz, hnd0⟩ := hW
  have hA : DataW.TrodAll enc Tryd.prog W 0 (fun _ => true) true Tryd.f5.params.toList args.toList ds p := hA0
  rw [Tryd.params5] at hA hval hsz0
  obtain ⟨v0, vs0, d0, ds0, pp0, q0, hargs, rfl, rfl, h0, r0⟩ := trodAll_cons hA
  obtain ⟨rfl, rfl, rfl⟩ := trodAll_nil r0
  obtain rfl : args = #[v0] := by cases args; simp_all
  obtain ⟨rfl, rfl⟩ := trodVars_none hV
  have fit0 := fits_arg hsz0 (j := 0) rfl rfl
  obtain ⟨c0_0, c0_1, c0_2, c0_3, c0_4, y0_0, y0_1, y0_2, y0_3, y0_4, m0, rfl, rfl, rfl, t0_0, t0_1, t0_2, t0_3, t0_4⟩ := open_agg5 Tryd.underlying35 (by kernel_rfl) (by kernel_rfl) (hval 0 _ v0 rfl rfl) h0
  obtain ⟨p0_0, n0_0, k0_0, os0_0, rfl, l0_0, b0_0, g0_0, z0_0, wt0_0, acts0_0⟩ := open_strs t0_0 (fits_field Tryd.underlying35 fit0 (j := 0) rfl rfl)
  obtain ⟨xs0_1, rfl, l0_1, wt0_1⟩ := open_str Tryd.underlying9 t0_1 (fits_field Tryd.underlying35 fit0 (j := 1) rfl rfl)
  obtain ⟨xs0_2, rfl, l0_2, wt0_2⟩ := open_str Tryd.underlying9 t0_2 (fits_field Tryd.underlying35 fit0 (j := 2) rfl rfl)
  obtain ⟨xs0_3, rfl, l0_3, wt0_3⟩ := open_str Tryd.underlying9 t0_3 (fits_field Tryd.underlying35 fit0 (j := 3) rfl rfl)
  obtain ⟨a0_4, rfl, b0_4⟩ := open_i64 Tryd.underlying3 t0_4
  obtain ⟨az, hlen, hnd, hez⟩ := errs_of_laid names (by rfl) (by kernel_rfl) (by kernel_rfl) hL
  have hla : az.length = 18 := hlen
  obtain ⟨e0, e1, e2, e3, e4, e5, e6, e7, e8, e9, e10, e11, e12, e13, e14, e15, e16, e17, rfl⟩ : ∃ e0 e1 e2 e3 e4 e5 e6 e7 e8 e9 e10 e11 e12 e13 e14 e15 e16 e17, az = [e0, e1, e2, e3, e4, e5, e6, e7, e8, e9, e10, e11, e12, e13, e14, e15, e16, e17] := by
    obtain _ | ⟨e0, az⟩ := az; · simp at hla
    obtain _ | ⟨e1, az⟩ := az; · simp at hla
    obtain _ | ⟨e2, az⟩ := az; · simp at hla
    obtain _ | ⟨e3, az⟩ := az; · simp at hla
    obtain _ | ⟨e4, az⟩ := az; · simp at hla
    obtain _ | ⟨e5, az⟩ := az; · simp at hla
    obtain _ | ⟨e6, az⟩ := az; · simp at hla
    obtain _ | ⟨e7, az⟩ := az; · simp at hla
    obtain _ | ⟨e8, az⟩ := az; · simp at hla
    obtain _ | ⟨e9, az⟩ := az; · simp at hla
    obtain _ | ⟨e10, az⟩ := az; · simp at hla
    obtain _ | ⟨e11, az⟩ := az; · simp at hla
    obtain _ | ⟨e12, az⟩ := az; · simp at hla
    obtain _ | ⟨e13, az⟩ := az; · simp at hla
    obtain _ | ⟨e14, az⟩ := az; · simp at hla
    obtain _ | ⟨e15, az⟩ := az; · simp at hla
    obtain _ | ⟨e16, az⟩ := az; · simp at hla
    obtain _ | ⟨e17, az⟩ := az; · simp at hla
    obtain _ | ⟨x, az⟩ := az
    · exact ⟨e0, e1, e2, e3, e4, e5, e6, e7, e8, e9, e10, e11, e12, e13, e14, e15, e16, e17, rfl⟩
    · simp at hla
  have hE0 : ErrAt W 5 e0 := by
    obtain ⟨g, k1, k2⟩ := hez 0 _ e0 rfl rfl
    rw [show Tryd.prog.globalNamed "bollard/api.ErrParams" = some 5 by kernel_rfl] at k1
    obtain rfl := Option.some.inj k1; exact k2
  have hE1 : ErrAt W 1 e1 := by
    obtain ⟨g, k1, k2⟩ := hez 1 _ e1 rfl rfl
    rw [show Tryd.prog.globalNamed "bollard/api.ErrNumber" = some 1 by kernel_rfl] at k1
    obtain rfl := Option.some.inj k1; exact k2
  have hE2 : ErrAt W 4 e2 := by
    obtain ⟨g, k1, k2⟩ := hez 2 _ e2 rfl rfl
    rw [show Tryd.prog.globalNamed "bollard/api.ErrData" = some 4 by kernel_rfl] at k1
    obtain rfl := Option.some.inj k1; exact k2
  have hE3 : ErrAt W 6 e3 := by
    obtain ⟨g, k1, k2⟩ := hez 3 _ e3 rfl rfl
    rw [show Tryd.prog.globalNamed "bollard/api.ErrLost" = some 6 by kernel_rfl] at k1
    obtain rfl := Option.some.inj k1; exact k2
  have hE4 : ErrAt W 3 e4 := by
    obtain ⟨g, k1, k2⟩ := hez 4 _ e4 rfl rfl
    rw [show Tryd.prog.globalNamed "bollard/api.ErrBytes" = some 3 by kernel_rfl] at k1
    obtain rfl := Option.some.inj k1; exact k2
  have hE5 : ErrAt W 0 e5 := by
    obtain ⟨g, k1, k2⟩ := hez 5 _ e5 rfl rfl
    rw [show Tryd.prog.globalNamed "bollard/api.ErrDigest" = some 0 by kernel_rfl] at k1
    obtain rfl := Option.some.inj k1; exact k2
  have hE6 : ErrAt W 7 e6 := by
    obtain ⟨g, k1, k2⟩ := hez 6 _ e6 rfl rfl
    rw [show Tryd.prog.globalNamed "bollard/api.ErrName" = some 7 by kernel_rfl] at k1
    obtain rfl := Option.some.inj k1; exact k2
  have hE7 : ErrAt W 8 e7 := by
    obtain ⟨g, k1, k2⟩ := hez 7 _ e7 rfl rfl
    rw [show Tryd.prog.globalNamed "bollard/api.ErrGone" = some 8 by kernel_rfl] at k1
    obtain rfl := Option.some.inj k1; exact k2
  have hE8 : ErrAt W 9 e8 := by
    obtain ⟨g, k1, k2⟩ := hez 8 _ e8 rfl rfl
    rw [show Tryd.prog.globalNamed "bollard/api.ErrThere" = some 9 by kernel_rfl] at k1
    obtain rfl := Option.some.inj k1; exact k2
  have hE9 : ErrAt W 10 e9 := by
    obtain ⟨g, k1, k2⟩ := hez 9 _ e9 rfl rfl
    rw [show Tryd.prog.globalNamed "bollard/api.ErrFull" = some 10 by kernel_rfl] at k1
    obtain rfl := Option.some.inj k1; exact k2
  have hE10 : ErrAt W 2 e10 := by
    obtain ⟨g, k1, k2⟩ := hez 10 _ e10 rfl rfl
    rw [show Tryd.prog.globalNamed "bollard/api.ErrLarge" = some 2 by kernel_rfl] at k1
    obtain rfl := Option.some.inj k1; exact k2
  have hE11 : ErrAt W 11 e11 := by
    obtain ⟨g, k1, k2⟩ := hez 11 _ e11 rfl rfl
    rw [show Tryd.prog.globalNamed "bollard/api.ErrBallot" = some 11 by kernel_rfl] at k1
    obtain rfl := Option.some.inj k1; exact k2
  have hE12 : ErrAt W 12 e12 := by
    obtain ⟨g, k1, k2⟩ := hez 12 _ e12 rfl rfl
    rw [show Tryd.prog.globalNamed "bollard/api.ErrRequest" = some 12 by kernel_rfl] at k1
    obtain rfl := Option.some.inj k1; exact k2
  have hE13 : ErrAt W 13 e13 := by
    obtain ⟨g, k1, k2⟩ := hez 13 _ e13 rfl rfl
    rw [show Tryd.prog.globalNamed "bollard/api.ErrUri" = some 13 by kernel_rfl] at k1
    obtain rfl := Option.some.inj k1; exact k2
  have hE14 : ErrAt W 14 e14 := by
    obtain ⟨g, k1, k2⟩ := hez 14 _ e14 rfl rfl
    rw [show Tryd.prog.globalNamed "bollard/api.ErrDenied" = some 14 by kernel_rfl] at k1
    obtain rfl := Option.some.inj k1; exact k2
  have hE15 : ErrAt W 15 e15 := by
    obtain ⟨g, k1, k2⟩ := hez 15 _ e15 rfl rfl
    rw [show Tryd.prog.globalNamed "bollard/api.ErrSkew" = some 15 by kernel_rfl] at k1
    obtain rfl := Option.some.inj k1; exact k2
  have hE16 : ErrAt W 16 e16 := by
    obtain ⟨g, k1, k2⟩ := hez 16 _ e16 rfl rfl
    rw [show Tryd.prog.globalNamed "bollard/api.ErrMethod" = some 16 by kernel_rfl] at k1
    obtain rfl := Option.some.inj k1; exact k2
  have hE17 : ErrAt W 17 e17 := by
    obtain ⟨g, k1, k2⟩ := hez 17 _ e17 rfl rfl
    rw [show Tryd.prog.globalNamed "bollard/api.ErrState" = some 17 by kernel_rfl] at k1
    obtain rfl := Option.some.inj k1; exact k2
  have hall : ErrAll W [e0, e1, e2, e3, e4, e5, e6, e7, e8, e9, e10, e11, e12, e13, e14, e15, e16, e17] := errAll_of rfl hnd ⟨hE0, ⟨hE1, ⟨hE2, ⟨hE3, ⟨hE4, ⟨hE5, ⟨hE6, ⟨hE7, ⟨hE8, ⟨hE9, ⟨hE10, ⟨hE11, ⟨hE12, ⟨hE13, ⟨hE14, ⟨hE15, ⟨hE16, ⟨hE17, trivial⟩⟩⟩⟩⟩⟩⟩⟩⟩⟩⟩⟩⟩⟩⟩⟩⟩⟩
  obtain ⟨mx, hmx⟩ := maxLen_shaped hsh
  refine (listPages_any p0_0 os0_0 n0_0 k0_0 xs0_1 xs0_2 xs0_3 a0_4 W l0_0 b0_0 (by have h1 := b0_0; have h2 := g0_0; unfold reachBytes at h2; omega) acts0_0.len z0_0 acts0_0.rd l0_1 l0_2 l0_3 mx hmx _ hall).mono fun e W' ⟨he, ho⟩ => ⟨_, he, ?_⟩
  exact law_post laidOut (by kernel_rfl) rfl rfl Tryd.underlying4 hW' rfl rfl rfl ho.below

/-- a world for the witness -/
noncomputable def lw (os : Os) : World := errWorld os [(5, [98, 111, 108, 108, 97, 114, 100, 58, 32, 112, 97, 114, 97, 109, 115]), (1, [98, 111, 108, 108, 97, 114, 100, 58, 32, 110, 117, 109, 98, 101, 114]), (4, [98, 111, 108, 108, 97, 114, 100, 58, 32, 100, 97, 116, 97]), (6, [98, 111, 108, 108, 97, 114, 100, 58, 32, 108, 111, 115, 116]), (3, [98, 111, 108, 108, 97, 114, 100, 58, 32, 98, 121, 116, 101, 115]), (0, [98, 111, 108, 108, 97, 114, 100, 58, 32, 100, 105, 103, 101, 115, 116]), (7, [98, 111, 108, 108, 97, 114, 100, 58, 32, 110, 97, 109, 101]), (8, [98, 111, 108, 108, 97, 114, 100, 58, 32, 103, 111, 110, 101]), (9, [98, 111, 108, 108, 97, 114, 100, 58, 32, 116, 104, 101, 114, 101]), (10, [98, 111, 108, 108, 97, 114, 100, 58, 32, 102, 117, 108, 108]), (2, [98, 111, 108, 108, 97, 114, 100, 58, 32, 108, 97, 114, 103, 101]), (11, [98, 111, 108, 108, 97, 114, 100, 58, 32, 98, 97, 108, 108, 111, 116]), (12, [98, 111, 108, 108, 97, 114, 100, 58, 32, 114, 101, 113, 117, 101, 115, 116]), (13, [98, 111, 108, 108, 97, 114, 100, 58, 32, 117, 114, 105]), (14, [98, 111, 108, 108, 97, 114, 100, 58, 32, 100, 101, 110, 105, 101, 100]), (15, [98, 111, 108, 108, 97, 114, 100, 58, 32, 115, 107, 101, 119]), (16, [98, 111, 108, 108, 97, 114, 100, 58, 32, 109, 101, 116, 104, 111, 100]), (17, [98, 111, 108, 108, 97, 114, 100, 58, 32, 115, 116, 97, 116, 101])]
theorem met (os : Os) : laidMetH Tryd.prog Rows.listPagesRow.laid ((lw os).forCall (fun _ _ => 0) ⟨#[], #[.agg #[.slice none 0 0, .string ⟨#[]⟩, .string ⟨#[]⟩, .string ⟨#[]⟩, .int .i64 0]], []⟩).memory := by
  rw [Go.MakeChecks.laidMetH_plain _ _ _ (by kernel_rfl)]
  exact laidMet_of_run' 8 (by kernel_rfl) (by kernel_rfl)
theorem reads (os : Os) {H : Type} (enc : TypeId × Value → H) : ∃ places, DataW.whole enc Tryd.prog ((lw os).forCall (fun _ _ => 0) ⟨#[], #[.agg #[.slice none 0 0, .string ⟨#[]⟩, .string ⟨#[]⟩, .string ⟨#[]⟩, .int .i64 0]], []⟩).memory Tryd.f5.params.toList Rows.listPagesSpec.vars false (#[.agg #[.slice none 0 0, .string ⟨#[]⟩, .string ⟨#[]⟩, .string ⟨#[]⟩, .int .i64 0]] : Array Value).toList 8 = some ([.agg [.nil, .lit (.string []), .lit (.string []), .lit (.string []), .lit (.int .i64 0)]], [], places) :=
  ⟨[], by kernel_rfl⟩

set_option maxRecDepth 100000 in
theorem lifted (os : Os) (started : os.Started) (H : Type) (enc : TypeId × Value → H) (F : Stop.Interp) :
    ReturnsInHanded {} Tryd.checked os 5 .any ((OpenSpec.ofChange Rows.listPagesSpec).preRow enc Tryd.prog Tryd.f5 Rows.listPagesRow.domain false Rows.listPagesRow.laid) (((OpenSpec.ofChange Rows.listPagesSpec).at F).post enc Tryd.prog Tryd.f5 false true false false) := by
  obtain ⟨places, hx⟩ := reads os enc
  refine returnsInHanded_of_row (C := Tryd.checked) (s := (OpenSpec.ofChange Rows.listPagesSpec)) own started (by kernel_rfl) Tryd.func5
    (witness_row_atRef (enc := enc) (C := Tryd.checked) false (lw os) #[.agg #[.slice none 0 0, .string ⟨#[]⟩, .string ⟨#[]⟩, .string ⟨#[]⟩, .int .i64 0]] rfl (by kernel_rfl) (by kernel_rfl) (by kernel_rfl)
      (OpenSpec.preRow_of_cond 8 hx (by kernel_rfl) (fun k hk => by cases hk) (by kernel_rfl) (met os))) ?_
  intro W base args ds gs before hval hW _ hcond hsz hL hsh _
  exact contract H enc W base args ds gs before hval hW hsz hL hsh

theorem said : Rows.ListPagesSaid :=
  OpenClaim.holds_of_cond 5 Tryd.f5 rfl rfl rfl rfl rfl rfl rfl ⟨rfl, rfl, rfl, rfl, rfl⟩ rfl rfl rfl rfl rfl (by kernel_rfl) Tryd.func5 (by kernel_rfl)
    (of_decide_eq_true (by kernel_rfl)) (by unfold Func.isWrapper; first | (rw [if_pos (by decide +kernel)]; kernel_rfl) | (rw [if_neg (by decide +kernel)]; exact ⟨rfl, rfl⟩))
    (fun os started H enc _ F => by rw [OpenClaim.pre_eq_preRow]; exact lifted os started H enc F)

theorem plain (f : FuncId) (fn : Func) (hf : Tryd.pinned.checked.prog.funcNamed "bollard/bollardlaw20.ListPages" = some f) (hfn : Tryd.pinned.checked.prog.funcs[f]? = some fn) :
    true = Tryd.pinned.checked.prog.looks [] ∧ ∀ (j : Nat) t, fn.params[j]? = some t → Tryd.pinned.checked.prog.wantsStandIn t = false := by
  obtain rfl : f = 5 := Option.some.inj ((show Tryd.prog.funcNamed "bollard/bollardlaw20.ListPages" = some 5 by kernel_rfl).symm.trans hf) |>.symm
  obtain rfl : fn = Tryd.f5 := (Option.some.inj (Tryd.func5.symm.trans hfn)).symm
  refine ⟨by kernel_rfl, fun j t ht => ?_⟩
  have h : (Tryd.f5.params.toList.all fun t => !Tryd.prog.wantsStandIn t) = true := by kernel_rfl
  have := List.all_eq_true.1 h t (by rw [Array.mem_toList_iff]; exact Array.mem_of_getElem? ht)
  have h2 : Tryd.prog.wantsStandIn t = false := by simpa using this
  exact h2
end Go.Proofs.YtfoplbolbjcggaaDoor.listPagesP
namespace Go.Proofs.YtfoplbolbjcggaaDoor
open Go.RowKit
theorem listPages_proved : Rows.ListPagesCardSaid :=
  Claim7.holds_tied_plain_at .later [] _ _ _ _ listPagesP.said (fun _ h => by cases h) (by kernel_rfl) (fun _ h => by cases h) listPages_row_tie rfl ⟨rfl, rfl⟩ (by kernel_rfl) rfl listPagesP.plain (by kernel_rfl)
end Go.Proofs.YtfoplbolbjcggaaDoor
