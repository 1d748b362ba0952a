/- GrwPk, part 46: LedgerGrowsProof. -/
import Derived.Test.YtfeglnpmpgipiaaGreatDoorGrwPk02
import Derived.Test.YtfeglnpmpgipiaaGreatDoorGrwPk03
import Derived.Test.YtfeglnpmpgipiaaGreatDoorGrwPk04
import Derived.Test.YtfeglnpmpgipiaaGreatDoorGrwPk38
import Derived.Test.YtfeglnpmpgipiaaGreatDoorGrwPk45
import Derived.Test.YtfeglnpmpgipiaaGreatDoorCards
import Derived.Test.YtfeglnpmpgipiaaGreatDoorTie
import Derived.Deep.DeepWitnessRowRef
import Derived.Deep.DeepHandedRow
set_option linter.unusedVariables false
set_option maxRecDepth 100000
set_option linter.unusedSimpArgs false
namespace Go.Proofs.YtfeglnpmpgipiaaGreatDoor
end Go.Proofs.YtfeglnpmpgipiaaGreatDoor
section
set_option linter.unusedVariables false
set_option maxRecDepth 100000
namespace Go.Proofs.YtfeglnpmpgipiaaGreatDoor.ledgerGrowsP
open Go.ChangeShapes Go.WideShapes Go.ChangeAt Go.RowKit
set_option maxRecDepth 100000 in
theorem contract (H:Type) (enc:TypeId × Value→H) (W:World) (base:Nat) (args:Array Value) (ds gs:List (DataW H)) (before:List MemPlace)
  (hval0:∀ (j:Nat) t v,Tryz.f12.params[j]?=some t→args[j]?=some v→Value.okWide Tryz.prog W .any base t v)
  (hW:DataW.Whole enc Tryz.prog Tryz.f12.params.toList Rows.ledgerGrowsSpec.vars false W args.toList ds gs before)
  (hsz0:(DataW.weightsEach Tryz.prog (Tryz.f12.params.toList ++ Rows.ledgerGrowsSpec.plain.varTypes Tryz.prog) (ds ++ gs)).all (·≤reachBytes)=true)
  (hL:laidMetH Tryz.prog Rows.ledgerGrowsRow.laid W) :
  Calls Tryz.prog 12 args W fun e W'=>∃ v,e=.returned v∧Rows.ledgerGrowsSpec.post enc Tryz.prog Tryz.f12 false true false false W args v W':=by
 have hval:∀ (j:Nat) t v,Tryz.f12.params[j]?=some t→args[j]?=some v→Value.okWide Tryz.prog W .any base t v:=hval0;have hW':=hW;obtain ⟨p,q,hA0,hV,rfl,hfz,hnd0⟩:=hW;have hA:DataW.TrodAll enc Tryz.prog W 0 (fun _=>true) true Tryz.f12.params.toList args.toList ds p:=hA0;rw [Tryz.params12] at hA hval hsz0;obtain ⟨v0,vs0,d0,ds0,pp0,q0,hargs,rfl,rfl,h0,r0⟩:=trodAll_cons hA;obtain ⟨v1,vs1,d1,ds1,pp1,q1,rfl,rfl,rfl,h1,r1⟩:=trodAll_cons r0;obtain ⟨rfl,rfl,rfl⟩:=trodAll_nil r1;obtain rfl:args=#[v0,v1]:=(by cases args;simp_all);obtain ⟨rfl,rfl⟩:=trodVars_none hV
 have fit0:=zFE hsz0 (j:=0) rfl rfl;have fit1:=zFE hsz0 (j:=1) rfl rfl;obtain ⟨fu0,t0⟩:=zEI Tryz.underlying22 (hval 0 _ v0 rfl rfl) h0;obtain ⟨p0,n0,k0,os0,rfl,l0,b0,g0,z0,wt0,acts0⟩:=zHS t0 fit0;obtain ⟨fu1,t1⟩:=zEI Tryz.underlying34 (hval 1 _ v1 rfl rfl) h1;obtain ⟨p1,n1,k1,os1,rfl,l1,b1,g1,z1,wt1,acts1⟩:=open_ints t1 fit1;refine (zEY p0 n0 k0 os0 p1 n1 k1 os1 W l0 (by have h9:reachBytes≤140737488355328:=(by decide);omega) acts0.1 acts0.2 l1 acts1.1).mono fun e W' ⟨he,ho⟩=>⟨_,he,?_⟩;exact zIb laidOut (by kernel_rfl) rfl rfl Tryz.underlying4 hW' rfl rfl rfl ho.below
noncomputable def lw (os:Os):World:=zHe os [(3,[.int .u8 0,.int .u8 1,.int .u8 28,.int .u8 2,.int .u8 29,.int .u8 14,.int .u8 24,.int .u8 3,.int .u8 30,.int .u8 22,.int .u8 20,.int .u8 15,.int .u8 25,.int .u8 17,.int .u8 4,.int .u8 8,.int .u8 31,.int .u8 27,.int .u8 13,.int .u8 23,.int .u8 21,.int .u8 19,.int .u8 16,.int .u8 7,.int .u8 26,.int .u8 12,.int .u8 18,.int .u8 6,.int .u8 11,.int .u8 5,.int .u8 10,.int .u8 9]),(4,[.int .u8 0,.int .u8 1,.int .u8 56,.int .u8 2,.int .u8 57,.int .u8 49,.int .u8 28,.int .u8 3,.int .u8 61,.int .u8 58,.int .u8 42,.int .u8 50,.int .u8 38,.int .u8 29,.int .u8 17,.int .u8 4,.int .u8 62,.int .u8 47,.int .u8 59,.int .u8 36,.int .u8 45,.int .u8 43,.int .u8 51,.int .u8 22,.int .u8 53,.int .u8 39,.int .u8 33,.int .u8 30,.int .u8 24,.int .u8 18,.int .u8 12,.int .u8 5,.int .u8 63,.int .u8 55,.int .u8 48,.int .u8 27,.int .u8 60,.int .u8 41,.int .u8 37,.int .u8 16,.int .u8 46,.int .u8 35,.int .u8 44,.int .u8 21,.int .u8 52,.int .u8 32,.int .u8 23,.int .u8 11,.int .u8 54,.int .u8 26,.int .u8 40,.int .u8 15,.int .u8 34,.int .u8 20,.int .u8 31,.int .u8 10,.int .u8 25,.int .u8 14,.int .u8 19,.int .u8 9,.int .u8 13,.int .u8 8,.int .u8 7,.int .u8 6]),(2,[.int .u64 1,.int .u64 10,.int .u64 100,.int .u64 1000,.int .u64 10000,.int .u64 100000,.int .u64 1000000,.int .u64 10000000,.int .u64 100000000,.int .u64 1000000000,.int .u64 10000000000,.int .u64 100000000000,.int .u64 1000000000000,.int .u64 10000000000000,.int .u64 100000000000000,.int .u64 1000000000000000,.int .u64 10000000000000000,.int .u64 100000000000000000,.int .u64 1000000000000000000,.int .u64 10000000000000000000])] [(0,[98,111,108,108,97,114,100,58,32,103,111,110,101]),(1,[98,111,108,108,97,114,100,58,32,102,117,108,108])]
theorem met (os:Os):laidMetH Tryz.prog Rows.ledgerGrowsRow.laid ((lw os).forCall (fun _ _=>0) ⟨#[],#[.slice none 0 0,.slice none 0 0],[]⟩).memory:=by
 rw [Go.MakeChecks.laidMetH_plain _ _ _ (by kernel_rfl)];exact laidMet_of_run' 8 (by kernel_rfl) (by kernel_rfl)
theorem reads (os:Os) {H:Type} (enc:TypeId × Value→H):∃ places,DataW.whole enc Tryz.prog ((lw os).forCall (fun _ _=>0) ⟨#[],#[.slice none 0 0,.slice none 0 0],[]⟩).memory Tryz.f12.params.toList Rows.ledgerGrowsSpec.vars false (#[.slice none 0 0,.slice none 0 0]:Array Value).toList 8=some ([.nil,.nil],[],places) :=
 ⟨[],by kernel_rfl⟩
set_option maxRecDepth 100000 in
theorem lifted (os:Os) (started:os.Started) (H:Type) (enc:TypeId × Value→H) (F:Stop.Interp) :
  ReturnsInHanded {} Tryz.checked os 12 .any ((OpenSpec.ofChange Rows.ledgerGrowsSpec).preRow enc Tryz.prog Tryz.f12 Rows.ledgerGrowsRow.domain false Rows.ledgerGrowsRow.laid) (((OpenSpec.ofChange Rows.ledgerGrowsSpec).at F).post enc Tryz.prog Tryz.f12 false true false false):=by
 obtain ⟨places,hx⟩:=reads os enc
 refine returnsInHanded_of_row (C:=Tryz.checked) (s:=(OpenSpec.ofChange Rows.ledgerGrowsSpec)) own started (by kernel_rfl) Tryz.func12
  (witness_row_atRef (enc:=enc) (C:=Tryz.checked) false (lw os) #[.slice none 0 0,.slice none 0 0] rfl (by kernel_rfl) (by kernel_rfl) (by kernel_rfl)
   (OpenSpec.preRow_of_cond 8 hx (by kernel_rfl) (fun k hk=>by cases hk) (by kernel_rfl) (met os))) ?_
 intro W base args ds gs before hval hW _ hcond hsz hL _ _;exact contract H enc W base args ds gs before hval hW hsz hL
theorem said:Rows.LedgerGrowsSaid :=
 OpenClaim.holds_of_cond 12 Tryz.f12 rfl rfl rfl rfl rfl rfl rfl ⟨rfl,rfl,rfl,rfl,rfl⟩ rfl rfl rfl rfl rfl (by kernel_rfl) Tryz.func12 (by kernel_rfl)
  (of_decide_eq_true (by kernel_rfl)) (by unfold Func.isWrapper;first | (rw [if_pos (by decide +kernel)];kernel_rfl) | (rw [if_neg (by decide +kernel)];exact ⟨rfl,rfl⟩))
  (fun os started H enc _ F=>by rw [OpenClaim.pre_eq_preRow];exact lifted os started H enc F)
theorem plain (f : FuncId) (fn : Func) (hf : Tryz.pinned.checked.prog.funcNamed "bollard/bollardlaw12.LedgerGrows" = some f) (hfn : Tryz.pinned.checked.prog.funcs[f]? = some fn) :
  true=Tryz.pinned.checked.prog.looks []∧∀ (j:Nat) t,fn.params[j]?=some t→Tryz.pinned.checked.prog.wantsStandIn t=false:=by
 obtain rfl : f = 12 := Option.some.inj ((show Tryz.prog.funcNamed "bollard/bollardlaw12.LedgerGrows" = some 12 by kernel_rfl).symm.trans hf) |>.symm; obtain rfl : fn = Tryz.f12 := (Option.some.inj (Tryz.func12.symm.trans hfn)).symm; refine ⟨by kernel_rfl, fun j t ht => ?_⟩; have h : (Tryz.f12.params.toList.all fun t => !Tryz.prog.wantsStandIn t) = true := (by kernel_rfl); have := List.all_eq_true.1 h t (by rw [Array.mem_toList_iff]; exact Array.mem_of_getElem? ht); have h2 : Tryz.prog.wantsStandIn t = false := (by simpa using this); exact h2
end Go.Proofs.YtfeglnpmpgipiaaGreatDoor.ledgerGrowsP
namespace Go.Proofs.YtfeglnpmpgipiaaGreatDoor
open Go.RowKit
theorem ledgerGrows_proved:Rows.LedgerGrowsCardSaid :=
 Claim7.holds_tied_plain_at .later [] _ _ _ _ ledgerGrowsP.said (fun _ h=>by cases h) (by kernel_rfl) (fun _ h=>by cases h) ledgerGrows_row_tie rfl ⟨rfl,rfl⟩ (by kernel_rfl) rfl ledgerGrowsP.plain (by kernel_rfl)
end Go.Proofs.YtfeglnpmpgipiaaGreatDoor
end
namespace Go.Proofs.YtfeglnpmpgipiaaGreatDoor
end Go.Proofs.YtfeglnpmpgipiaaGreatDoor
