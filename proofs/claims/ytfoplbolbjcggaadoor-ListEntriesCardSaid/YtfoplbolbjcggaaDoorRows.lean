/-
  NARROWER THAN 'FOR EVERY INPUT', by the rows' own cells (each row's printed sentence says how): FrameBlocks: laid · FrameWhole: laid · ListPages: laid · ListEntries: laid · ListChains: laid · ListCovers: laid · ListGrows: laid · FrameSlips: laid · FramePuts: laid · FrameHeads: laid · HealShards: laid · HealDecodes: laid.
  DERIVED. THE GIVEN ROWS OF THIS SEAT. 12 by the template 'for every input the law returns true; each argument reads behind the call as it read before'; 0 by the template 'total and deterministic' (their statements: YtfoplbolbjcggaaDoorTotals.lean).
  GIVEN WITH THE SEED: the statements are not yours to turn. If you find one false, say at which input.
  Laid BY PROGRAM, IN A SANDBOX (cutbox-rows.mjs): the forced cells as the released guide's own fill.sh prints them over the translation 0c92a1d0e5849159… (all of the seat's roots in one cut). By AI agents, Wed Nov 11 2026. No macro, syntax, notation, axiom, sorry.
-/
import Derived.Test.YtfoplbolbjcggaaDoorChecked
import GoSem.Claim
import GoSem.ClaimJoined
import GoSem.ClaimMapViews
import Derived.JoinedTies
import Derived.KernelRfl
namespace Go.Proofs.YtfoplbolbjcggaaDoor
/- THE CELL 'sum', in the pinned program and in every row, IS THE sha256 OF THE DUMP (.gsa) THAT YtfoplbolbjcggaaDoorProg.lean LOADS. Nothing in Lean hashes anything: it is a label: what it is worth is what the hold of that sum in a sandbox is worth. -/
noncomputable def Tryd.pinned : Pinned := { name := "ytfoplbolbjcggaadoor", sum := "0c92a1d0e5849159b3cca8659e7b9293d8749bd5340e3708da912e3fee750d54", checked := Tryd.checked }
namespace Rows
def none {H : Type} : Left H := { results := [], args := [] }

/- WHAT THE LISTED PACKAGE-LEVEL VARIABLES READ AS WHEN THE CALL BEGINS. Each datum BY PROGRAM (the guide's laid-datum.mjs) off the statement by which the dump's own 'gosem.cut.vars' lays the variable. In a bare row this is a premise. The card (YtfoplbolbjcggaaDoorCards.lean) ties it to the program's text. -/
def laid_bollard_api_ErrNumber {H : Type} : DataW H := .iface "*errors.errorString" (.ptr (.agg [.lit (.string [98, 111, 108, 108, 97, 114, 100, 58, 32, 110, 117, 109, 98, 101, 114])]))
def laid_bollard_api_ErrLarge {H : Type} : DataW H := .iface "*errors.errorString" (.ptr (.agg [.lit (.string [98, 111, 108, 108, 97, 114, 100, 58, 32, 108, 97, 114, 103, 101])]))
def laid_bollard_api_ErrParams {H : Type} : DataW H := .iface "*errors.errorString" (.ptr (.agg [.lit (.string [98, 111, 108, 108, 97, 114, 100, 58, 32, 112, 97, 114, 97, 109, 115])]))
def laid_bollard_api_ErrData {H : Type} : DataW H := .iface "*errors.errorString" (.ptr (.agg [.lit (.string [98, 111, 108, 108, 97, 114, 100, 58, 32, 100, 97, 116, 97])]))
def laid_bollard_api_ErrLost {H : Type} : DataW H := .iface "*errors.errorString" (.ptr (.agg [.lit (.string [98, 111, 108, 108, 97, 114, 100, 58, 32, 108, 111, 115, 116])]))
def laid_bollard_api_ErrBytes {H : Type} : DataW H := .iface "*errors.errorString" (.ptr (.agg [.lit (.string [98, 111, 108, 108, 97, 114, 100, 58, 32, 98, 121, 116, 101, 115])]))
def laid_bollard_api_ErrDigest {H : Type} : DataW H := .iface "*errors.errorString" (.ptr (.agg [.lit (.string [98, 111, 108, 108, 97, 114, 100, 58, 32, 100, 105, 103, 101, 115, 116])]))
def laid_bollard_api_ErrName {H : Type} : DataW H := .iface "*errors.errorString" (.ptr (.agg [.lit (.string [98, 111, 108, 108, 97, 114, 100, 58, 32, 110, 97, 109, 101])]))
def laid_bollard_api_ErrGone {H : Type} : DataW H := .iface "*errors.errorString" (.ptr (.agg [.lit (.string [98, 111, 108, 108, 97, 114, 100, 58, 32, 103, 111, 110, 101])]))
def laid_bollard_api_ErrThere {H : Type} : DataW H := .iface "*errors.errorString" (.ptr (.agg [.lit (.string [98, 111, 108, 108, 97, 114, 100, 58, 32, 116, 104, 101, 114, 101])]))
def laid_bollard_api_ErrFull {H : Type} : DataW H := .iface "*errors.errorString" (.ptr (.agg [.lit (.string [98, 111, 108, 108, 97, 114, 100, 58, 32, 102, 117, 108, 108])]))
def laid_bollard_api_ErrBallot {H : Type} : DataW H := .iface "*errors.errorString" (.ptr (.agg [.lit (.string [98, 111, 108, 108, 97, 114, 100, 58, 32, 98, 97, 108, 108, 111, 116])]))
def laid_bollard_api_ErrRequest {H : Type} : DataW H := .iface "*errors.errorString" (.ptr (.agg [.lit (.string [98, 111, 108, 108, 97, 114, 100, 58, 32, 114, 101, 113, 117, 101, 115, 116])]))
def laid_bollard_api_ErrUri {H : Type} : DataW H := .iface "*errors.errorString" (.ptr (.agg [.lit (.string [98, 111, 108, 108, 97, 114, 100, 58, 32, 117, 114, 105])]))
def laid_bollard_api_ErrDenied {H : Type} : DataW H := .iface "*errors.errorString" (.ptr (.agg [.lit (.string [98, 111, 108, 108, 97, 114, 100, 58, 32, 100, 101, 110, 105, 101, 100])]))
def laid_bollard_api_ErrSkew {H : Type} : DataW H := .iface "*errors.errorString" (.ptr (.agg [.lit (.string [98, 111, 108, 108, 97, 114, 100, 58, 32, 115, 107, 101, 119])]))
def laid_bollard_api_ErrMethod {H : Type} : DataW H := .iface "*errors.errorString" (.ptr (.agg [.lit (.string [98, 111, 108, 108, 97, 114, 100, 58, 32, 109, 101, 116, 104, 111, 100])]))
def laid_bollard_api_ErrState {H : Type} : DataW H := .iface "*errors.errorString" (.ptr (.agg [.lit (.string [98, 111, 108, 108, 97, 114, 100, 58, 32, 115, 116, 97, 116, 101])]))

/-- 'bollardlaw06.FrameBlocks': WHATEVER THE INPUT: true; the input reads as it did. -/
def frameBlocksSpec : ChangeSpec := { name := "frameBlocks", fn := fun _ => fun
  | [d1, d2] => { results := [.lit (.bool true)], args := [d1, d2] }
  | _ => none }
def frameBlocksRow : OpenClaim := { program := "ytfoplbolbjcggaadoor", sum := "0c92a1d0e5849159b3cca8659e7b9293d8749bd5340e3708da912e3fee750d54", func := "bollard/bollardlaw06.FrameBlocks", spec := "frameBlocks", unfollowed := true, recurses := true, named := ["bollard/api.ErrNumber", "bollard/api.ErrLarge"], plainKeys := false, apart := false, laid := [("bollard/api.ErrNumber", laid_bollard_api_ErrNumber), ("bollard/api.ErrLarge", laid_bollard_api_ErrLarge)] }
def FrameBlocksSaid : Prop := frameBlocksRow.holds Tryd.pinned (OpenSpec.ofChange frameBlocksSpec)

/-- ITS FALSE NEIGHBOUR: 'it returns false'. Refute it at one input. -/
def frameBlocksWrong : ChangeSpec := { name := "frameBlocks", fn := fun _ => fun
  | [d1, d2] => { results := [.lit (.bool false)], args := [d1, d2] }
  | _ => none }
def FrameBlocksWrongFalsely : Prop := frameBlocksRow.holds Tryd.pinned (OpenSpec.ofChange frameBlocksWrong)

/-- 'bollardlaw06.FrameWhole': WHATEVER THE INPUT: true; the input reads as it did. -/
def frameWholeSpec : ChangeSpec := { name := "frameWhole", fn := fun _ => fun
  | [d] => { results := [.lit (.bool true)], args := [d] }
  | _ => none }
def frameWholeRow : OpenClaim := { program := "ytfoplbolbjcggaadoor", sum := "0c92a1d0e5849159b3cca8659e7b9293d8749bd5340e3708da912e3fee750d54", func := "bollard/bollardlaw06.FrameWhole", spec := "frameWhole", unfollowed := true, recurses := true, named := ["bollard/api.ErrNumber", "bollard/api.ErrLarge"], plainKeys := false, apart := false, laid := [("bollard/api.ErrNumber", laid_bollard_api_ErrNumber), ("bollard/api.ErrLarge", laid_bollard_api_ErrLarge)] }
def FrameWholeSaid : Prop := frameWholeRow.holds Tryd.pinned (OpenSpec.ofChange frameWholeSpec)

/-- ITS FALSE NEIGHBOUR: 'it returns false'. Refute it at one input. -/
def frameWholeWrong : ChangeSpec := { name := "frameWhole", fn := fun _ => fun
  | [d] => { results := [.lit (.bool false)], args := [d] }
  | _ => none }
def FrameWholeWrongFalsely : Prop := frameWholeRow.holds Tryd.pinned (OpenSpec.ofChange frameWholeWrong)

/-- 'bollardlaw20.ListPages': WHATEVER THE INPUT: true; the input reads as it did. -/
def listPagesSpec : ChangeSpec := { name := "listPages", fn := fun _ => fun
  | [d] => { results := [.lit (.bool true)], args := [d] }
  | _ => none }
def listPagesRow : OpenClaim := { program := "ytfoplbolbjcggaadoor", sum := "0c92a1d0e5849159b3cca8659e7b9293d8749bd5340e3708da912e3fee750d54", func := "bollard/bollardlaw20.ListPages", spec := "listPages", inPlace := ["internal/bytealg.IndexByteString", "internal/bytealg.IndexString", "internal/abi.NoEscape"], unfollowed := true, recurses := true, named := ["bollard/api.ErrNumber", "bollard/api.ErrData", "internal/bytealg.MaxLen", "bollard/api.ErrParams", "bollard/api.ErrLost", "bollard/api.ErrBytes", "bollard/api.ErrDigest", "bollard/api.ErrName", "bollard/api.ErrGone", "bollard/api.ErrThere", "bollard/api.ErrFull", "bollard/api.ErrLarge", "bollard/api.ErrBallot", "bollard/api.ErrRequest", "bollard/api.ErrUri", "bollard/api.ErrDenied", "bollard/api.ErrSkew", "bollard/api.ErrMethod", "bollard/api.ErrState"], plainKeys := false, apart := false, laid := [("bollard/api.ErrParams", laid_bollard_api_ErrParams), ("bollard/api.ErrNumber", laid_bollard_api_ErrNumber), ("bollard/api.ErrData", laid_bollard_api_ErrData), ("bollard/api.ErrLost", laid_bollard_api_ErrLost), ("bollard/api.ErrBytes", laid_bollard_api_ErrBytes), ("bollard/api.ErrDigest", laid_bollard_api_ErrDigest), ("bollard/api.ErrName", laid_bollard_api_ErrName), ("bollard/api.ErrGone", laid_bollard_api_ErrGone), ("bollard/api.ErrThere", laid_bollard_api_ErrThere), ("bollard/api.ErrFull", laid_bollard_api_ErrFull), ("bollard/api.ErrLarge", laid_bollard_api_ErrLarge), ("bollard/api.ErrBallot", laid_bollard_api_ErrBallot), ("bollard/api.ErrRequest", laid_bollard_api_ErrRequest), ("bollard/api.ErrUri", laid_bollard_api_ErrUri), ("bollard/api.ErrDenied", laid_bollard_api_ErrDenied), ("bollard/api.ErrSkew", laid_bollard_api_ErrSkew), ("bollard/api.ErrMethod", laid_bollard_api_ErrMethod), ("bollard/api.ErrState", laid_bollard_api_ErrState)] }
def ListPagesSaid : Prop := listPagesRow.holds Tryd.pinned (OpenSpec.ofChange listPagesSpec)

/-- ITS FALSE NEIGHBOUR: 'it returns false'. Refute it at one input. -/
def listPagesWrong : ChangeSpec := { name := "listPages", fn := fun _ => fun
  | [d] => { results := [.lit (.bool false)], args := [d] }
  | _ => none }
def ListPagesWrongFalsely : Prop := listPagesRow.holds Tryd.pinned (OpenSpec.ofChange listPagesWrong)

/-- 'bollardlaw20.ListEntries': WHATEVER THE INPUT: true; the input reads as it did. -/
def listEntriesSpec : ChangeSpec := { name := "listEntries", fn := fun _ => fun
  | [d1, d2] => { results := [.lit (.bool true)], args := [d1, d2] }
  | _ => none }
def listEntriesRow : OpenClaim := { program := "ytfoplbolbjcggaadoor", sum := "0c92a1d0e5849159b3cca8659e7b9293d8749bd5340e3708da912e3fee750d54", func := "bollard/bollardlaw20.ListEntries", spec := "listEntries", inPlace := ["internal/bytealg.IndexByteString", "internal/bytealg.IndexString", "internal/abi.NoEscape"], unfollowed := true, recurses := true, named := ["bollard/api.ErrNumber", "bollard/api.ErrData", "internal/bytealg.MaxLen"], plainKeys := false, apart := false, laid := [("bollard/api.ErrNumber", laid_bollard_api_ErrNumber), ("bollard/api.ErrData", laid_bollard_api_ErrData)] }
def ListEntriesSaid : Prop := listEntriesRow.holds Tryd.pinned (OpenSpec.ofChange listEntriesSpec)

/-- ITS FALSE NEIGHBOUR: 'it returns false'. Refute it at one input. -/
def listEntriesWrong : ChangeSpec := { name := "listEntries", fn := fun _ => fun
  | [d1, d2] => { results := [.lit (.bool false)], args := [d1, d2] }
  | _ => none }
def ListEntriesWrongFalsely : Prop := listEntriesRow.holds Tryd.pinned (OpenSpec.ofChange listEntriesWrong)

/-- 'bollardlaw20.ListChains': WHATEVER THE INPUT: true; the input reads as it did. -/
def listChainsSpec : ChangeSpec := { name := "listChains", fn := fun _ => fun
  | [d] => { results := [.lit (.bool true)], args := [d] }
  | _ => none }
def listChainsRow : OpenClaim := { program := "ytfoplbolbjcggaadoor", sum := "0c92a1d0e5849159b3cca8659e7b9293d8749bd5340e3708da912e3fee750d54", func := "bollard/bollardlaw20.ListChains", spec := "listChains", inPlace := ["internal/bytealg.IndexByteString", "internal/bytealg.IndexString", "internal/abi.NoEscape"], unfollowed := true, recurses := true, named := ["bollard/api.ErrNumber", "bollard/api.ErrData", "internal/bytealg.MaxLen"], plainKeys := false, apart := false, laid := [("bollard/api.ErrNumber", laid_bollard_api_ErrNumber), ("bollard/api.ErrData", laid_bollard_api_ErrData)] }
def ListChainsSaid : Prop := listChainsRow.holds Tryd.pinned (OpenSpec.ofChange listChainsSpec)

/-- ITS FALSE NEIGHBOUR: 'it returns false'. Refute it at one input. -/
def listChainsWrong : ChangeSpec := { name := "listChains", fn := fun _ => fun
  | [d] => { results := [.lit (.bool false)], args := [d] }
  | _ => none }
def ListChainsWrongFalsely : Prop := listChainsRow.holds Tryd.pinned (OpenSpec.ofChange listChainsWrong)

/-- 'bollardlaw20.ListCovers': WHATEVER THE INPUT: true; the input reads as it did. -/
def listCoversSpec : ChangeSpec := { name := "listCovers", fn := fun _ => fun
  | [d] => { results := [.lit (.bool true)], args := [d] }
  | _ => none }
def listCoversRow : OpenClaim := { program := "ytfoplbolbjcggaadoor", sum := "0c92a1d0e5849159b3cca8659e7b9293d8749bd5340e3708da912e3fee750d54", func := "bollard/bollardlaw20.ListCovers", spec := "listCovers", inPlace := ["internal/bytealg.IndexByteString", "internal/bytealg.IndexString", "internal/abi.NoEscape"], unfollowed := true, recurses := true, named := ["bollard/api.ErrNumber", "bollard/api.ErrData", "internal/bytealg.MaxLen"], plainKeys := false, apart := false, laid := [("bollard/api.ErrNumber", laid_bollard_api_ErrNumber), ("bollard/api.ErrData", laid_bollard_api_ErrData)] }
def ListCoversSaid : Prop := listCoversRow.holds Tryd.pinned (OpenSpec.ofChange listCoversSpec)

/-- ITS FALSE NEIGHBOUR: 'it returns false'. Refute it at one input. -/
def listCoversWrong : ChangeSpec := { name := "listCovers", fn := fun _ => fun
  | [d] => { results := [.lit (.bool false)], args := [d] }
  | _ => none }
def ListCoversWrongFalsely : Prop := listCoversRow.holds Tryd.pinned (OpenSpec.ofChange listCoversWrong)

/-- 'bollardlaw20.ListGrows': WHATEVER THE INPUT: true; the input reads as it did. -/
def listGrowsSpec : ChangeSpec := { name := "listGrows", fn := fun _ => fun
  | [d1, d2, d3] => { results := [.lit (.bool true)], args := [d1, d2, d3] }
  | _ => none }
def listGrowsRow : OpenClaim := { program := "ytfoplbolbjcggaadoor", sum := "0c92a1d0e5849159b3cca8659e7b9293d8749bd5340e3708da912e3fee750d54", func := "bollard/bollardlaw20.ListGrows", spec := "listGrows", inPlace := ["internal/bytealg.IndexByteString", "internal/bytealg.IndexString", "internal/abi.NoEscape"], unfollowed := true, recurses := true, named := ["bollard/api.ErrNumber", "bollard/api.ErrData", "internal/bytealg.MaxLen"], plainKeys := false, apart := false, laid := [("bollard/api.ErrNumber", laid_bollard_api_ErrNumber), ("bollard/api.ErrData", laid_bollard_api_ErrData)] }
def ListGrowsSaid : Prop := listGrowsRow.holds Tryd.pinned (OpenSpec.ofChange listGrowsSpec)

/-- ITS FALSE NEIGHBOUR: 'it returns false'. Refute it at one input. -/
def listGrowsWrong : ChangeSpec := { name := "listGrows", fn := fun _ => fun
  | [d1, d2, d3] => { results := [.lit (.bool false)], args := [d1, d2, d3] }
  | _ => none }
def ListGrowsWrongFalsely : Prop := listGrowsRow.holds Tryd.pinned (OpenSpec.ofChange listGrowsWrong)

/-- 'bollardlaw06.FrameSlips': WHATEVER THE INPUT: true; the input reads as it did. -/
def frameSlipsSpec : ChangeSpec := { name := "frameSlips", fn := fun _ => fun
  | [d] => { results := [.lit (.bool true)], args := [d] }
  | _ => none }
def frameSlipsRow : OpenClaim := { program := "ytfoplbolbjcggaadoor", sum := "0c92a1d0e5849159b3cca8659e7b9293d8749bd5340e3708da912e3fee750d54", func := "bollard/bollardlaw06.FrameSlips", spec := "frameSlips", unfollowed := true, recurses := true, named := ["bollard/api.ErrDigest", "bollard/api.ErrNumber", "bollard/api.ErrLarge", "bollard/api.ErrBytes"], plainKeys := false, apart := false, laid := [("bollard/api.ErrNumber", laid_bollard_api_ErrNumber), ("bollard/api.ErrBytes", laid_bollard_api_ErrBytes), ("bollard/api.ErrDigest", laid_bollard_api_ErrDigest), ("bollard/api.ErrLarge", laid_bollard_api_ErrLarge)] }
def FrameSlipsSaid : Prop := frameSlipsRow.holds Tryd.pinned (OpenSpec.ofChange frameSlipsSpec)

/-- ITS FALSE NEIGHBOUR: 'it returns false'. Refute it at one input. -/
def frameSlipsWrong : ChangeSpec := { name := "frameSlips", fn := fun _ => fun
  | [d] => { results := [.lit (.bool false)], args := [d] }
  | _ => none }
def FrameSlipsWrongFalsely : Prop := frameSlipsRow.holds Tryd.pinned (OpenSpec.ofChange frameSlipsWrong)

/-- 'bollardlaw06.FramePuts': WHATEVER THE INPUT: true; the input reads as it did. -/
def framePutsSpec : ChangeSpec := { name := "framePuts", fn := fun _ => fun
  | [d1, d2] => { results := [.lit (.bool true)], args := [d1, d2] }
  | _ => none }
def framePutsRow : OpenClaim := { program := "ytfoplbolbjcggaadoor", sum := "0c92a1d0e5849159b3cca8659e7b9293d8749bd5340e3708da912e3fee750d54", func := "bollard/bollardlaw06.FramePuts", spec := "framePuts", unfollowed := true, recurses := true, named := ["bollard/api.ErrNumber", "bollard/api.ErrLarge", "bollard/api.ErrBytes", "bollard/api.ErrDigest"], plainKeys := false, apart := false, laid := [("bollard/api.ErrNumber", laid_bollard_api_ErrNumber), ("bollard/api.ErrBytes", laid_bollard_api_ErrBytes), ("bollard/api.ErrDigest", laid_bollard_api_ErrDigest), ("bollard/api.ErrLarge", laid_bollard_api_ErrLarge)] }
def FramePutsSaid : Prop := framePutsRow.holds Tryd.pinned (OpenSpec.ofChange framePutsSpec)

/-- ITS FALSE NEIGHBOUR: 'it returns false'. Refute it at one input. -/
def framePutsWrong : ChangeSpec := { name := "framePuts", fn := fun _ => fun
  | [d1, d2] => { results := [.lit (.bool false)], args := [d1, d2] }
  | _ => none }
def FramePutsWrongFalsely : Prop := framePutsRow.holds Tryd.pinned (OpenSpec.ofChange framePutsWrong)

/-- 'bollardlaw06.FrameHeads': WHATEVER THE INPUT: true; the input reads as it did. -/
def frameHeadsSpec : ChangeSpec := { name := "frameHeads", fn := fun _ => fun
  | [d1, d2] => { results := [.lit (.bool true)], args := [d1, d2] }
  | _ => none }
def frameHeadsRow : OpenClaim := { program := "ytfoplbolbjcggaadoor", sum := "0c92a1d0e5849159b3cca8659e7b9293d8749bd5340e3708da912e3fee750d54", func := "bollard/bollardlaw06.FrameHeads", spec := "frameHeads", unfollowed := true, recurses := true, named := ["bollard/api.ErrBytes", "bollard/api.ErrNumber", "bollard/api.ErrLarge", "bollard/api.ErrDigest"], plainKeys := false, apart := false, laid := [("bollard/api.ErrNumber", laid_bollard_api_ErrNumber), ("bollard/api.ErrBytes", laid_bollard_api_ErrBytes), ("bollard/api.ErrDigest", laid_bollard_api_ErrDigest), ("bollard/api.ErrLarge", laid_bollard_api_ErrLarge)] }
def FrameHeadsSaid : Prop := frameHeadsRow.holds Tryd.pinned (OpenSpec.ofChange frameHeadsSpec)

/-- ITS FALSE NEIGHBOUR: 'it returns false'. Refute it at one input. -/
def frameHeadsWrong : ChangeSpec := { name := "frameHeads", fn := fun _ => fun
  | [d1, d2] => { results := [.lit (.bool false)], args := [d1, d2] }
  | _ => none }
def FrameHeadsWrongFalsely : Prop := frameHeadsRow.holds Tryd.pinned (OpenSpec.ofChange frameHeadsWrong)

/-- 'bollardlaw22.HealShards': WHATEVER THE INPUT: true; the input reads as it did. -/
def healShardsSpec : ChangeSpec := { name := "healShards", fn := fun _ => fun
  | [d] => { results := [.lit (.bool true)], args := [d] }
  | _ => none }
def healShardsRow : OpenClaim := { program := "ytfoplbolbjcggaadoor", sum := "0c92a1d0e5849159b3cca8659e7b9293d8749bd5340e3708da912e3fee750d54", func := "bollard/bollardlaw22.HealShards", spec := "healShards", unfollowed := true, recurses := true, named := ["bollard/api.ErrNumber", "bollard/api.ErrLarge", "bollard/api.ErrParams", "bollard/api.ErrBytes", "bollard/api.ErrDigest"], plainKeys := false, apart := false, laid := [("bollard/api.ErrParams", laid_bollard_api_ErrParams), ("bollard/api.ErrNumber", laid_bollard_api_ErrNumber), ("bollard/api.ErrBytes", laid_bollard_api_ErrBytes), ("bollard/api.ErrDigest", laid_bollard_api_ErrDigest), ("bollard/api.ErrLarge", laid_bollard_api_ErrLarge)] }
def HealShardsSaid : Prop := healShardsRow.holds Tryd.pinned (OpenSpec.ofChange healShardsSpec)

/-- ITS FALSE NEIGHBOUR: 'it returns false'. Refute it at one input. -/
def healShardsWrong : ChangeSpec := { name := "healShards", fn := fun _ => fun
  | [d] => { results := [.lit (.bool false)], args := [d] }
  | _ => none }
def HealShardsWrongFalsely : Prop := healShardsRow.holds Tryd.pinned (OpenSpec.ofChange healShardsWrong)

/-- 'bollardlaw22.HealDecodes': WHATEVER THE INPUT: true; the input reads as it did. -/
def healDecodesSpec : ChangeSpec := { name := "healDecodes", fn := fun _ => fun
  | [d] => { results := [.lit (.bool true)], args := [d] }
  | _ => none }
def healDecodesRow : OpenClaim := { program := "ytfoplbolbjcggaadoor", sum := "0c92a1d0e5849159b3cca8659e7b9293d8749bd5340e3708da912e3fee750d54", func := "bollard/bollardlaw22.HealDecodes", spec := "healDecodes", unfollowed := true, recurses := true, named := ["bollard/api.ErrNumber", "bollard/api.ErrLarge", "bollard/api.ErrParams", "bollard/api.ErrBytes", "bollard/api.ErrDigest", "bollard/api.ErrData"], plainKeys := false, apart := false, laid := [("bollard/api.ErrParams", laid_bollard_api_ErrParams), ("bollard/api.ErrNumber", laid_bollard_api_ErrNumber), ("bollard/api.ErrData", laid_bollard_api_ErrData), ("bollard/api.ErrBytes", laid_bollard_api_ErrBytes), ("bollard/api.ErrDigest", laid_bollard_api_ErrDigest), ("bollard/api.ErrLarge", laid_bollard_api_ErrLarge)] }
def HealDecodesSaid : Prop := healDecodesRow.holds Tryd.pinned (OpenSpec.ofChange healDecodesSpec)

/-- ITS FALSE NEIGHBOUR: 'it returns false'. Refute it at one input. -/
def healDecodesWrong : ChangeSpec := { name := "healDecodes", fn := fun _ => fun
  | [d] => { results := [.lit (.bool false)], args := [d] }
  | _ => none }
def HealDecodesWrongFalsely : Prop := healDecodesRow.holds Tryd.pinned (OpenSpec.ofChange healDecodesWrong)

/- THE SECOND FORM. 'bulk': how many values and letters a reading holds, each counted each time it is reached (what is shared counts as often as it is met; a slice's spare places count too). A statement '..UptoSaid' is the law's where the arguments, and the package variables that the reading takes, are together of bulk at most 1048576: NARROWER than '..Said'. Prove '..Said' where nothing that the law and all that it calls make is longer than what came in: it says more and counts as full. Else prove '..UptoSaid'. A law counts once. -/
mutual
def uptoBulk {H : Type} : DataW H → Nat
  | .lit (.string bytes) => bytes.length + 1
  | .lit _ => 1
  | .nil => 1
  | .ptr d => uptoBulk d + 1
  | .slice elems spare => uptoBulkAll elems + uptoBulkAll spare + 1
  | .agg parts => uptoBulkAll parts + 1
  | .iface _ d => uptoBulk d + 1
  | .map entries => uptoBulkEntries entries + 1
  | .held _ => 1
def uptoBulkAll {H : Type} : List (DataW H) → Nat
  | [] => 0
  | d :: r => uptoBulk d + uptoBulkAll r
def uptoBulkEntries {H : Type} : List (Lit × DataW H) → Nat
  | [] => 0
  | x :: r => uptoBulkEntry x + uptoBulkEntries r
def uptoBulkEntry {H : Type} : Lit × DataW H → Nat
  | (.string bytes, d) => bytes.length + uptoBulk d + 1
  | (_, d) => uptoBulk d + 1
 end
def uptoSmall : (H : Type) → List (DataW H) → Bool := fun _ ds => decide (uptoBulkAll ds ≤ 1048576)
def OpenSpec.upto (s : _root_.Go.ChangeSpec) : _root_.Go.OpenSpec := { _root_.Go.OpenSpec.ofChange s with cond := some uptoSmall }

/-- 'bollardlaw06.FrameBlocks', WHERE WHAT IT READS IS OF BULK AT MOST 1048576: true; the input reads as it did. -/
def frameBlocksUptoRow : OpenClaim := { program := "ytfoplbolbjcggaadoor", sum := "0c92a1d0e5849159b3cca8659e7b9293d8749bd5340e3708da912e3fee750d54", func := "bollard/bollardlaw06.FrameBlocks", spec := "frameBlocks", unfollowed := true, recurses := true, named := ["bollard/api.ErrNumber", "bollard/api.ErrLarge"], plainKeys := false, apart := false, laid := [("bollard/api.ErrNumber", laid_bollard_api_ErrNumber), ("bollard/api.ErrLarge", laid_bollard_api_ErrLarge)], narrowed := true }
def FrameBlocksUptoSaid : Prop := frameBlocksUptoRow.holds Tryd.pinned (OpenSpec.upto frameBlocksSpec)

/-- 'bollardlaw06.FrameWhole', WHERE WHAT IT READS IS OF BULK AT MOST 1048576: true; the input reads as it did. -/
def frameWholeUptoRow : OpenClaim := { program := "ytfoplbolbjcggaadoor", sum := "0c92a1d0e5849159b3cca8659e7b9293d8749bd5340e3708da912e3fee750d54", func := "bollard/bollardlaw06.FrameWhole", spec := "frameWhole", unfollowed := true, recurses := true, named := ["bollard/api.ErrNumber", "bollard/api.ErrLarge"], plainKeys := false, apart := false, laid := [("bollard/api.ErrNumber", laid_bollard_api_ErrNumber), ("bollard/api.ErrLarge", laid_bollard_api_ErrLarge)], narrowed := true }
def FrameWholeUptoSaid : Prop := frameWholeUptoRow.holds Tryd.pinned (OpenSpec.upto frameWholeSpec)

/-- 'bollardlaw20.ListPages', WHERE WHAT IT READS IS OF BULK AT MOST 1048576: true; the input reads as it did. -/
def listPagesUptoRow : OpenClaim := { program := "ytfoplbolbjcggaadoor", sum := "0c92a1d0e5849159b3cca8659e7b9293d8749bd5340e3708da912e3fee750d54", func := "bollard/bollardlaw20.ListPages", spec := "listPages", inPlace := ["internal/bytealg.IndexByteString", "internal/bytealg.IndexString", "internal/abi.NoEscape"], unfollowed := true, recurses := true, named := ["bollard/api.ErrNumber", "bollard/api.ErrData", "internal/bytealg.MaxLen", "bollard/api.ErrParams", "bollard/api.ErrLost", "bollard/api.ErrBytes", "bollard/api.ErrDigest", "bollard/api.ErrName", "bollard/api.ErrGone", "bollard/api.ErrThere", "bollard/api.ErrFull", "bollard/api.ErrLarge", "bollard/api.ErrBallot", "bollard/api.ErrRequest", "bollard/api.ErrUri", "bollard/api.ErrDenied", "bollard/api.ErrSkew", "bollard/api.ErrMethod", "bollard/api.ErrState"], plainKeys := false, apart := false, laid := [("bollard/api.ErrParams", laid_bollard_api_ErrParams), ("bollard/api.ErrNumber", laid_bollard_api_ErrNumber), ("bollard/api.ErrData", laid_bollard_api_ErrData), ("bollard/api.ErrLost", laid_bollard_api_ErrLost), ("bollard/api.ErrBytes", laid_bollard_api_ErrBytes), ("bollard/api.ErrDigest", laid_bollard_api_ErrDigest), ("bollard/api.ErrName", laid_bollard_api_ErrName), ("bollard/api.ErrGone", laid_bollard_api_ErrGone), ("bollard/api.ErrThere", laid_bollard_api_ErrThere), ("bollard/api.ErrFull", laid_bollard_api_ErrFull), ("bollard/api.ErrLarge", laid_bollard_api_ErrLarge), ("bollard/api.ErrBallot", laid_bollard_api_ErrBallot), ("bollard/api.ErrRequest", laid_bollard_api_ErrRequest), ("bollard/api.ErrUri", laid_bollard_api_ErrUri), ("bollard/api.ErrDenied", laid_bollard_api_ErrDenied), ("bollard/api.ErrSkew", laid_bollard_api_ErrSkew), ("bollard/api.ErrMethod", laid_bollard_api_ErrMethod), ("bollard/api.ErrState", laid_bollard_api_ErrState)], narrowed := true }
def ListPagesUptoSaid : Prop := listPagesUptoRow.holds Tryd.pinned (OpenSpec.upto listPagesSpec)

/-- 'bollardlaw20.ListEntries', WHERE WHAT IT READS IS OF BULK AT MOST 1048576: true; the input reads as it did. -/
def listEntriesUptoRow : OpenClaim := { program := "ytfoplbolbjcggaadoor", sum := "0c92a1d0e5849159b3cca8659e7b9293d8749bd5340e3708da912e3fee750d54", func := "bollard/bollardlaw20.ListEntries", spec := "listEntries", inPlace := ["internal/bytealg.IndexByteString", "internal/bytealg.IndexString", "internal/abi.NoEscape"], unfollowed := true, recurses := true, named := ["bollard/api.ErrNumber", "bollard/api.ErrData", "internal/bytealg.MaxLen"], plainKeys := false, apart := false, laid := [("bollard/api.ErrNumber", laid_bollard_api_ErrNumber), ("bollard/api.ErrData", laid_bollard_api_ErrData)], narrowed := true }
def ListEntriesUptoSaid : Prop := listEntriesUptoRow.holds Tryd.pinned (OpenSpec.upto listEntriesSpec)

/-- 'bollardlaw20.ListChains', WHERE WHAT IT READS IS OF BULK AT MOST 1048576: true; the input reads as it did. -/
def listChainsUptoRow : OpenClaim := { program := "ytfoplbolbjcggaadoor", sum := "0c92a1d0e5849159b3cca8659e7b9293d8749bd5340e3708da912e3fee750d54", func := "bollard/bollardlaw20.ListChains", spec := "listChains", inPlace := ["internal/bytealg.IndexByteString", "internal/bytealg.IndexString", "internal/abi.NoEscape"], unfollowed := true, recurses := true, named := ["bollard/api.ErrNumber", "bollard/api.ErrData", "internal/bytealg.MaxLen"], plainKeys := false, apart := false, laid := [("bollard/api.ErrNumber", laid_bollard_api_ErrNumber), ("bollard/api.ErrData", laid_bollard_api_ErrData)], narrowed := true }
def ListChainsUptoSaid : Prop := listChainsUptoRow.holds Tryd.pinned (OpenSpec.upto listChainsSpec)

/-- 'bollardlaw20.ListCovers', WHERE WHAT IT READS IS OF BULK AT MOST 1048576: true; the input reads as it did. -/
def listCoversUptoRow : OpenClaim := { program := "ytfoplbolbjcggaadoor", sum := "0c92a1d0e5849159b3cca8659e7b9293d8749bd5340e3708da912e3fee750d54", func := "bollard/bollardlaw20.ListCovers", spec := "listCovers", inPlace := ["internal/bytealg.IndexByteString", "internal/bytealg.IndexString", "internal/abi.NoEscape"], unfollowed := true, recurses := true, named := ["bollard/api.ErrNumber", "bollard/api.ErrData", "internal/bytealg.MaxLen"], plainKeys := false, apart := false, laid := [("bollard/api.ErrNumber", laid_bollard_api_ErrNumber), ("bollard/api.ErrData", laid_bollard_api_ErrData)], narrowed := true }
def ListCoversUptoSaid : Prop := listCoversUptoRow.holds Tryd.pinned (OpenSpec.upto listCoversSpec)

/-- 'bollardlaw20.ListGrows', WHERE WHAT IT READS IS OF BULK AT MOST 1048576: true; the input reads as it did. -/
def listGrowsUptoRow : OpenClaim := { program := "ytfoplbolbjcggaadoor", sum := "0c92a1d0e5849159b3cca8659e7b9293d8749bd5340e3708da912e3fee750d54", func := "bollard/bollardlaw20.ListGrows", spec := "listGrows", inPlace := ["internal/bytealg.IndexByteString", "internal/bytealg.IndexString", "internal/abi.NoEscape"], unfollowed := true, recurses := true, named := ["bollard/api.ErrNumber", "bollard/api.ErrData", "internal/bytealg.MaxLen"], plainKeys := false, apart := false, laid := [("bollard/api.ErrNumber", laid_bollard_api_ErrNumber), ("bollard/api.ErrData", laid_bollard_api_ErrData)], narrowed := true }
def ListGrowsUptoSaid : Prop := listGrowsUptoRow.holds Tryd.pinned (OpenSpec.upto listGrowsSpec)

/-- 'bollardlaw06.FrameSlips', WHERE WHAT IT READS IS OF BULK AT MOST 1048576: true; the input reads as it did. -/
def frameSlipsUptoRow : OpenClaim := { program := "ytfoplbolbjcggaadoor", sum := "0c92a1d0e5849159b3cca8659e7b9293d8749bd5340e3708da912e3fee750d54", func := "bollard/bollardlaw06.FrameSlips", spec := "frameSlips", unfollowed := true, recurses := true, named := ["bollard/api.ErrDigest", "bollard/api.ErrNumber", "bollard/api.ErrLarge", "bollard/api.ErrBytes"], plainKeys := false, apart := false, laid := [("bollard/api.ErrNumber", laid_bollard_api_ErrNumber), ("bollard/api.ErrBytes", laid_bollard_api_ErrBytes), ("bollard/api.ErrDigest", laid_bollard_api_ErrDigest), ("bollard/api.ErrLarge", laid_bollard_api_ErrLarge)], narrowed := true }
def FrameSlipsUptoSaid : Prop := frameSlipsUptoRow.holds Tryd.pinned (OpenSpec.upto frameSlipsSpec)

/-- 'bollardlaw06.FramePuts', WHERE WHAT IT READS IS OF BULK AT MOST 1048576: true; the input reads as it did. -/
def framePutsUptoRow : OpenClaim := { program := "ytfoplbolbjcggaadoor", sum := "0c92a1d0e5849159b3cca8659e7b9293d8749bd5340e3708da912e3fee750d54", func := "bollard/bollardlaw06.FramePuts", spec := "framePuts", unfollowed := true, recurses := true, named := ["bollard/api.ErrNumber", "bollard/api.ErrLarge", "bollard/api.ErrBytes", "bollard/api.ErrDigest"], plainKeys := false, apart := false, laid := [("bollard/api.ErrNumber", laid_bollard_api_ErrNumber), ("bollard/api.ErrBytes", laid_bollard_api_ErrBytes), ("bollard/api.ErrDigest", laid_bollard_api_ErrDigest), ("bollard/api.ErrLarge", laid_bollard_api_ErrLarge)], narrowed := true }
def FramePutsUptoSaid : Prop := framePutsUptoRow.holds Tryd.pinned (OpenSpec.upto framePutsSpec)

/-- 'bollardlaw06.FrameHeads', WHERE WHAT IT READS IS OF BULK AT MOST 1048576: true; the input reads as it did. -/
def frameHeadsUptoRow : OpenClaim := { program := "ytfoplbolbjcggaadoor", sum := "0c92a1d0e5849159b3cca8659e7b9293d8749bd5340e3708da912e3fee750d54", func := "bollard/bollardlaw06.FrameHeads", spec := "frameHeads", unfollowed := true, recurses := true, named := ["bollard/api.ErrBytes", "bollard/api.ErrNumber", "bollard/api.ErrLarge", "bollard/api.ErrDigest"], plainKeys := false, apart := false, laid := [("bollard/api.ErrNumber", laid_bollard_api_ErrNumber), ("bollard/api.ErrBytes", laid_bollard_api_ErrBytes), ("bollard/api.ErrDigest", laid_bollard_api_ErrDigest), ("bollard/api.ErrLarge", laid_bollard_api_ErrLarge)], narrowed := true }
def FrameHeadsUptoSaid : Prop := frameHeadsUptoRow.holds Tryd.pinned (OpenSpec.upto frameHeadsSpec)

/-- 'bollardlaw22.HealShards', WHERE WHAT IT READS IS OF BULK AT MOST 1048576: true; the input reads as it did. -/
def healShardsUptoRow : OpenClaim := { program := "ytfoplbolbjcggaadoor", sum := "0c92a1d0e5849159b3cca8659e7b9293d8749bd5340e3708da912e3fee750d54", func := "bollard/bollardlaw22.HealShards", spec := "healShards", unfollowed := true, recurses := true, named := ["bollard/api.ErrNumber", "bollard/api.ErrLarge", "bollard/api.ErrParams", "bollard/api.ErrBytes", "bollard/api.ErrDigest"], plainKeys := false, apart := false, laid := [("bollard/api.ErrParams", laid_bollard_api_ErrParams), ("bollard/api.ErrNumber", laid_bollard_api_ErrNumber), ("bollard/api.ErrBytes", laid_bollard_api_ErrBytes), ("bollard/api.ErrDigest", laid_bollard_api_ErrDigest), ("bollard/api.ErrLarge", laid_bollard_api_ErrLarge)], narrowed := true }
def HealShardsUptoSaid : Prop := healShardsUptoRow.holds Tryd.pinned (OpenSpec.upto healShardsSpec)

/-- 'bollardlaw22.HealDecodes', WHERE WHAT IT READS IS OF BULK AT MOST 1048576: true; the input reads as it did. -/
def healDecodesUptoRow : OpenClaim := { program := "ytfoplbolbjcggaadoor", sum := "0c92a1d0e5849159b3cca8659e7b9293d8749bd5340e3708da912e3fee750d54", func := "bollard/bollardlaw22.HealDecodes", spec := "healDecodes", unfollowed := true, recurses := true, named := ["bollard/api.ErrNumber", "bollard/api.ErrLarge", "bollard/api.ErrParams", "bollard/api.ErrBytes", "bollard/api.ErrDigest", "bollard/api.ErrData"], plainKeys := false, apart := false, laid := [("bollard/api.ErrParams", laid_bollard_api_ErrParams), ("bollard/api.ErrNumber", laid_bollard_api_ErrNumber), ("bollard/api.ErrData", laid_bollard_api_ErrData), ("bollard/api.ErrBytes", laid_bollard_api_ErrBytes), ("bollard/api.ErrDigest", laid_bollard_api_ErrDigest), ("bollard/api.ErrLarge", laid_bollard_api_ErrLarge)], narrowed := true }
def HealDecodesUptoSaid : Prop := healDecodesUptoRow.holds Tryd.pinned (OpenSpec.upto healDecodesSpec)

end Rows
end Go.Proofs.YtfoplbolbjcggaaDoor
