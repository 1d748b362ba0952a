/-
  NARROWER THAN 'FOR EVERY INPUT', by the rows' own cells (each row's printed sentence says how): CatalogPlays: laid · CatalogOrdered: laid · CatalogBack: laid · CatalogUploads: laid · CatalogCompletes: laid · CatalogApart: laid · LedgerFolds: laid · LedgerBegins: laid · CatalogFinds: laid · LedgerGrows: laid · LedgerSteps: laid.
  DERIVED. THE GIVEN ROWS OF THIS SEAT. 11 by the template 'for every input the law returns true; each argument reads behind the call as it read before'; 0 by the template 'total and deterministic' (their statements: YtfeglnpmpgipiaaGreatDoorTotals.lean).
  GIVEN WITH THE SEED: the statements are not yours to turn. If you find one false, say at which input.
  Laid BY PROGRAM, IN A SANDBOX (cutbox-rows.mjs): the forced cells as the released guide's own fill.sh prints them over the translation 6fdeea00db028384… (all of the seat's roots in one cut). By AI agents, Wed Nov 11 2026. No macro, syntax, notation, axiom, sorry.
-/
import Derived.Test.YtfeglnpmpgipiaaGreatDoorChecked
import GoSem.Claim
import GoSem.ClaimJoined
import GoSem.ClaimMapViews
import Derived.JoinedTies
import Derived.KernelRfl
namespace Go.Proofs.YtfeglnpmpgipiaaGreatDoor
/- THE CELL 'sum', in the pinned program and in every row, IS THE sha256 OF THE DUMP (.gsa) THAT YtfeglnpmpgipiaaGreatDoorProg.lean LOADS. Nothing in Lean hashes anything: it is a label: what it is worth is what the hold of that sum in a sandbox is worth. -/
noncomputable def Tryz.pinned : Pinned := { name := "ytfeglnpmpgipiaagreatdoor", sum := "6fdeea00db0283848c3d6c76ed728f0eb5fcbe0c06ae7c32b611c4947e94c55c", checked := Tryz.checked }
namespace Rows
def none {H : Type} : Left H := { results := [], args := [] }

/- WHAT THE LISTED PACKAGE-LEVEL VARIABLES READ AS WHEN THE CALL BEGINS. Each datum BY PROGRAM (the guide's laid-datum.mjs) off the statement by which the dump's own 'gosem.cut.vars' lays the variable. In a bare row this is a premise. The card (YtfeglnpmpgipiaaGreatDoorCards.lean) ties it to the program's text. -/
def laid_math_bits_deBruijn32tab {H : Type} : DataW H := .agg [.lit (.int .u8 0), .lit (.int .u8 1), .lit (.int .u8 28), .lit (.int .u8 2), .lit (.int .u8 29), .lit (.int .u8 14), .lit (.int .u8 24), .lit (.int .u8 3), .lit (.int .u8 30), .lit (.int .u8 22), .lit (.int .u8 20), .lit (.int .u8 15), .lit (.int .u8 25), .lit (.int .u8 17), .lit (.int .u8 4), .lit (.int .u8 8), .lit (.int .u8 31), .lit (.int .u8 27), .lit (.int .u8 13), .lit (.int .u8 23), .lit (.int .u8 21), .lit (.int .u8 19), .lit (.int .u8 16), .lit (.int .u8 7), .lit (.int .u8 26), .lit (.int .u8 12), .lit (.int .u8 18), .lit (.int .u8 6), .lit (.int .u8 11), .lit (.int .u8 5), .lit (.int .u8 10), .lit (.int .u8 9)]
def laid_math_bits_deBruijn64tab {H : Type} : DataW H := .agg [.lit (.int .u8 0), .lit (.int .u8 1), .lit (.int .u8 56), .lit (.int .u8 2), .lit (.int .u8 57), .lit (.int .u8 49), .lit (.int .u8 28), .lit (.int .u8 3), .lit (.int .u8 61), .lit (.int .u8 58), .lit (.int .u8 42), .lit (.int .u8 50), .lit (.int .u8 38), .lit (.int .u8 29), .lit (.int .u8 17), .lit (.int .u8 4), .lit (.int .u8 62), .lit (.int .u8 47), .lit (.int .u8 59), .lit (.int .u8 36), .lit (.int .u8 45), .lit (.int .u8 43), .lit (.int .u8 51), .lit (.int .u8 22), .lit (.int .u8 53), .lit (.int .u8 39), .lit (.int .u8 33), .lit (.int .u8 30), .lit (.int .u8 24), .lit (.int .u8 18), .lit (.int .u8 12), .lit (.int .u8 5), .lit (.int .u8 63), .lit (.int .u8 55), .lit (.int .u8 48), .lit (.int .u8 27), .lit (.int .u8 60), .lit (.int .u8 41), .lit (.int .u8 37), .lit (.int .u8 16), .lit (.int .u8 46), .lit (.int .u8 35), .lit (.int .u8 44), .lit (.int .u8 21), .lit (.int .u8 52), .lit (.int .u8 32), .lit (.int .u8 23), .lit (.int .u8 11), .lit (.int .u8 54), .lit (.int .u8 26), .lit (.int .u8 40), .lit (.int .u8 15), .lit (.int .u8 34), .lit (.int .u8 20), .lit (.int .u8 31), .lit (.int .u8 10), .lit (.int .u8 25), .lit (.int .u8 14), .lit (.int .u8 19), .lit (.int .u8 9), .lit (.int .u8 13), .lit (.int .u8 8), .lit (.int .u8 7), .lit (.int .u8 6)]
def laid_internal_strconv_uint64pow10 {H : Type} : DataW H := .agg [.lit (.int .u64 1), .lit (.int .u64 10), .lit (.int .u64 100), .lit (.int .u64 1000), .lit (.int .u64 10000), .lit (.int .u64 100000), .lit (.int .u64 1000000), .lit (.int .u64 10000000), .lit (.int .u64 100000000), .lit (.int .u64 1000000000), .lit (.int .u64 10000000000), .lit (.int .u64 100000000000), .lit (.int .u64 1000000000000), .lit (.int .u64 10000000000000), .lit (.int .u64 100000000000000), .lit (.int .u64 1000000000000000), .lit (.int .u64 10000000000000000), .lit (.int .u64 100000000000000000), .lit (.int .u64 1000000000000000000), .lit (.int .u64 10000000000000000000)]
def laid_bollard_api_ErrGone {H : Type} : DataW H := .iface "*errors.errorString" (.ptr (.agg [.lit (.string [98, 111, 108, 108, 97, 114, 100, 58, 32, 103, 111, 110, 101])]))
def laid_bollard_api_ErrFull {H : Type} : DataW H := .iface "*errors.errorString" (.ptr (.agg [.lit (.string [98, 111, 108, 108, 97, 114, 100, 58, 32, 102, 117, 108, 108])]))

/-- 'bollardlaw11.CatalogPlays': WHATEVER THE INPUT: true; the input reads as it did. -/
def catalogPlaysSpec : ChangeSpec := { name := "catalogPlays", fn := fun _ => fun
  | [d] => { results := [.lit (.bool true)], args := [d] }
  | _ => none }
def catalogPlaysRow : OpenClaim := { program := "ytfeglnpmpgipiaagreatdoor", sum := "6fdeea00db0283848c3d6c76ed728f0eb5fcbe0c06ae7c32b611c4947e94c55c", func := "bollard/bollardlaw11.CatalogPlays", spec := "catalogPlays", inPlace := ["slices.overlaps[bollard/api.Bucket]", "slices.overlaps[bollard/api.Id]", "slices.overlaps[bollard/api.Object]", "slices.overlaps[bollard/api.Upload]", "slices.overlaps[bollard/api.Part]", "internal/abi.NoEscape"], unfollowed := true, recurses := true, named := ["internal/strconv.uint64pow10", "math/bits.deBruijn32tab", "math/bits.deBruijn64tab"], apart := false, laid := [("math/bits.deBruijn32tab", laid_math_bits_deBruijn32tab), ("math/bits.deBruijn64tab", laid_math_bits_deBruijn64tab), ("internal/strconv.uint64pow10", laid_internal_strconv_uint64pow10)] }
def CatalogPlaysSaid : Prop := catalogPlaysRow.holds Tryz.pinned (OpenSpec.ofChange catalogPlaysSpec)

/-- ITS FALSE NEIGHBOUR: 'it returns false'. Refute it at one input. -/
def catalogPlaysWrong : ChangeSpec := { name := "catalogPlays", fn := fun _ => fun
  | [d] => { results := [.lit (.bool false)], args := [d] }
  | _ => none }
def CatalogPlaysWrongFalsely : Prop := catalogPlaysRow.holds Tryz.pinned (OpenSpec.ofChange catalogPlaysWrong)

/-- 'bollardlaw11.CatalogOrdered': WHATEVER THE INPUT: true; the input reads as it did. -/
def catalogOrderedSpec : ChangeSpec := { name := "catalogOrdered", fn := fun _ => fun
  | [d] => { results := [.lit (.bool true)], args := [d] }
  | _ => none }
def catalogOrderedRow : OpenClaim := { program := "ytfeglnpmpgipiaagreatdoor", sum := "6fdeea00db0283848c3d6c76ed728f0eb5fcbe0c06ae7c32b611c4947e94c55c", func := "bollard/bollardlaw11.CatalogOrdered", spec := "catalogOrdered", inPlace := ["slices.overlaps[bollard/api.Bucket]", "slices.overlaps[bollard/api.Id]", "slices.overlaps[bollard/api.Object]", "slices.overlaps[bollard/api.Upload]", "slices.overlaps[bollard/api.Part]", "internal/abi.NoEscape"], unfollowed := true, recurses := true, named := ["internal/strconv.uint64pow10", "math/bits.deBruijn32tab", "math/bits.deBruijn64tab"], apart := false, laid := [("math/bits.deBruijn32tab", laid_math_bits_deBruijn32tab), ("math/bits.deBruijn64tab", laid_math_bits_deBruijn64tab), ("internal/strconv.uint64pow10", laid_internal_strconv_uint64pow10)] }
def CatalogOrderedSaid : Prop := catalogOrderedRow.holds Tryz.pinned (OpenSpec.ofChange catalogOrderedSpec)

/-- ITS FALSE NEIGHBOUR: 'it returns false'. Refute it at one input. -/
def catalogOrderedWrong : ChangeSpec := { name := "catalogOrdered", fn := fun _ => fun
  | [d] => { results := [.lit (.bool false)], args := [d] }
  | _ => none }
def CatalogOrderedWrongFalsely : Prop := catalogOrderedRow.holds Tryz.pinned (OpenSpec.ofChange catalogOrderedWrong)

/-- 'bollardlaw11.CatalogBack': WHATEVER THE INPUT: true; the input reads as it did. -/
def catalogBackSpec : ChangeSpec := { name := "catalogBack", fn := fun _ => fun
  | [d1, d2] => { results := [.lit (.bool true)], args := [d1, d2] }
  | _ => none }
def catalogBackRow : OpenClaim := { program := "ytfeglnpmpgipiaagreatdoor", sum := "6fdeea00db0283848c3d6c76ed728f0eb5fcbe0c06ae7c32b611c4947e94c55c", func := "bollard/bollardlaw11.CatalogBack", spec := "catalogBack", inPlace := ["slices.overlaps[bollard/api.Bucket]", "slices.overlaps[bollard/api.Id]", "slices.overlaps[bollard/api.Object]", "slices.overlaps[bollard/api.Upload]", "slices.overlaps[bollard/api.Part]", "internal/abi.NoEscape"], unfollowed := true, recurses := true, named := ["internal/strconv.uint64pow10", "math/bits.deBruijn32tab", "math/bits.deBruijn64tab"], apart := false, laid := [("math/bits.deBruijn32tab", laid_math_bits_deBruijn32tab), ("math/bits.deBruijn64tab", laid_math_bits_deBruijn64tab), ("internal/strconv.uint64pow10", laid_internal_strconv_uint64pow10)] }
def CatalogBackSaid : Prop := catalogBackRow.holds Tryz.pinned (OpenSpec.ofChange catalogBackSpec)

/-- ITS FALSE NEIGHBOUR: 'it returns false'. Refute it at one input. -/
def catalogBackWrong : ChangeSpec := { name := "catalogBack", fn := fun _ => fun
  | [d1, d2] => { results := [.lit (.bool false)], args := [d1, d2] }
  | _ => none }
def CatalogBackWrongFalsely : Prop := catalogBackRow.holds Tryz.pinned (OpenSpec.ofChange catalogBackWrong)

/-- 'bollardlaw11.CatalogUploads': WHATEVER THE INPUT: true; the input reads as it did. -/
def catalogUploadsSpec : ChangeSpec := { name := "catalogUploads", fn := fun _ => fun
  | [d1, d2, d3] => { results := [.lit (.bool true)], args := [d1, d2, d3] }
  | _ => none }
def catalogUploadsRow : OpenClaim := { program := "ytfeglnpmpgipiaagreatdoor", sum := "6fdeea00db0283848c3d6c76ed728f0eb5fcbe0c06ae7c32b611c4947e94c55c", func := "bollard/bollardlaw11.CatalogUploads", spec := "catalogUploads", inPlace := ["slices.overlaps[bollard/api.Bucket]", "slices.overlaps[bollard/api.Id]", "slices.overlaps[bollard/api.Object]", "slices.overlaps[bollard/api.Upload]", "slices.overlaps[bollard/api.Part]", "internal/abi.NoEscape"], unfollowed := true, recurses := true, named := ["internal/strconv.uint64pow10", "math/bits.deBruijn32tab", "math/bits.deBruijn64tab"], apart := false, laid := [("math/bits.deBruijn32tab", laid_math_bits_deBruijn32tab), ("math/bits.deBruijn64tab", laid_math_bits_deBruijn64tab), ("internal/strconv.uint64pow10", laid_internal_strconv_uint64pow10)] }
def CatalogUploadsSaid : Prop := catalogUploadsRow.holds Tryz.pinned (OpenSpec.ofChange catalogUploadsSpec)

/-- ITS FALSE NEIGHBOUR: 'it returns false'. Refute it at one input. -/
def catalogUploadsWrong : ChangeSpec := { name := "catalogUploads", fn := fun _ => fun
  | [d1, d2, d3] => { results := [.lit (.bool false)], args := [d1, d2, d3] }
  | _ => none }
def CatalogUploadsWrongFalsely : Prop := catalogUploadsRow.holds Tryz.pinned (OpenSpec.ofChange catalogUploadsWrong)

/-- 'bollardlaw11.CatalogCompletes': WHATEVER THE INPUT: true; the input reads as it did. -/
def catalogCompletesSpec : ChangeSpec := { name := "catalogCompletes", fn := fun _ => fun
  | [d1, d2] => { results := [.lit (.bool true)], args := [d1, d2] }
  | _ => none }
def catalogCompletesRow : OpenClaim := { program := "ytfeglnpmpgipiaagreatdoor", sum := "6fdeea00db0283848c3d6c76ed728f0eb5fcbe0c06ae7c32b611c4947e94c55c", func := "bollard/bollardlaw11.CatalogCompletes", spec := "catalogCompletes", inPlace := ["slices.overlaps[bollard/api.Bucket]", "slices.overlaps[bollard/api.Id]", "slices.overlaps[bollard/api.Object]", "slices.overlaps[bollard/api.Upload]", "slices.overlaps[bollard/api.Part]", "internal/abi.NoEscape"], unfollowed := true, recurses := true, named := ["internal/strconv.uint64pow10", "math/bits.deBruijn32tab", "math/bits.deBruijn64tab"], apart := false, laid := [("math/bits.deBruijn32tab", laid_math_bits_deBruijn32tab), ("math/bits.deBruijn64tab", laid_math_bits_deBruijn64tab), ("internal/strconv.uint64pow10", laid_internal_strconv_uint64pow10)] }
def CatalogCompletesSaid : Prop := catalogCompletesRow.holds Tryz.pinned (OpenSpec.ofChange catalogCompletesSpec)

/-- ITS FALSE NEIGHBOUR: 'it returns false'. Refute it at one input. -/
def catalogCompletesWrong : ChangeSpec := { name := "catalogCompletes", fn := fun _ => fun
  | [d1, d2] => { results := [.lit (.bool false)], args := [d1, d2] }
  | _ => none }
def CatalogCompletesWrongFalsely : Prop := catalogCompletesRow.holds Tryz.pinned (OpenSpec.ofChange catalogCompletesWrong)

/-- 'bollardlaw11.CatalogApart': WHATEVER THE INPUT: true; the input reads as it did. -/
def catalogApartSpec : ChangeSpec := { name := "catalogApart", fn := fun _ => fun
  | [d1, d2] => { results := [.lit (.bool true)], args := [d1, d2] }
  | _ => none }
def catalogApartRow : OpenClaim := { program := "ytfeglnpmpgipiaagreatdoor", sum := "6fdeea00db0283848c3d6c76ed728f0eb5fcbe0c06ae7c32b611c4947e94c55c", func := "bollard/bollardlaw11.CatalogApart", spec := "catalogApart", inPlace := ["slices.overlaps[bollard/api.Bucket]", "slices.overlaps[bollard/api.Id]", "slices.overlaps[bollard/api.Object]", "slices.overlaps[bollard/api.Upload]", "slices.overlaps[bollard/api.Part]", "internal/abi.NoEscape"], unfollowed := true, recurses := true, named := ["internal/strconv.uint64pow10", "math/bits.deBruijn32tab", "math/bits.deBruijn64tab"], apart := false, laid := [("math/bits.deBruijn32tab", laid_math_bits_deBruijn32tab), ("math/bits.deBruijn64tab", laid_math_bits_deBruijn64tab), ("internal/strconv.uint64pow10", laid_internal_strconv_uint64pow10)] }
def CatalogApartSaid : Prop := catalogApartRow.holds Tryz.pinned (OpenSpec.ofChange catalogApartSpec)

/-- ITS FALSE NEIGHBOUR: 'it returns false'. Refute it at one input. -/
def catalogApartWrong : ChangeSpec := { name := "catalogApart", fn := fun _ => fun
  | [d1, d2] => { results := [.lit (.bool false)], args := [d1, d2] }
  | _ => none }
def CatalogApartWrongFalsely : Prop := catalogApartRow.holds Tryz.pinned (OpenSpec.ofChange catalogApartWrong)

/-- 'bollardlaw12.LedgerFolds': WHATEVER THE INPUT: true; the input reads as it did. -/
def ledgerFoldsSpec : ChangeSpec := { name := "ledgerFolds", fn := fun _ => fun
  | [d1, d2, d3] => { results := [.lit (.bool true)], args := [d1, d2, d3] }
  | _ => none }
def ledgerFoldsRow : OpenClaim := { program := "ytfeglnpmpgipiaagreatdoor", sum := "6fdeea00db0283848c3d6c76ed728f0eb5fcbe0c06ae7c32b611c4947e94c55c", func := "bollard/bollardlaw12.LedgerFolds", spec := "ledgerFolds", inPlace := ["slices.overlaps[bollard/api.Bucket]", "slices.overlaps[bollard/api.Id]", "slices.overlaps[bollard/api.Object]", "slices.overlaps[bollard/api.Upload]", "slices.overlaps[bollard/api.Part]", "internal/abi.NoEscape"], unfollowed := true, recurses := true, named := ["bollard/api.ErrGone", "bollard/api.ErrFull", "internal/strconv.uint64pow10", "math/bits.deBruijn32tab", "math/bits.deBruijn64tab"], apart := false, laid := [("math/bits.deBruijn32tab", laid_math_bits_deBruijn32tab), ("math/bits.deBruijn64tab", laid_math_bits_deBruijn64tab), ("internal/strconv.uint64pow10", laid_internal_strconv_uint64pow10), ("bollard/api.ErrGone", laid_bollard_api_ErrGone), ("bollard/api.ErrFull", laid_bollard_api_ErrFull)] }
def LedgerFoldsSaid : Prop := ledgerFoldsRow.holds Tryz.pinned (OpenSpec.ofChange ledgerFoldsSpec)

/-- ITS FALSE NEIGHBOUR: 'it returns false'. Refute it at one input. -/
def ledgerFoldsWrong : ChangeSpec := { name := "ledgerFolds", fn := fun _ => fun
  | [d1, d2, d3] => { results := [.lit (.bool false)], args := [d1, d2, d3] }
  | _ => none }
def LedgerFoldsWrongFalsely : Prop := ledgerFoldsRow.holds Tryz.pinned (OpenSpec.ofChange ledgerFoldsWrong)

/-- 'bollardlaw12.LedgerBegins': WHATEVER THE INPUT: true; the input reads as it did. -/
def ledgerBeginsSpec : ChangeSpec := { name := "ledgerBegins", fn := fun _ => fun
  | [d1, d2, d3] => { results := [.lit (.bool true)], args := [d1, d2, d3] }
  | _ => none }
def ledgerBeginsRow : OpenClaim := { program := "ytfeglnpmpgipiaagreatdoor", sum := "6fdeea00db0283848c3d6c76ed728f0eb5fcbe0c06ae7c32b611c4947e94c55c", func := "bollard/bollardlaw12.LedgerBegins", spec := "ledgerBegins", inPlace := ["slices.overlaps[bollard/api.Bucket]", "slices.overlaps[bollard/api.Id]", "slices.overlaps[bollard/api.Object]", "slices.overlaps[bollard/api.Upload]", "slices.overlaps[bollard/api.Part]", "internal/abi.NoEscape"], unfollowed := true, recurses := true, named := ["bollard/api.ErrFull", "internal/strconv.uint64pow10", "math/bits.deBruijn32tab", "math/bits.deBruijn64tab"], apart := false, laid := [("math/bits.deBruijn32tab", laid_math_bits_deBruijn32tab), ("math/bits.deBruijn64tab", laid_math_bits_deBruijn64tab), ("internal/strconv.uint64pow10", laid_internal_strconv_uint64pow10), ("bollard/api.ErrFull", laid_bollard_api_ErrFull)] }
def LedgerBeginsSaid : Prop := ledgerBeginsRow.holds Tryz.pinned (OpenSpec.ofChange ledgerBeginsSpec)

/-- ITS FALSE NEIGHBOUR: 'it returns false'. Refute it at one input. -/
def ledgerBeginsWrong : ChangeSpec := { name := "ledgerBegins", fn := fun _ => fun
  | [d1, d2, d3] => { results := [.lit (.bool false)], args := [d1, d2, d3] }
  | _ => none }
def LedgerBeginsWrongFalsely : Prop := ledgerBeginsRow.holds Tryz.pinned (OpenSpec.ofChange ledgerBeginsWrong)

/-- 'bollardlaw11.CatalogFinds': WHATEVER THE INPUT: true; the input reads as it did. -/
def catalogFindsSpec : ChangeSpec := { name := "catalogFinds", fn := fun _ => fun
  | [d1, d2, d3] => { results := [.lit (.bool true)], args := [d1, d2, d3] }
  | _ => none }
def catalogFindsRow : OpenClaim := { program := "ytfeglnpmpgipiaagreatdoor", sum := "6fdeea00db0283848c3d6c76ed728f0eb5fcbe0c06ae7c32b611c4947e94c55c", func := "bollard/bollardlaw11.CatalogFinds", spec := "catalogFinds", inPlace := ["slices.overlaps[bollard/api.Bucket]", "slices.overlaps[bollard/api.Id]", "slices.overlaps[bollard/api.Object]", "slices.overlaps[bollard/api.Upload]", "slices.overlaps[bollard/api.Part]", "internal/abi.NoEscape"], unfollowed := true, recurses := true, named := ["internal/strconv.uint64pow10", "math/bits.deBruijn32tab", "math/bits.deBruijn64tab"], apart := false, laid := [("math/bits.deBruijn32tab", laid_math_bits_deBruijn32tab), ("math/bits.deBruijn64tab", laid_math_bits_deBruijn64tab), ("internal/strconv.uint64pow10", laid_internal_strconv_uint64pow10)] }
def CatalogFindsSaid : Prop := catalogFindsRow.holds Tryz.pinned (OpenSpec.ofChange catalogFindsSpec)

/-- ITS FALSE NEIGHBOUR: 'it returns false'. Refute it at one input. -/
def catalogFindsWrong : ChangeSpec := { name := "catalogFinds", fn := fun _ => fun
  | [d1, d2, d3] => { results := [.lit (.bool false)], args := [d1, d2, d3] }
  | _ => none }
def CatalogFindsWrongFalsely : Prop := catalogFindsRow.holds Tryz.pinned (OpenSpec.ofChange catalogFindsWrong)

/-- 'bollardlaw12.LedgerGrows': WHATEVER THE INPUT: true; the input reads as it did. -/
def ledgerGrowsSpec : ChangeSpec := { name := "ledgerGrows", fn := fun _ => fun
  | [d1, d2] => { results := [.lit (.bool true)], args := [d1, d2] }
  | _ => none }
def ledgerGrowsRow : OpenClaim := { program := "ytfeglnpmpgipiaagreatdoor", sum := "6fdeea00db0283848c3d6c76ed728f0eb5fcbe0c06ae7c32b611c4947e94c55c", func := "bollard/bollardlaw12.LedgerGrows", spec := "ledgerGrows", inPlace := ["slices.overlaps[bollard/api.Bucket]", "slices.overlaps[bollard/api.Id]", "slices.overlaps[bollard/api.Object]", "slices.overlaps[bollard/api.Upload]", "slices.overlaps[bollard/api.Part]", "internal/abi.NoEscape"], unfollowed := true, recurses := true, named := ["bollard/api.ErrFull", "internal/strconv.uint64pow10", "math/bits.deBruijn32tab", "math/bits.deBruijn64tab", "bollard/api.ErrGone"], apart := false, laid := [("math/bits.deBruijn32tab", laid_math_bits_deBruijn32tab), ("math/bits.deBruijn64tab", laid_math_bits_deBruijn64tab), ("internal/strconv.uint64pow10", laid_internal_strconv_uint64pow10), ("bollard/api.ErrGone", laid_bollard_api_ErrGone), ("bollard/api.ErrFull", laid_bollard_api_ErrFull)] }
def LedgerGrowsSaid : Prop := ledgerGrowsRow.holds Tryz.pinned (OpenSpec.ofChange ledgerGrowsSpec)

/-- ITS FALSE NEIGHBOUR: 'it returns false'. Refute it at one input. -/
def ledgerGrowsWrong : ChangeSpec := { name := "ledgerGrows", fn := fun _ => fun
  | [d1, d2] => { results := [.lit (.bool false)], args := [d1, d2] }
  | _ => none }
def LedgerGrowsWrongFalsely : Prop := ledgerGrowsRow.holds Tryz.pinned (OpenSpec.ofChange ledgerGrowsWrong)

/-- 'bollardlaw12.LedgerSteps': WHATEVER THE INPUT: true; the input reads as it did. -/
def ledgerStepsSpec : ChangeSpec := { name := "ledgerSteps", fn := fun _ => fun
  | [d1, d2, d3] => { results := [.lit (.bool true)], args := [d1, d2, d3] }
  | _ => none }
def ledgerStepsRow : OpenClaim := { program := "ytfeglnpmpgipiaagreatdoor", sum := "6fdeea00db0283848c3d6c76ed728f0eb5fcbe0c06ae7c32b611c4947e94c55c", func := "bollard/bollardlaw12.LedgerSteps", spec := "ledgerSteps", inPlace := ["slices.overlaps[bollard/api.Bucket]", "slices.overlaps[bollard/api.Id]", "slices.overlaps[bollard/api.Object]", "slices.overlaps[bollard/api.Upload]", "slices.overlaps[bollard/api.Part]", "internal/abi.NoEscape"], unfollowed := true, recurses := true, named := ["bollard/api.ErrFull", "internal/strconv.uint64pow10", "math/bits.deBruijn32tab", "math/bits.deBruijn64tab", "bollard/api.ErrGone"], apart := false, laid := [("math/bits.deBruijn32tab", laid_math_bits_deBruijn32tab), ("math/bits.deBruijn64tab", laid_math_bits_deBruijn64tab), ("internal/strconv.uint64pow10", laid_internal_strconv_uint64pow10), ("bollard/api.ErrGone", laid_bollard_api_ErrGone), ("bollard/api.ErrFull", laid_bollard_api_ErrFull)] }
def LedgerStepsSaid : Prop := ledgerStepsRow.holds Tryz.pinned (OpenSpec.ofChange ledgerStepsSpec)

/-- ITS FALSE NEIGHBOUR: 'it returns false'. Refute it at one input. -/
def ledgerStepsWrong : ChangeSpec := { name := "ledgerSteps", fn := fun _ => fun
  | [d1, d2, d3] => { results := [.lit (.bool false)], args := [d1, d2, d3] }
  | _ => none }
def LedgerStepsWrongFalsely : Prop := ledgerStepsRow.holds Tryz.pinned (OpenSpec.ofChange ledgerStepsWrong)

/- THE SECOND FORM. 'bulk': how many values and letters a reading holds, each counted each time it is reached (what is shared counts as often as it is met; a slice's spare places count too). A statement '..UptoSaid' is the law's where the arguments, and the package variables that the reading takes, are together of bulk at most 1048576: NARROWER than '..Said'. Prove '..Said' where nothing that the law and all that it calls make is longer than what came in: it says more and counts as full. Else prove '..UptoSaid'. A law counts once. -/
mutual
def uptoBulk {H : Type} : DataW H → Nat
  | .lit (.string bytes) => bytes.length + 1
  | .lit _ => 1
  | .nil => 1
  | .ptr d => uptoBulk d + 1
  | .slice elems spare => uptoBulkAll elems + uptoBulkAll spare + 1
  | .agg parts => uptoBulkAll parts + 1
  | .iface _ d => uptoBulk d + 1
  | .map entries => uptoBulkEntries entries + 1
  | .held _ => 1
def uptoBulkAll {H : Type} : List (DataW H) → Nat
  | [] => 0
  | d :: r => uptoBulk d + uptoBulkAll r
def uptoBulkEntries {H : Type} : List (Lit × DataW H) → Nat
  | [] => 0
  | x :: r => uptoBulkEntry x + uptoBulkEntries r
def uptoBulkEntry {H : Type} : Lit × DataW H → Nat
  | (.string bytes, d) => bytes.length + uptoBulk d + 1
  | (_, d) => uptoBulk d + 1
 end
def uptoSmall : (H : Type) → List (DataW H) → Bool := fun _ ds => decide (uptoBulkAll ds ≤ 1048576)
def OpenSpec.upto (s : _root_.Go.ChangeSpec) : _root_.Go.OpenSpec := { _root_.Go.OpenSpec.ofChange s with cond := some uptoSmall }

/-- 'bollardlaw11.CatalogPlays', WHERE WHAT IT READS IS OF BULK AT MOST 1048576: true; the input reads as it did. -/
def catalogPlaysUptoRow : OpenClaim := { program := "ytfeglnpmpgipiaagreatdoor", sum := "6fdeea00db0283848c3d6c76ed728f0eb5fcbe0c06ae7c32b611c4947e94c55c", func := "bollard/bollardlaw11.CatalogPlays", spec := "catalogPlays", inPlace := ["slices.overlaps[bollard/api.Bucket]", "slices.overlaps[bollard/api.Id]", "slices.overlaps[bollard/api.Object]", "slices.overlaps[bollard/api.Upload]", "slices.overlaps[bollard/api.Part]", "internal/abi.NoEscape"], unfollowed := true, recurses := true, named := ["internal/strconv.uint64pow10", "math/bits.deBruijn32tab", "math/bits.deBruijn64tab"], apart := false, laid := [("math/bits.deBruijn32tab", laid_math_bits_deBruijn32tab), ("math/bits.deBruijn64tab", laid_math_bits_deBruijn64tab), ("internal/strconv.uint64pow10", laid_internal_strconv_uint64pow10)], narrowed := true }
def CatalogPlaysUptoSaid : Prop := catalogPlaysUptoRow.holds Tryz.pinned (OpenSpec.upto catalogPlaysSpec)

/-- 'bollardlaw11.CatalogOrdered', WHERE WHAT IT READS IS OF BULK AT MOST 1048576: true; the input reads as it did. -/
def catalogOrderedUptoRow : OpenClaim := { program := "ytfeglnpmpgipiaagreatdoor", sum := "6fdeea00db0283848c3d6c76ed728f0eb5fcbe0c06ae7c32b611c4947e94c55c", func := "bollard/bollardlaw11.CatalogOrdered", spec := "catalogOrdered", inPlace := ["slices.overlaps[bollard/api.Bucket]", "slices.overlaps[bollard/api.Id]", "slices.overlaps[bollard/api.Object]", "slices.overlaps[bollard/api.Upload]", "slices.overlaps[bollard/api.Part]", "internal/abi.NoEscape"], unfollowed := true, recurses := true, named := ["internal/strconv.uint64pow10", "math/bits.deBruijn32tab", "math/bits.deBruijn64tab"], apart := false, laid := [("math/bits.deBruijn32tab", laid_math_bits_deBruijn32tab), ("math/bits.deBruijn64tab", laid_math_bits_deBruijn64tab), ("internal/strconv.uint64pow10", laid_internal_strconv_uint64pow10)], narrowed := true }
def CatalogOrderedUptoSaid : Prop := catalogOrderedUptoRow.holds Tryz.pinned (OpenSpec.upto catalogOrderedSpec)

/-- 'bollardlaw11.CatalogBack', WHERE WHAT IT READS IS OF BULK AT MOST 1048576: true; the input reads as it did. -/
def catalogBackUptoRow : OpenClaim := { program := "ytfeglnpmpgipiaagreatdoor", sum := "6fdeea00db0283848c3d6c76ed728f0eb5fcbe0c06ae7c32b611c4947e94c55c", func := "bollard/bollardlaw11.CatalogBack", spec := "catalogBack", inPlace := ["slices.overlaps[bollard/api.Bucket]", "slices.overlaps[bollard/api.Id]", "slices.overlaps[bollard/api.Object]", "slices.overlaps[bollard/api.Upload]", "slices.overlaps[bollard/api.Part]", "internal/abi.NoEscape"], unfollowed := true, recurses := true, named := ["internal/strconv.uint64pow10", "math/bits.deBruijn32tab", "math/bits.deBruijn64tab"], apart := false, laid := [("math/bits.deBruijn32tab", laid_math_bits_deBruijn32tab), ("math/bits.deBruijn64tab", laid_math_bits_deBruijn64tab), ("internal/strconv.uint64pow10", laid_internal_strconv_uint64pow10)], narrowed := true }
def CatalogBackUptoSaid : Prop := catalogBackUptoRow.holds Tryz.pinned (OpenSpec.upto catalogBackSpec)

/-- 'bollardlaw11.CatalogUploads', WHERE WHAT IT READS IS OF BULK AT MOST 1048576: true; the input reads as it did. -/
def catalogUploadsUptoRow : OpenClaim := { program := "ytfeglnpmpgipiaagreatdoor", sum := "6fdeea00db0283848c3d6c76ed728f0eb5fcbe0c06ae7c32b611c4947e94c55c", func := "bollard/bollardlaw11.CatalogUploads", spec := "catalogUploads", inPlace := ["slices.overlaps[bollard/api.Bucket]", "slices.overlaps[bollard/api.Id]", "slices.overlaps[bollard/api.Object]", "slices.overlaps[bollard/api.Upload]", "slices.overlaps[bollard/api.Part]", "internal/abi.NoEscape"], unfollowed := true, recurses := true, named := ["internal/strconv.uint64pow10", "math/bits.deBruijn32tab", "math/bits.deBruijn64tab"], apart := false, laid := [("math/bits.deBruijn32tab", laid_math_bits_deBruijn32tab), ("math/bits.deBruijn64tab", laid_math_bits_deBruijn64tab), ("internal/strconv.uint64pow10", laid_internal_strconv_uint64pow10)], narrowed := true }
def CatalogUploadsUptoSaid : Prop := catalogUploadsUptoRow.holds Tryz.pinned (OpenSpec.upto catalogUploadsSpec)

/-- 'bollardlaw11.CatalogCompletes', WHERE WHAT IT READS IS OF BULK AT MOST 1048576: true; the input reads as it did. -/
def catalogCompletesUptoRow : OpenClaim := { program := "ytfeglnpmpgipiaagreatdoor", sum := "6fdeea00db0283848c3d6c76ed728f0eb5fcbe0c06ae7c32b611c4947e94c55c", func := "bollard/bollardlaw11.CatalogCompletes", spec := "catalogCompletes", inPlace := ["slices.overlaps[bollard/api.Bucket]", "slices.overlaps[bollard/api.Id]", "slices.overlaps[bollard/api.Object]", "slices.overlaps[bollard/api.Upload]", "slices.overlaps[bollard/api.Part]", "internal/abi.NoEscape"], unfollowed := true, recurses := true, named := ["internal/strconv.uint64pow10", "math/bits.deBruijn32tab", "math/bits.deBruijn64tab"], apart := false, laid := [("math/bits.deBruijn32tab", laid_math_bits_deBruijn32tab), ("math/bits.deBruijn64tab", laid_math_bits_deBruijn64tab), ("internal/strconv.uint64pow10", laid_internal_strconv_uint64pow10)], narrowed := true }
def CatalogCompletesUptoSaid : Prop := catalogCompletesUptoRow.holds Tryz.pinned (OpenSpec.upto catalogCompletesSpec)

/-- 'bollardlaw11.CatalogApart', WHERE WHAT IT READS IS OF BULK AT MOST 1048576: true; the input reads as it did. -/
def catalogApartUptoRow : OpenClaim := { program := "ytfeglnpmpgipiaagreatdoor", sum := "6fdeea00db0283848c3d6c76ed728f0eb5fcbe0c06ae7c32b611c4947e94c55c", func := "bollard/bollardlaw11.CatalogApart", spec := "catalogApart", inPlace := ["slices.overlaps[bollard/api.Bucket]", "slices.overlaps[bollard/api.Id]", "slices.overlaps[bollard/api.Object]", "slices.overlaps[bollard/api.Upload]", "slices.overlaps[bollard/api.Part]", "internal/abi.NoEscape"], unfollowed := true, recurses := true, named := ["internal/strconv.uint64pow10", "math/bits.deBruijn32tab", "math/bits.deBruijn64tab"], apart := false, laid := [("math/bits.deBruijn32tab", laid_math_bits_deBruijn32tab), ("math/bits.deBruijn64tab", laid_math_bits_deBruijn64tab), ("internal/strconv.uint64pow10", laid_internal_strconv_uint64pow10)], narrowed := true }
def CatalogApartUptoSaid : Prop := catalogApartUptoRow.holds Tryz.pinned (OpenSpec.upto catalogApartSpec)

/-- 'bollardlaw12.LedgerFolds', WHERE WHAT IT READS IS OF BULK AT MOST 1048576: true; the input reads as it did. -/
def ledgerFoldsUptoRow : OpenClaim := { program := "ytfeglnpmpgipiaagreatdoor", sum := "6fdeea00db0283848c3d6c76ed728f0eb5fcbe0c06ae7c32b611c4947e94c55c", func := "bollard/bollardlaw12.LedgerFolds", spec := "ledgerFolds", inPlace := ["slices.overlaps[bollard/api.Bucket]", "slices.overlaps[bollard/api.Id]", "slices.overlaps[bollard/api.Object]", "slices.overlaps[bollard/api.Upload]", "slices.overlaps[bollard/api.Part]", "internal/abi.NoEscape"], unfollowed := true, recurses := true, named := ["bollard/api.ErrGone", "bollard/api.ErrFull", "internal/strconv.uint64pow10", "math/bits.deBruijn32tab", "math/bits.deBruijn64tab"], apart := false, laid := [("math/bits.deBruijn32tab", laid_math_bits_deBruijn32tab), ("math/bits.deBruijn64tab", laid_math_bits_deBruijn64tab), ("internal/strconv.uint64pow10", laid_internal_strconv_uint64pow10), ("bollard/api.ErrGone", laid_bollard_api_ErrGone), ("bollard/api.ErrFull", laid_bollard_api_ErrFull)], narrowed := true }
def LedgerFoldsUptoSaid : Prop := ledgerFoldsUptoRow.holds Tryz.pinned (OpenSpec.upto ledgerFoldsSpec)

/-- 'bollardlaw12.LedgerBegins', WHERE WHAT IT READS IS OF BULK AT MOST 1048576: true; the input reads as it did. -/
def ledgerBeginsUptoRow : OpenClaim := { program := "ytfeglnpmpgipiaagreatdoor", sum := "6fdeea00db0283848c3d6c76ed728f0eb5fcbe0c06ae7c32b611c4947e94c55c", func := "bollard/bollardlaw12.LedgerBegins", spec := "ledgerBegins", inPlace := ["slices.overlaps[bollard/api.Bucket]", "slices.overlaps[bollard/api.Id]", "slices.overlaps[bollard/api.Object]", "slices.overlaps[bollard/api.Upload]", "slices.overlaps[bollard/api.Part]", "internal/abi.NoEscape"], unfollowed := true, recurses := true, named := ["bollard/api.ErrFull", "internal/strconv.uint64pow10", "math/bits.deBruijn32tab", "math/bits.deBruijn64tab"], apart := false, laid := [("math/bits.deBruijn32tab", laid_math_bits_deBruijn32tab), ("math/bits.deBruijn64tab", laid_math_bits_deBruijn64tab), ("internal/strconv.uint64pow10", laid_internal_strconv_uint64pow10), ("bollard/api.ErrFull", laid_bollard_api_ErrFull)], narrowed := true }
def LedgerBeginsUptoSaid : Prop := ledgerBeginsUptoRow.holds Tryz.pinned (OpenSpec.upto ledgerBeginsSpec)

/-- 'bollardlaw11.CatalogFinds', WHERE WHAT IT READS IS OF BULK AT MOST 1048576: true; the input reads as it did. -/
def catalogFindsUptoRow : OpenClaim := { program := "ytfeglnpmpgipiaagreatdoor", sum := "6fdeea00db0283848c3d6c76ed728f0eb5fcbe0c06ae7c32b611c4947e94c55c", func := "bollard/bollardlaw11.CatalogFinds", spec := "catalogFinds", inPlace := ["slices.overlaps[bollard/api.Bucket]", "slices.overlaps[bollard/api.Id]", "slices.overlaps[bollard/api.Object]", "slices.overlaps[bollard/api.Upload]", "slices.overlaps[bollard/api.Part]", "internal/abi.NoEscape"], unfollowed := true, recurses := true, named := ["internal/strconv.uint64pow10", "math/bits.deBruijn32tab", "math/bits.deBruijn64tab"], apart := false, laid := [("math/bits.deBruijn32tab", laid_math_bits_deBruijn32tab), ("math/bits.deBruijn64tab", laid_math_bits_deBruijn64tab), ("internal/strconv.uint64pow10", laid_internal_strconv_uint64pow10)], narrowed := true }
def CatalogFindsUptoSaid : Prop := catalogFindsUptoRow.holds Tryz.pinned (OpenSpec.upto catalogFindsSpec)

/-- 'bollardlaw12.LedgerGrows', WHERE WHAT IT READS IS OF BULK AT MOST 1048576: true; the input reads as it did. -/
def ledgerGrowsUptoRow : OpenClaim := { program := "ytfeglnpmpgipiaagreatdoor", sum := "6fdeea00db0283848c3d6c76ed728f0eb5fcbe0c06ae7c32b611c4947e94c55c", func := "bollard/bollardlaw12.LedgerGrows", spec := "ledgerGrows", inPlace := ["slices.overlaps[bollard/api.Bucket]", "slices.overlaps[bollard/api.Id]", "slices.overlaps[bollard/api.Object]", "slices.overlaps[bollard/api.Upload]", "slices.overlaps[bollard/api.Part]", "internal/abi.NoEscape"], unfollowed := true, recurses := true, named := ["bollard/api.ErrFull", "internal/strconv.uint64pow10", "math/bits.deBruijn32tab", "math/bits.deBruijn64tab", "bollard/api.ErrGone"], apart := false, laid := [("math/bits.deBruijn32tab", laid_math_bits_deBruijn32tab), ("math/bits.deBruijn64tab", laid_math_bits_deBruijn64tab), ("internal/strconv.uint64pow10", laid_internal_strconv_uint64pow10), ("bollard/api.ErrGone", laid_bollard_api_ErrGone), ("bollard/api.ErrFull", laid_bollard_api_ErrFull)], narrowed := true }
def LedgerGrowsUptoSaid : Prop := ledgerGrowsUptoRow.holds Tryz.pinned (OpenSpec.upto ledgerGrowsSpec)

/-- 'bollardlaw12.LedgerSteps', WHERE WHAT IT READS IS OF BULK AT MOST 1048576: true; the input reads as it did. -/
def ledgerStepsUptoRow : OpenClaim := { program := "ytfeglnpmpgipiaagreatdoor", sum := "6fdeea00db0283848c3d6c76ed728f0eb5fcbe0c06ae7c32b611c4947e94c55c", func := "bollard/bollardlaw12.LedgerSteps", spec := "ledgerSteps", inPlace := ["slices.overlaps[bollard/api.Bucket]", "slices.overlaps[bollard/api.Id]", "slices.overlaps[bollard/api.Object]", "slices.overlaps[bollard/api.Upload]", "slices.overlaps[bollard/api.Part]", "internal/abi.NoEscape"], unfollowed := true, recurses := true, named := ["bollard/api.ErrFull", "internal/strconv.uint64pow10", "math/bits.deBruijn32tab", "math/bits.deBruijn64tab", "bollard/api.ErrGone"], apart := false, laid := [("math/bits.deBruijn32tab", laid_math_bits_deBruijn32tab), ("math/bits.deBruijn64tab", laid_math_bits_deBruijn64tab), ("internal/strconv.uint64pow10", laid_internal_strconv_uint64pow10), ("bollard/api.ErrGone", laid_bollard_api_ErrGone), ("bollard/api.ErrFull", laid_bollard_api_ErrFull)], narrowed := true }
def LedgerStepsUptoSaid : Prop := ledgerStepsUptoRow.holds Tryz.pinned (OpenSpec.upto ledgerStepsSpec)

end Rows
end Go.Proofs.YtfeglnpmpgipiaaGreatDoor
