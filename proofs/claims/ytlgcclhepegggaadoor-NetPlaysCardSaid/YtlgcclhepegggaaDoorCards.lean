/-
  DERIVED. GIVEN WITH THE SEED: THE CARDS: each row of YtlgcclhepegggaaDoorRows.lean that lists a variable, with what it lists TIED to the program's text (the seventh form; the later family's looks); each row that meets fmt, with fmt's text TOLD by the authors' own Lean function (tested against real Go, not proved from fmt's source: count such statements apart). THE CARD IS WHAT COUNTS. Prove the row's statement (the work); the ties are given (YtlgcclhepegggaaDoorTie.lean); close each card by the builder's one call (the guide's Derived/Test/ToyasCard.lean, 'card_holds'). Laid BY PROGRAM, IN A SANDBOX (cutbox-door.mjs). By AI agents, Wed Nov 11 2026. No macro, syntax, notation, axiom, sorry.
-/
import Derived.Test.YtlgcclhepegggaaDoorRows
import GoSem.ClaimSeven
namespace Go.Proofs.YtlgcclhepegggaaDoor
namespace Rows

/-- THE TIED CARD OF 'bollardlaw14.NetOrders'. -/
def netOrdersCard : Claim7 := { stood := { row := netOrdersRow, standIns := [], harness := (true, "06aa2d7296be9166f865222546ad7312037e7a2eba30deaa7a368ed385d04a7f"), looks := true }, kinds := [], alts := [], laidByText := true, laidKinds := [.sentinel, .sentinel, .sentinel], laidTests := true, laidLooks := .later }
def NetOrdersCardSaid : Prop := Claim7.holds Tryd.pinned (.plain (OpenSpec.ofChange netOrdersSpec)) netOrdersCard

/-- THE TIED CARD OF 'bollardlaw14.NetCounts'. -/
def netCountsCard : Claim7 := { stood := { row := netCountsRow, standIns := [], harness := (true, "06aa2d7296be9166f865222546ad7312037e7a2eba30deaa7a368ed385d04a7f"), looks := true }, kinds := [], alts := [], laidByText := true, laidKinds := [.sentinel, .sentinel, .sentinel], laidTests := true, laidLooks := .later }
def NetCountsCardSaid : Prop := Claim7.holds Tryd.pinned (.plain (OpenSpec.ofChange netCountsSpec)) netCountsCard

/-- THE TIED CARD OF 'bollardlaw14.NetPlays'. -/
def netPlaysCard : Claim7 := { stood := { row := netPlaysRow, standIns := [], harness := (true, "06aa2d7296be9166f865222546ad7312037e7a2eba30deaa7a368ed385d04a7f"), looks := true }, kinds := [], alts := [], laidByText := true, laidKinds := [.sentinel, .sentinel, .sentinel, .sentinel, .sentinel, .sentinel, .sentinel, .sentinel, .sentinel, .sentinel, .sentinel, .sentinel, .sentinel, .sentinel, .sentinel, .sentinel, .sentinel, .sentinel], laidTests := true, laidLooks := .later }
def NetPlaysCardSaid : Prop := Claim7.holds Tryd.pinned (.plain (OpenSpec.ofChange netPlaysSpec)) netPlaysCard

/-- THE TIED CARD OF 'bollardlaw02.RsSizes'. -/
def rsSizesCard : Claim7 := { stood := { row := rsSizesRow, standIns := [], harness := (true, "06aa2d7296be9166f865222546ad7312037e7a2eba30deaa7a368ed385d04a7f"), looks := true }, kinds := [], alts := [], laidByText := true, laidKinds := [.sentinel, .sentinel, .sentinel, .sentinel, .sentinel, .sentinel, .sentinel, .sentinel, .sentinel, .sentinel, .sentinel, .sentinel, .sentinel, .sentinel, .sentinel, .sentinel, .sentinel, .sentinel], laidTests := true, laidLooks := .later }
def RsSizesCardSaid : Prop := Claim7.holds Tryd.pinned (.plain (OpenSpec.ofChange rsSizesSpec)) rsSizesCard

/-- THE TIED CARD OF 'bollardlaw02.RsEncodes'. -/
def rsEncodesCard : Claim7 := { stood := { row := rsEncodesRow, standIns := [], harness := (true, "06aa2d7296be9166f865222546ad7312037e7a2eba30deaa7a368ed385d04a7f"), looks := true }, kinds := [], alts := [], laidByText := true, laidKinds := [.sentinel, .sentinel, .sentinel, .sentinel, .sentinel, .sentinel, .sentinel, .sentinel, .sentinel, .sentinel, .sentinel, .sentinel, .sentinel, .sentinel, .sentinel, .sentinel, .sentinel, .sentinel], laidTests := true, laidLooks := .later }
def RsEncodesCardSaid : Prop := Claim7.holds Tryd.pinned (.plain (OpenSpec.ofChange rsEncodesSpec)) rsEncodesCard

/-- THE TIED CARD OF 'bollardlaw02.RsLinear'. -/
def rsLinearCard : Claim7 := { stood := { row := rsLinearRow, standIns := [], harness := (true, "06aa2d7296be9166f865222546ad7312037e7a2eba30deaa7a368ed385d04a7f"), looks := true }, kinds := [], alts := [], laidByText := true, laidKinds := [.sentinel, .sentinel, .sentinel, .sentinel], laidTests := true, laidLooks := .later }
def RsLinearCardSaid : Prop := Claim7.holds Tryd.pinned (.plain (OpenSpec.ofChange rsLinearSpec)) rsLinearCard

/-- THE TIED CARD OF 'bollardlaw02.RsFew'. -/
def rsFewCard : Claim7 := { stood := { row := rsFewRow, standIns := [], harness := (true, "06aa2d7296be9166f865222546ad7312037e7a2eba30deaa7a368ed385d04a7f"), looks := true }, kinds := [], alts := [], laidByText := true, laidKinds := [.sentinel, .sentinel, .sentinel, .sentinel], laidTests := true, laidLooks := .later }
def RsFewCardSaid : Prop := Claim7.holds Tryd.pinned (.plain (OpenSpec.ofChange rsFewSpec)) rsFewCard

/-- THE TIED CARD OF 'bollardlaw02.RsSystematic'. -/
def rsSystematicCard : Claim7 := { stood := { row := rsSystematicRow, standIns := [], harness := (true, "06aa2d7296be9166f865222546ad7312037e7a2eba30deaa7a368ed385d04a7f"), looks := true }, kinds := [], alts := [], laidByText := true, laidKinds := [.sentinel, .sentinel, .sentinel, .sentinel], laidTests := true, laidLooks := .later }
def RsSystematicCardSaid : Prop := Claim7.holds Tryd.pinned (.plain (OpenSpec.ofChange rsSystematicSpec)) rsSystematicCard

/-- THE TIED CARD OF 'bollardlaw02.RsAny'. -/
def rsAnyCard : Claim7 := { stood := { row := rsAnyRow, standIns := [], harness := (true, "06aa2d7296be9166f865222546ad7312037e7a2eba30deaa7a368ed385d04a7f"), looks := true }, kinds := [], alts := [], laidByText := true, laidKinds := [.sentinel, .sentinel, .sentinel, .sentinel], laidTests := true, laidLooks := .later }
def RsAnyCardSaid : Prop := Claim7.holds Tryd.pinned (.plain (OpenSpec.ofChange rsAnySpec)) rsAnyCard

/-- THE SECOND FORM's CARD OF 'bollardlaw14.NetOrders'. -/
def netOrdersUptoCard : Claim7 := { stood := { row := netOrdersUptoRow, standIns := [], harness := (true, "06aa2d7296be9166f865222546ad7312037e7a2eba30deaa7a368ed385d04a7f"), looks := true }, kinds := [], alts := [], laidByText := true, laidKinds := [.sentinel, .sentinel, .sentinel], laidTests := true, laidLooks := .later }
def NetOrdersUptoCardSaid : Prop := Claim7.holds Tryd.pinned (.plain (OpenSpec.upto netOrdersSpec)) netOrdersUptoCard

/-- THE SECOND FORM's CARD OF 'bollardlaw14.NetCounts'. -/
def netCountsUptoCard : Claim7 := { stood := { row := netCountsUptoRow, standIns := [], harness := (true, "06aa2d7296be9166f865222546ad7312037e7a2eba30deaa7a368ed385d04a7f"), looks := true }, kinds := [], alts := [], laidByText := true, laidKinds := [.sentinel, .sentinel, .sentinel], laidTests := true, laidLooks := .later }
def NetCountsUptoCardSaid : Prop := Claim7.holds Tryd.pinned (.plain (OpenSpec.upto netCountsSpec)) netCountsUptoCard

/-- THE SECOND FORM's CARD OF 'bollardlaw14.NetPlays'. -/
def netPlaysUptoCard : Claim7 := { stood := { row := netPlaysUptoRow, standIns := [], harness := (true, "06aa2d7296be9166f865222546ad7312037e7a2eba30deaa7a368ed385d04a7f"), looks := true }, kinds := [], alts := [], laidByText := true, laidKinds := [.sentinel, .sentinel, .sentinel, .sentinel, .sentinel, .sentinel, .sentinel, .sentinel, .sentinel, .sentinel, .sentinel, .sentinel, .sentinel, .sentinel, .sentinel, .sentinel, .sentinel, .sentinel], laidTests := true, laidLooks := .later }
def NetPlaysUptoCardSaid : Prop := Claim7.holds Tryd.pinned (.plain (OpenSpec.upto netPlaysSpec)) netPlaysUptoCard

/-- THE SECOND FORM's CARD OF 'bollardlaw02.RsSizes'. -/
def rsSizesUptoCard : Claim7 := { stood := { row := rsSizesUptoRow, standIns := [], harness := (true, "06aa2d7296be9166f865222546ad7312037e7a2eba30deaa7a368ed385d04a7f"), looks := true }, kinds := [], alts := [], laidByText := true, laidKinds := [.sentinel, .sentinel, .sentinel, .sentinel, .sentinel, .sentinel, .sentinel, .sentinel, .sentinel, .sentinel, .sentinel, .sentinel, .sentinel, .sentinel, .sentinel, .sentinel, .sentinel, .sentinel], laidTests := true, laidLooks := .later }
def RsSizesUptoCardSaid : Prop := Claim7.holds Tryd.pinned (.plain (OpenSpec.upto rsSizesSpec)) rsSizesUptoCard

/-- THE SECOND FORM's CARD OF 'bollardlaw02.RsEncodes'. -/
def rsEncodesUptoCard : Claim7 := { stood := { row := rsEncodesUptoRow, standIns := [], harness := (true, "06aa2d7296be9166f865222546ad7312037e7a2eba30deaa7a368ed385d04a7f"), looks := true }, kinds := [], alts := [], laidByText := true, laidKinds := [.sentinel, .sentinel, .sentinel, .sentinel, .sentinel, .sentinel, .sentinel, .sentinel, .sentinel, .sentinel, .sentinel, .sentinel, .sentinel, .sentinel, .sentinel, .sentinel, .sentinel, .sentinel], laidTests := true, laidLooks := .later }
def RsEncodesUptoCardSaid : Prop := Claim7.holds Tryd.pinned (.plain (OpenSpec.upto rsEncodesSpec)) rsEncodesUptoCard

/-- THE SECOND FORM's CARD OF 'bollardlaw02.RsLinear'. -/
def rsLinearUptoCard : Claim7 := { stood := { row := rsLinearUptoRow, standIns := [], harness := (true, "06aa2d7296be9166f865222546ad7312037e7a2eba30deaa7a368ed385d04a7f"), looks := true }, kinds := [], alts := [], laidByText := true, laidKinds := [.sentinel, .sentinel, .sentinel, .sentinel], laidTests := true, laidLooks := .later }
def RsLinearUptoCardSaid : Prop := Claim7.holds Tryd.pinned (.plain (OpenSpec.upto rsLinearSpec)) rsLinearUptoCard

/-- THE SECOND FORM's CARD OF 'bollardlaw02.RsFew'. -/
def rsFewUptoCard : Claim7 := { stood := { row := rsFewUptoRow, standIns := [], harness := (true, "06aa2d7296be9166f865222546ad7312037e7a2eba30deaa7a368ed385d04a7f"), looks := true }, kinds := [], alts := [], laidByText := true, laidKinds := [.sentinel, .sentinel, .sentinel, .sentinel], laidTests := true, laidLooks := .later }
def RsFewUptoCardSaid : Prop := Claim7.holds Tryd.pinned (.plain (OpenSpec.upto rsFewSpec)) rsFewUptoCard

/-- THE SECOND FORM's CARD OF 'bollardlaw02.RsSystematic'. -/
def rsSystematicUptoCard : Claim7 := { stood := { row := rsSystematicUptoRow, standIns := [], harness := (true, "06aa2d7296be9166f865222546ad7312037e7a2eba30deaa7a368ed385d04a7f"), looks := true }, kinds := [], alts := [], laidByText := true, laidKinds := [.sentinel, .sentinel, .sentinel, .sentinel], laidTests := true, laidLooks := .later }
def RsSystematicUptoCardSaid : Prop := Claim7.holds Tryd.pinned (.plain (OpenSpec.upto rsSystematicSpec)) rsSystematicUptoCard

/-- THE SECOND FORM's CARD OF 'bollardlaw02.RsAny'. -/
def rsAnyUptoCard : Claim7 := { stood := { row := rsAnyUptoRow, standIns := [], harness := (true, "06aa2d7296be9166f865222546ad7312037e7a2eba30deaa7a368ed385d04a7f"), looks := true }, kinds := [], alts := [], laidByText := true, laidKinds := [.sentinel, .sentinel, .sentinel, .sentinel], laidTests := true, laidLooks := .later }
def RsAnyUptoCardSaid : Prop := Claim7.holds Tryd.pinned (.plain (OpenSpec.upto rsAnySpec)) rsAnyUptoCard
end Rows
end Go.Proofs.YtlgcclhepegggaaDoor
