/-
  DERIVED. GIVEN WITH THE SEED: THE CARDS: each row of YtfoplbolbjcggaaDoorRows.lean that lists a variable, with what it lists TIED to the program's text (the seventh form; the later family's looks); each row that meets fmt, with fmt's text TOLD by the authors' own Lean function (tested against real Go, not proved from fmt's source: count such statements apart). THE CARD IS WHAT COUNTS. Prove the row's statement (the work); the ties are given (YtfoplbolbjcggaaDoorTie.lean); close each card by the builder's one call (the guide's Derived/Test/ToyasCard.lean, 'card_holds'). Laid BY PROGRAM, IN A SANDBOX (cutbox-door.mjs). By AI agents, Wed Nov 11 2026. No macro, syntax, notation, axiom, sorry.
-/
import Derived.Test.YtfoplbolbjcggaaDoorRows
import GoSem.ClaimSeven
namespace Go.Proofs.YtfoplbolbjcggaaDoor
namespace Rows

/-- THE TIED CARD OF 'bollardlaw06.FrameBlocks'. -/
def frameBlocksCard : Claim7 := { stood := { row := frameBlocksRow, standIns := [], harness := (true, "dc889b9d4d3606de5592c8e8c4417aba9702fb5ebc79152b472c5564b1455765"), looks := true }, kinds := [], alts := [], laidByText := true, laidKinds := [.sentinel, .sentinel], laidTests := true, laidLooks := .later }
def FrameBlocksCardSaid : Prop := Claim7.holds Tryd.pinned (.plain (OpenSpec.ofChange frameBlocksSpec)) frameBlocksCard

/-- THE TIED CARD OF 'bollardlaw06.FrameWhole'. -/
def frameWholeCard : Claim7 := { stood := { row := frameWholeRow, standIns := [], harness := (true, "dc889b9d4d3606de5592c8e8c4417aba9702fb5ebc79152b472c5564b1455765"), looks := true }, kinds := [], alts := [], laidByText := true, laidKinds := [.sentinel, .sentinel], laidTests := true, laidLooks := .later }
def FrameWholeCardSaid : Prop := Claim7.holds Tryd.pinned (.plain (OpenSpec.ofChange frameWholeSpec)) frameWholeCard

/-- THE TIED CARD OF 'bollardlaw20.ListPages'. -/
def listPagesCard : Claim7 := { stood := { row := listPagesRow, standIns := [], harness := (true, "dc889b9d4d3606de5592c8e8c4417aba9702fb5ebc79152b472c5564b1455765"), looks := true }, kinds := [], alts := [], laidByText := true, laidKinds := [.sentinel, .sentinel, .sentinel, .sentinel, .sentinel, .sentinel, .sentinel, .sentinel, .sentinel, .sentinel, .sentinel, .sentinel, .sentinel, .sentinel, .sentinel, .sentinel, .sentinel, .sentinel], laidTests := true, laidLooks := .later }
def ListPagesCardSaid : Prop := Claim7.holds Tryd.pinned (.plain (OpenSpec.ofChange listPagesSpec)) listPagesCard

/-- THE TIED CARD OF 'bollardlaw20.ListEntries'. -/
def listEntriesCard : Claim7 := { stood := { row := listEntriesRow, standIns := [], harness := (true, "dc889b9d4d3606de5592c8e8c4417aba9702fb5ebc79152b472c5564b1455765"), looks := true }, kinds := [], alts := [], laidByText := true, laidKinds := [.sentinel, .sentinel], laidTests := true, laidLooks := .later }
def ListEntriesCardSaid : Prop := Claim7.holds Tryd.pinned (.plain (OpenSpec.ofChange listEntriesSpec)) listEntriesCard

/-- THE TIED CARD OF 'bollardlaw20.ListChains'. -/
def listChainsCard : Claim7 := { stood := { row := listChainsRow, standIns := [], harness := (true, "dc889b9d4d3606de5592c8e8c4417aba9702fb5ebc79152b472c5564b1455765"), looks := true }, kinds := [], alts := [], laidByText := true, laidKinds := [.sentinel, .sentinel], laidTests := true, laidLooks := .later }
def ListChainsCardSaid : Prop := Claim7.holds Tryd.pinned (.plain (OpenSpec.ofChange listChainsSpec)) listChainsCard

/-- THE TIED CARD OF 'bollardlaw20.ListCovers'. -/
def listCoversCard : Claim7 := { stood := { row := listCoversRow, standIns := [], harness := (true, "dc889b9d4d3606de5592c8e8c4417aba9702fb5ebc79152b472c5564b1455765"), looks := true }, kinds := [], alts := [], laidByText := true, laidKinds := [.sentinel, .sentinel], laidTests := true, laidLooks := .later }
def ListCoversCardSaid : Prop := Claim7.holds Tryd.pinned (.plain (OpenSpec.ofChange listCoversSpec)) listCoversCard

/-- THE TIED CARD OF 'bollardlaw20.ListGrows'. -/
def listGrowsCard : Claim7 := { stood := { row := listGrowsRow, standIns := [], harness := (true, "dc889b9d4d3606de5592c8e8c4417aba9702fb5ebc79152b472c5564b1455765"), looks := true }, kinds := [], alts := [], laidByText := true, laidKinds := [.sentinel, .sentinel], laidTests := true, laidLooks := .later }
def ListGrowsCardSaid : Prop := Claim7.holds Tryd.pinned (.plain (OpenSpec.ofChange listGrowsSpec)) listGrowsCard

/-- THE TIED CARD OF 'bollardlaw06.FrameSlips'. -/
def frameSlipsCard : Claim7 := { stood := { row := frameSlipsRow, standIns := [], harness := (true, "dc889b9d4d3606de5592c8e8c4417aba9702fb5ebc79152b472c5564b1455765"), looks := true }, kinds := [], alts := [], laidByText := true, laidKinds := [.sentinel, .sentinel, .sentinel, .sentinel], laidTests := true, laidLooks := .later }
def FrameSlipsCardSaid : Prop := Claim7.holds Tryd.pinned (.plain (OpenSpec.ofChange frameSlipsSpec)) frameSlipsCard

/-- THE TIED CARD OF 'bollardlaw06.FramePuts'. -/
def framePutsCard : Claim7 := { stood := { row := framePutsRow, standIns := [], harness := (true, "dc889b9d4d3606de5592c8e8c4417aba9702fb5ebc79152b472c5564b1455765"), looks := true }, kinds := [], alts := [], laidByText := true, laidKinds := [.sentinel, .sentinel, .sentinel, .sentinel], laidTests := true, laidLooks := .later }
def FramePutsCardSaid : Prop := Claim7.holds Tryd.pinned (.plain (OpenSpec.ofChange framePutsSpec)) framePutsCard

/-- THE TIED CARD OF 'bollardlaw06.FrameHeads'. -/
def frameHeadsCard : Claim7 := { stood := { row := frameHeadsRow, standIns := [], harness := (true, "dc889b9d4d3606de5592c8e8c4417aba9702fb5ebc79152b472c5564b1455765"), looks := true }, kinds := [], alts := [], laidByText := true, laidKinds := [.sentinel, .sentinel, .sentinel, .sentinel], laidTests := true, laidLooks := .later }
def FrameHeadsCardSaid : Prop := Claim7.holds Tryd.pinned (.plain (OpenSpec.ofChange frameHeadsSpec)) frameHeadsCard

/-- THE TIED CARD OF 'bollardlaw22.HealShards'. -/
def healShardsCard : Claim7 := { stood := { row := healShardsRow, standIns := [], harness := (true, "dc889b9d4d3606de5592c8e8c4417aba9702fb5ebc79152b472c5564b1455765"), looks := true }, kinds := [], alts := [], laidByText := true, laidKinds := [.sentinel, .sentinel, .sentinel, .sentinel, .sentinel], laidTests := true, laidLooks := .later }
def HealShardsCardSaid : Prop := Claim7.holds Tryd.pinned (.plain (OpenSpec.ofChange healShardsSpec)) healShardsCard

/-- THE TIED CARD OF 'bollardlaw22.HealDecodes'. -/
def healDecodesCard : Claim7 := { stood := { row := healDecodesRow, standIns := [], harness := (true, "dc889b9d4d3606de5592c8e8c4417aba9702fb5ebc79152b472c5564b1455765"), looks := true }, kinds := [], alts := [], laidByText := true, laidKinds := [.sentinel, .sentinel, .sentinel, .sentinel, .sentinel, .sentinel], laidTests := true, laidLooks := .later }
def HealDecodesCardSaid : Prop := Claim7.holds Tryd.pinned (.plain (OpenSpec.ofChange healDecodesSpec)) healDecodesCard

/-- THE SECOND FORM's CARD OF 'bollardlaw06.FrameBlocks'. -/
def frameBlocksUptoCard : Claim7 := { stood := { row := frameBlocksUptoRow, standIns := [], harness := (true, "dc889b9d4d3606de5592c8e8c4417aba9702fb5ebc79152b472c5564b1455765"), looks := true }, kinds := [], alts := [], laidByText := true, laidKinds := [.sentinel, .sentinel], laidTests := true, laidLooks := .later }
def FrameBlocksUptoCardSaid : Prop := Claim7.holds Tryd.pinned (.plain (OpenSpec.upto frameBlocksSpec)) frameBlocksUptoCard

/-- THE SECOND FORM's CARD OF 'bollardlaw06.FrameWhole'. -/
def frameWholeUptoCard : Claim7 := { stood := { row := frameWholeUptoRow, standIns := [], harness := (true, "dc889b9d4d3606de5592c8e8c4417aba9702fb5ebc79152b472c5564b1455765"), looks := true }, kinds := [], alts := [], laidByText := true, laidKinds := [.sentinel, .sentinel], laidTests := true, laidLooks := .later }
def FrameWholeUptoCardSaid : Prop := Claim7.holds Tryd.pinned (.plain (OpenSpec.upto frameWholeSpec)) frameWholeUptoCard

/-- THE SECOND FORM's CARD OF 'bollardlaw20.ListPages'. -/
def listPagesUptoCard : Claim7 := { stood := { row := listPagesUptoRow, standIns := [], harness := (true, "dc889b9d4d3606de5592c8e8c4417aba9702fb5ebc79152b472c5564b1455765"), looks := true }, kinds := [], alts := [], laidByText := true, laidKinds := [.sentinel, .sentinel, .sentinel, .sentinel, .sentinel, .sentinel, .sentinel, .sentinel, .sentinel, .sentinel, .sentinel, .sentinel, .sentinel, .sentinel, .sentinel, .sentinel, .sentinel, .sentinel], laidTests := true, laidLooks := .later }
def ListPagesUptoCardSaid : Prop := Claim7.holds Tryd.pinned (.plain (OpenSpec.upto listPagesSpec)) listPagesUptoCard

/-- THE SECOND FORM's CARD OF 'bollardlaw20.ListEntries'. -/
def listEntriesUptoCard : Claim7 := { stood := { row := listEntriesUptoRow, standIns := [], harness := (true, "dc889b9d4d3606de5592c8e8c4417aba9702fb5ebc79152b472c5564b1455765"), looks := true }, kinds := [], alts := [], laidByText := true, laidKinds := [.sentinel, .sentinel], laidTests := true, laidLooks := .later }
def ListEntriesUptoCardSaid : Prop := Claim7.holds Tryd.pinned (.plain (OpenSpec.upto listEntriesSpec)) listEntriesUptoCard

/-- THE SECOND FORM's CARD OF 'bollardlaw20.ListChains'. -/
def listChainsUptoCard : Claim7 := { stood := { row := listChainsUptoRow, standIns := [], harness := (true, "dc889b9d4d3606de5592c8e8c4417aba9702fb5ebc79152b472c5564b1455765"), looks := true }, kinds := [], alts := [], laidByText := true, laidKinds := [.sentinel, .sentinel], laidTests := true, laidLooks := .later }
def ListChainsUptoCardSaid : Prop := Claim7.holds Tryd.pinned (.plain (OpenSpec.upto listChainsSpec)) listChainsUptoCard

/-- THE SECOND FORM's CARD OF 'bollardlaw20.ListCovers'. -/
def listCoversUptoCard : Claim7 := { stood := { row := listCoversUptoRow, standIns := [], harness := (true, "dc889b9d4d3606de5592c8e8c4417aba9702fb5ebc79152b472c5564b1455765"), looks := true }, kinds := [], alts := [], laidByText := true, laidKinds := [.sentinel, .sentinel], laidTests := true, laidLooks := .later }
def ListCoversUptoCardSaid : Prop := Claim7.holds Tryd.pinned (.plain (OpenSpec.upto listCoversSpec)) listCoversUptoCard

/-- THE SECOND FORM's CARD OF 'bollardlaw20.ListGrows'. -/
def listGrowsUptoCard : Claim7 := { stood := { row := listGrowsUptoRow, standIns := [], harness := (true, "dc889b9d4d3606de5592c8e8c4417aba9702fb5ebc79152b472c5564b1455765"), looks := true }, kinds := [], alts := [], laidByText := true, laidKinds := [.sentinel, .sentinel], laidTests := true, laidLooks := .later }
def ListGrowsUptoCardSaid : Prop := Claim7.holds Tryd.pinned (.plain (OpenSpec.upto listGrowsSpec)) listGrowsUptoCard

/-- THE SECOND FORM's CARD OF 'bollardlaw06.FrameSlips'. -/
def frameSlipsUptoCard : Claim7 := { stood := { row := frameSlipsUptoRow, standIns := [], harness := (true, "dc889b9d4d3606de5592c8e8c4417aba9702fb5ebc79152b472c5564b1455765"), looks := true }, kinds := [], alts := [], laidByText := true, laidKinds := [.sentinel, .sentinel, .sentinel, .sentinel], laidTests := true, laidLooks := .later }
def FrameSlipsUptoCardSaid : Prop := Claim7.holds Tryd.pinned (.plain (OpenSpec.upto frameSlipsSpec)) frameSlipsUptoCard

/-- THE SECOND FORM's CARD OF 'bollardlaw06.FramePuts'. -/
def framePutsUptoCard : Claim7 := { stood := { row := framePutsUptoRow, standIns := [], harness := (true, "dc889b9d4d3606de5592c8e8c4417aba9702fb5ebc79152b472c5564b1455765"), looks := true }, kinds := [], alts := [], laidByText := true, laidKinds := [.sentinel, .sentinel, .sentinel, .sentinel], laidTests := true, laidLooks := .later }
def FramePutsUptoCardSaid : Prop := Claim7.holds Tryd.pinned (.plain (OpenSpec.upto framePutsSpec)) framePutsUptoCard

/-- THE SECOND FORM's CARD OF 'bollardlaw06.FrameHeads'. -/
def frameHeadsUptoCard : Claim7 := { stood := { row := frameHeadsUptoRow, standIns := [], harness := (true, "dc889b9d4d3606de5592c8e8c4417aba9702fb5ebc79152b472c5564b1455765"), looks := true }, kinds := [], alts := [], laidByText := true, laidKinds := [.sentinel, .sentinel, .sentinel, .sentinel], laidTests := true, laidLooks := .later }
def FrameHeadsUptoCardSaid : Prop := Claim7.holds Tryd.pinned (.plain (OpenSpec.upto frameHeadsSpec)) frameHeadsUptoCard

/-- THE SECOND FORM's CARD OF 'bollardlaw22.HealShards'. -/
def healShardsUptoCard : Claim7 := { stood := { row := healShardsUptoRow, standIns := [], harness := (true, "dc889b9d4d3606de5592c8e8c4417aba9702fb5ebc79152b472c5564b1455765"), looks := true }, kinds := [], alts := [], laidByText := true, laidKinds := [.sentinel, .sentinel, .sentinel, .sentinel, .sentinel], laidTests := true, laidLooks := .later }
def HealShardsUptoCardSaid : Prop := Claim7.holds Tryd.pinned (.plain (OpenSpec.upto healShardsSpec)) healShardsUptoCard

/-- THE SECOND FORM's CARD OF 'bollardlaw22.HealDecodes'. -/
def healDecodesUptoCard : Claim7 := { stood := { row := healDecodesUptoRow, standIns := [], harness := (true, "dc889b9d4d3606de5592c8e8c4417aba9702fb5ebc79152b472c5564b1455765"), looks := true }, kinds := [], alts := [], laidByText := true, laidKinds := [.sentinel, .sentinel, .sentinel, .sentinel, .sentinel, .sentinel], laidTests := true, laidLooks := .later }
def HealDecodesUptoCardSaid : Prop := Claim7.holds Tryd.pinned (.plain (OpenSpec.upto healDecodesSpec)) healDecodesUptoCard
end Rows
end Go.Proofs.YtfoplbolbjcggaaDoor
