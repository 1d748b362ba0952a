/-
  DERIVED. GIVEN WITH THE SEED: THE CARDS: each row of YtfeglnpmpgipiaaGreatDoorRows.lean that lists a variable, with what it lists TIED to the program's text (the seventh form; the later family's looks); each row that meets fmt, with fmt's text TOLD by the authors' own Lean function (tested against real Go, not proved from fmt's source: count such statements apart). THE CARD IS WHAT COUNTS. Prove the row's statement (the work); the ties are given (YtfeglnpmpgipiaaGreatDoorTie.lean); close each card by the builder's one call (the guide's Derived/Test/ToyasCard.lean, 'card_holds'). Laid BY PROGRAM, IN A SANDBOX (cutbox-door.mjs). By AI agents, Wed Nov 11 2026. No macro, syntax, notation, axiom, sorry.
-/
import Derived.Test.YtfeglnpmpgipiaaGreatDoorRows
import GoSem.ClaimSeven
namespace Go.Proofs.YtfeglnpmpgipiaaGreatDoor
namespace Rows

/-- THE TIED CARD OF 'bollardlaw11.CatalogPlays'. -/
def catalogPlaysCard : Claim7 := { stood := { row := catalogPlaysRow, standIns := [], harness := (true, "ba2e4722a0d5669a42c03699bb59261b80bf0da4dccf491b85e6a9405806abd4"), looks := true }, kinds := [], alts := [], laidByText := true, laidKinds := [.data, .data, .data], laidTests := true, laidLooks := .later }
def CatalogPlaysCardSaid : Prop := Claim7.holds Tryz.pinned (.plain (OpenSpec.ofChange catalogPlaysSpec)) catalogPlaysCard

/-- THE TIED CARD OF 'bollardlaw11.CatalogOrdered'. -/
def catalogOrderedCard : Claim7 := { stood := { row := catalogOrderedRow, standIns := [], harness := (true, "ba2e4722a0d5669a42c03699bb59261b80bf0da4dccf491b85e6a9405806abd4"), looks := true }, kinds := [], alts := [], laidByText := true, laidKinds := [.data, .data, .data], laidTests := true, laidLooks := .later }
def CatalogOrderedCardSaid : Prop := Claim7.holds Tryz.pinned (.plain (OpenSpec.ofChange catalogOrderedSpec)) catalogOrderedCard

/-- THE TIED CARD OF 'bollardlaw11.CatalogBack'. -/
def catalogBackCard : Claim7 := { stood := { row := catalogBackRow, standIns := [], harness := (true, "ba2e4722a0d5669a42c03699bb59261b80bf0da4dccf491b85e6a9405806abd4"), looks := true }, kinds := [], alts := [], laidByText := true, laidKinds := [.data, .data, .data], laidTests := true, laidLooks := .later }
def CatalogBackCardSaid : Prop := Claim7.holds Tryz.pinned (.plain (OpenSpec.ofChange catalogBackSpec)) catalogBackCard

/-- THE TIED CARD OF 'bollardlaw11.CatalogUploads'. -/
def catalogUploadsCard : Claim7 := { stood := { row := catalogUploadsRow, standIns := [], harness := (true, "ba2e4722a0d5669a42c03699bb59261b80bf0da4dccf491b85e6a9405806abd4"), looks := true }, kinds := [], alts := [], laidByText := true, laidKinds := [.data, .data, .data], laidTests := true, laidLooks := .later }
def CatalogUploadsCardSaid : Prop := Claim7.holds Tryz.pinned (.plain (OpenSpec.ofChange catalogUploadsSpec)) catalogUploadsCard

/-- THE TIED CARD OF 'bollardlaw11.CatalogCompletes'. -/
def catalogCompletesCard : Claim7 := { stood := { row := catalogCompletesRow, standIns := [], harness := (true, "ba2e4722a0d5669a42c03699bb59261b80bf0da4dccf491b85e6a9405806abd4"), looks := true }, kinds := [], alts := [], laidByText := true, laidKinds := [.data, .data, .data], laidTests := true, laidLooks := .later }
def CatalogCompletesCardSaid : Prop := Claim7.holds Tryz.pinned (.plain (OpenSpec.ofChange catalogCompletesSpec)) catalogCompletesCard

/-- THE TIED CARD OF 'bollardlaw11.CatalogApart'. -/
def catalogApartCard : Claim7 := { stood := { row := catalogApartRow, standIns := [], harness := (true, "ba2e4722a0d5669a42c03699bb59261b80bf0da4dccf491b85e6a9405806abd4"), looks := true }, kinds := [], alts := [], laidByText := true, laidKinds := [.data, .data, .data], laidTests := true, laidLooks := .later }
def CatalogApartCardSaid : Prop := Claim7.holds Tryz.pinned (.plain (OpenSpec.ofChange catalogApartSpec)) catalogApartCard

/-- THE TIED CARD OF 'bollardlaw12.LedgerFolds'. -/
def ledgerFoldsCard : Claim7 := { stood := { row := ledgerFoldsRow, standIns := [], harness := (true, "ba2e4722a0d5669a42c03699bb59261b80bf0da4dccf491b85e6a9405806abd4"), looks := true }, kinds := [], alts := [], laidByText := true, laidKinds := [.data, .data, .data, .sentinel, .sentinel], laidTests := true, laidLooks := .later }
def LedgerFoldsCardSaid : Prop := Claim7.holds Tryz.pinned (.plain (OpenSpec.ofChange ledgerFoldsSpec)) ledgerFoldsCard

/-- THE TIED CARD OF 'bollardlaw12.LedgerBegins'. -/
def ledgerBeginsCard : Claim7 := { stood := { row := ledgerBeginsRow, standIns := [], harness := (true, "ba2e4722a0d5669a42c03699bb59261b80bf0da4dccf491b85e6a9405806abd4"), looks := true }, kinds := [], alts := [], laidByText := true, laidKinds := [.data, .data, .data, .sentinel], laidTests := true, laidLooks := .later }
def LedgerBeginsCardSaid : Prop := Claim7.holds Tryz.pinned (.plain (OpenSpec.ofChange ledgerBeginsSpec)) ledgerBeginsCard

/-- THE TIED CARD OF 'bollardlaw11.CatalogFinds'. -/
def catalogFindsCard : Claim7 := { stood := { row := catalogFindsRow, standIns := [], harness := (true, "ba2e4722a0d5669a42c03699bb59261b80bf0da4dccf491b85e6a9405806abd4"), looks := true }, kinds := [], alts := [], laidByText := true, laidKinds := [.data, .data, .data], laidTests := true, laidLooks := .later }
def CatalogFindsCardSaid : Prop := Claim7.holds Tryz.pinned (.plain (OpenSpec.ofChange catalogFindsSpec)) catalogFindsCard

/-- THE TIED CARD OF 'bollardlaw12.LedgerGrows'. -/
def ledgerGrowsCard : Claim7 := { stood := { row := ledgerGrowsRow, standIns := [], harness := (true, "ba2e4722a0d5669a42c03699bb59261b80bf0da4dccf491b85e6a9405806abd4"), looks := true }, kinds := [], alts := [], laidByText := true, laidKinds := [.data, .data, .data, .sentinel, .sentinel], laidTests := true, laidLooks := .later }
def LedgerGrowsCardSaid : Prop := Claim7.holds Tryz.pinned (.plain (OpenSpec.ofChange ledgerGrowsSpec)) ledgerGrowsCard

/-- THE TIED CARD OF 'bollardlaw12.LedgerSteps'. -/
def ledgerStepsCard : Claim7 := { stood := { row := ledgerStepsRow, standIns := [], harness := (true, "ba2e4722a0d5669a42c03699bb59261b80bf0da4dccf491b85e6a9405806abd4"), looks := true }, kinds := [], alts := [], laidByText := true, laidKinds := [.data, .data, .data, .sentinel, .sentinel], laidTests := true, laidLooks := .later }
def LedgerStepsCardSaid : Prop := Claim7.holds Tryz.pinned (.plain (OpenSpec.ofChange ledgerStepsSpec)) ledgerStepsCard

/-- THE SECOND FORM's CARD OF 'bollardlaw11.CatalogPlays'. -/
def catalogPlaysUptoCard : Claim7 := { stood := { row := catalogPlaysUptoRow, standIns := [], harness := (true, "ba2e4722a0d5669a42c03699bb59261b80bf0da4dccf491b85e6a9405806abd4"), looks := true }, kinds := [], alts := [], laidByText := true, laidKinds := [.data, .data, .data], laidTests := true, laidLooks := .later }
def CatalogPlaysUptoCardSaid : Prop := Claim7.holds Tryz.pinned (.plain (OpenSpec.upto catalogPlaysSpec)) catalogPlaysUptoCard

/-- THE SECOND FORM's CARD OF 'bollardlaw11.CatalogOrdered'. -/
def catalogOrderedUptoCard : Claim7 := { stood := { row := catalogOrderedUptoRow, standIns := [], harness := (true, "ba2e4722a0d5669a42c03699bb59261b80bf0da4dccf491b85e6a9405806abd4"), looks := true }, kinds := [], alts := [], laidByText := true, laidKinds := [.data, .data, .data], laidTests := true, laidLooks := .later }
def CatalogOrderedUptoCardSaid : Prop := Claim7.holds Tryz.pinned (.plain (OpenSpec.upto catalogOrderedSpec)) catalogOrderedUptoCard

/-- THE SECOND FORM's CARD OF 'bollardlaw11.CatalogBack'. -/
def catalogBackUptoCard : Claim7 := { stood := { row := catalogBackUptoRow, standIns := [], harness := (true, "ba2e4722a0d5669a42c03699bb59261b80bf0da4dccf491b85e6a9405806abd4"), looks := true }, kinds := [], alts := [], laidByText := true, laidKinds := [.data, .data, .data], laidTests := true, laidLooks := .later }
def CatalogBackUptoCardSaid : Prop := Claim7.holds Tryz.pinned (.plain (OpenSpec.upto catalogBackSpec)) catalogBackUptoCard

/-- THE SECOND FORM's CARD OF 'bollardlaw11.CatalogUploads'. -/
def catalogUploadsUptoCard : Claim7 := { stood := { row := catalogUploadsUptoRow, standIns := [], harness := (true, "ba2e4722a0d5669a42c03699bb59261b80bf0da4dccf491b85e6a9405806abd4"), looks := true }, kinds := [], alts := [], laidByText := true, laidKinds := [.data, .data, .data], laidTests := true, laidLooks := .later }
def CatalogUploadsUptoCardSaid : Prop := Claim7.holds Tryz.pinned (.plain (OpenSpec.upto catalogUploadsSpec)) catalogUploadsUptoCard

/-- THE SECOND FORM's CARD OF 'bollardlaw11.CatalogCompletes'. -/
def catalogCompletesUptoCard : Claim7 := { stood := { row := catalogCompletesUptoRow, standIns := [], harness := (true, "ba2e4722a0d5669a42c03699bb59261b80bf0da4dccf491b85e6a9405806abd4"), looks := true }, kinds := [], alts := [], laidByText := true, laidKinds := [.data, .data, .data], laidTests := true, laidLooks := .later }
def CatalogCompletesUptoCardSaid : Prop := Claim7.holds Tryz.pinned (.plain (OpenSpec.upto catalogCompletesSpec)) catalogCompletesUptoCard

/-- THE SECOND FORM's CARD OF 'bollardlaw11.CatalogApart'. -/
def catalogApartUptoCard : Claim7 := { stood := { row := catalogApartUptoRow, standIns := [], harness := (true, "ba2e4722a0d5669a42c03699bb59261b80bf0da4dccf491b85e6a9405806abd4"), looks := true }, kinds := [], alts := [], laidByText := true, laidKinds := [.data, .data, .data], laidTests := true, laidLooks := .later }
def CatalogApartUptoCardSaid : Prop := Claim7.holds Tryz.pinned (.plain (OpenSpec.upto catalogApartSpec)) catalogApartUptoCard

/-- THE SECOND FORM's CARD OF 'bollardlaw12.LedgerFolds'. -/
def ledgerFoldsUptoCard : Claim7 := { stood := { row := ledgerFoldsUptoRow, standIns := [], harness := (true, "ba2e4722a0d5669a42c03699bb59261b80bf0da4dccf491b85e6a9405806abd4"), looks := true }, kinds := [], alts := [], laidByText := true, laidKinds := [.data, .data, .data, .sentinel, .sentinel], laidTests := true, laidLooks := .later }
def LedgerFoldsUptoCardSaid : Prop := Claim7.holds Tryz.pinned (.plain (OpenSpec.upto ledgerFoldsSpec)) ledgerFoldsUptoCard

/-- THE SECOND FORM's CARD OF 'bollardlaw12.LedgerBegins'. -/
def ledgerBeginsUptoCard : Claim7 := { stood := { row := ledgerBeginsUptoRow, standIns := [], harness := (true, "ba2e4722a0d5669a42c03699bb59261b80bf0da4dccf491b85e6a9405806abd4"), looks := true }, kinds := [], alts := [], laidByText := true, laidKinds := [.data, .data, .data, .sentinel], laidTests := true, laidLooks := .later }
def LedgerBeginsUptoCardSaid : Prop := Claim7.holds Tryz.pinned (.plain (OpenSpec.upto ledgerBeginsSpec)) ledgerBeginsUptoCard

/-- THE SECOND FORM's CARD OF 'bollardlaw11.CatalogFinds'. -/
def catalogFindsUptoCard : Claim7 := { stood := { row := catalogFindsUptoRow, standIns := [], harness := (true, "ba2e4722a0d5669a42c03699bb59261b80bf0da4dccf491b85e6a9405806abd4"), looks := true }, kinds := [], alts := [], laidByText := true, laidKinds := [.data, .data, .data], laidTests := true, laidLooks := .later }
def CatalogFindsUptoCardSaid : Prop := Claim7.holds Tryz.pinned (.plain (OpenSpec.upto catalogFindsSpec)) catalogFindsUptoCard

/-- THE SECOND FORM's CARD OF 'bollardlaw12.LedgerGrows'. -/
def ledgerGrowsUptoCard : Claim7 := { stood := { row := ledgerGrowsUptoRow, standIns := [], harness := (true, "ba2e4722a0d5669a42c03699bb59261b80bf0da4dccf491b85e6a9405806abd4"), looks := true }, kinds := [], alts := [], laidByText := true, laidKinds := [.data, .data, .data, .sentinel, .sentinel], laidTests := true, laidLooks := .later }
def LedgerGrowsUptoCardSaid : Prop := Claim7.holds Tryz.pinned (.plain (OpenSpec.upto ledgerGrowsSpec)) ledgerGrowsUptoCard

/-- THE SECOND FORM's CARD OF 'bollardlaw12.LedgerSteps'. -/
def ledgerStepsUptoCard : Claim7 := { stood := { row := ledgerStepsUptoRow, standIns := [], harness := (true, "ba2e4722a0d5669a42c03699bb59261b80bf0da4dccf491b85e6a9405806abd4"), looks := true }, kinds := [], alts := [], laidByText := true, laidKinds := [.data, .data, .data, .sentinel, .sentinel], laidTests := true, laidLooks := .later }
def LedgerStepsUptoCardSaid : Prop := Claim7.holds Tryz.pinned (.plain (OpenSpec.upto ledgerStepsSpec)) ledgerStepsUptoCard
end Rows
end Go.Proofs.YtfeglnpmpgipiaaGreatDoor
