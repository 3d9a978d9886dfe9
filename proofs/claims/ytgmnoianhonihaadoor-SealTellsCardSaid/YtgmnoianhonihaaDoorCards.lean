/-
  DERIVED. GIVEN WITH THE SEED: THE CARDS: each row of YtgmnoianhonihaaDoorRows.lean that lists a variable, with what it lists TIED to the program's text (the seventh form; the later family's looks); each row that meets fmt, with fmt's text TOLD by the authors' own Lean function (tested against real Go, not proved from fmt's source: count such statements apart). THE CARD IS WHAT COUNTS. Prove the row's statement (the work); the ties are given (YtgmnoianhonihaaDoorTie.lean); close each card by the builder's one call (the guide's Derived/Test/ToyasCard.lean, 'card_holds'). Laid BY PROGRAM, IN A SANDBOX (cutbox-door.mjs). By AI agents, Wed Nov 11 2026. No macro, syntax, notation, axiom, sorry.
-/
import Derived.Test.YtgmnoianhonihaaDoorRows
import GoSem.ClaimSeven
namespace Go.Proofs.YtgmnoianhonihaaDoor
namespace Rows

/-- THE TIED CARD OF 'kitbaglaw01.WireWrites'. -/
def wireWritesCard : Claim7 := { stood := { row := wireWritesRow, standIns := [], harness := (true, "a1aea3ae17db24e3a6fd004d5ef9f560e7981f95691bc84498c9fa5aff8c531e"), looks := true }, kinds := [], alts := [], laidByText := true, laidKinds := [.data, .data, .data, .sentinel, .sentinel], laidTests := true, laidLooks := .later }
def WireWritesCardSaid : Prop := Claim7.holds Tryd.pinned (.plain (OpenSpec.ofChange wireWritesSpec)) wireWritesCard

/-- THE TIED CARD OF 'kitbaglaw01.WireAgain'. -/
def wireAgainCard : Claim7 := { stood := { row := wireAgainRow, standIns := [], harness := (true, "a1aea3ae17db24e3a6fd004d5ef9f560e7981f95691bc84498c9fa5aff8c531e"), looks := true }, kinds := [], alts := [], laidByText := true, laidKinds := [.data, .data, .data, .sentinel, .sentinel], laidTests := true, laidLooks := .later }
def WireAgainCardSaid : Prop := Claim7.holds Tryd.pinned (.plain (OpenSpec.ofChange wireAgainSpec)) wireAgainCard

/-- THE TIED CARD OF 'kitbaglaw01.WirePrefix'. -/
def wirePrefixCard : Claim7 := { stood := { row := wirePrefixRow, standIns := [], harness := (true, "a1aea3ae17db24e3a6fd004d5ef9f560e7981f95691bc84498c9fa5aff8c531e"), looks := true }, kinds := [], alts := [], laidByText := true, laidKinds := [.data, .data, .data, .sentinel, .sentinel], laidTests := true, laidLooks := .later }
def WirePrefixCardSaid : Prop := Claim7.holds Tryd.pinned (.plain (OpenSpec.ofChange wirePrefixSpec)) wirePrefixCard

/-- THE TIED CARD OF 'kitbaglaw01.WireNests'. -/
def wireNestsCard : Claim7 := { stood := { row := wireNestsRow, standIns := [], harness := (true, "a1aea3ae17db24e3a6fd004d5ef9f560e7981f95691bc84498c9fa5aff8c531e"), looks := true }, kinds := [], alts := [], laidByText := true, laidKinds := [.data, .data, .data, .sentinel, .sentinel], laidTests := true, laidLooks := .later }
def WireNestsCardSaid : Prop := Claim7.holds Tryd.pinned (.plain (OpenSpec.ofChange wireNestsSpec)) wireNestsCard

/-- THE TIED CARD OF 'kitbaglaw01.WireReads'. -/
def wireReadsCard : Claim7 := { stood := { row := wireReadsRow, standIns := [], harness := (true, "a1aea3ae17db24e3a6fd004d5ef9f560e7981f95691bc84498c9fa5aff8c531e"), looks := true }, kinds := [], alts := [], laidByText := true, laidKinds := [.data, .data, .data, .sentinel, .sentinel], laidTests := true, laidLooks := .later }
def WireReadsCardSaid : Prop := Claim7.holds Tryd.pinned (.plain (OpenSpec.ofChange wireReadsSpec)) wireReadsCard

/-- THE TIED CARD OF 'kitbaglaw01.WireBack'. -/
def wireBackCard : Claim7 := { stood := { row := wireBackRow, standIns := [], harness := (true, "a1aea3ae17db24e3a6fd004d5ef9f560e7981f95691bc84498c9fa5aff8c531e"), looks := true }, kinds := [], alts := [], laidByText := true, laidKinds := [.data, .data, .data, .sentinel, .sentinel], laidTests := true, laidLooks := .later }
def WireBackCardSaid : Prop := Claim7.holds Tryd.pinned (.plain (OpenSpec.ofChange wireBackSpec)) wireBackCard

/-- THE TIED CARD OF 'kitbaglaw37.SealTells'. -/
def sealTellsCard : Claim7 := { stood := { row := sealTellsRow, standIns := [], harness := (true, "a1aea3ae17db24e3a6fd004d5ef9f560e7981f95691bc84498c9fa5aff8c531e"), looks := true }, kinds := [], alts := [], laidByText := true, laidKinds := [.data, .data, .data, .sentinel, .sentinel], laidTests := true, laidLooks := .later }
def SealTellsCardSaid : Prop := Claim7.holds Tryd.pinned (.plain (OpenSpec.ofChange sealTellsSpec)) sealTellsCard

/-- THE TIED CARD OF 'kitbaglaw37.SealBack'. -/
def sealBackCard : Claim7 := { stood := { row := sealBackRow, standIns := [], harness := (true, "a1aea3ae17db24e3a6fd004d5ef9f560e7981f95691bc84498c9fa5aff8c531e"), looks := true }, kinds := [], alts := [], laidByText := true, laidKinds := [.data, .data, .data, .sentinel, .sentinel], laidTests := true, laidLooks := .later }
def SealBackCardSaid : Prop := Claim7.holds Tryd.pinned (.plain (OpenSpec.ofChange sealBackSpec)) sealBackCard

/-- THE TIED CARD OF 'kitbaglaw37.SealConvicts'. -/
def sealConvictsCard : Claim7 := { stood := { row := sealConvictsRow, standIns := [], harness := (true, "a1aea3ae17db24e3a6fd004d5ef9f560e7981f95691bc84498c9fa5aff8c531e"), looks := true }, kinds := [], alts := [], laidByText := true, laidKinds := [.data, .data, .data, .sentinel, .sentinel], laidTests := true, laidLooks := .later }
def SealConvictsCardSaid : Prop := Claim7.holds Tryd.pinned (.plain (OpenSpec.ofChange sealConvictsSpec)) sealConvictsCard

/-- THE TIED CARD OF 'kitbaglaw37.SealLess'. -/
def sealLessCard : Claim7 := { stood := { row := sealLessRow, standIns := [], harness := (true, "a1aea3ae17db24e3a6fd004d5ef9f560e7981f95691bc84498c9fa5aff8c531e"), looks := true }, kinds := [], alts := [], laidByText := true, laidKinds := [.data, .data, .data, .sentinel, .sentinel], laidTests := true, laidLooks := .later }
def SealLessCardSaid : Prop := Claim7.holds Tryd.pinned (.plain (OpenSpec.ofChange sealLessSpec)) sealLessCard

/-- THE TIED CARD OF 'kitbaglaw37.SealOrder'. -/
def sealOrderCard : Claim7 := { stood := { row := sealOrderRow, standIns := [], harness := (true, "a1aea3ae17db24e3a6fd004d5ef9f560e7981f95691bc84498c9fa5aff8c531e"), looks := true }, kinds := [], alts := [], laidByText := true, laidKinds := [.data, .data, .data, .sentinel, .sentinel], laidTests := true, laidLooks := .later }
def SealOrderCardSaid : Prop := Claim7.holds Tryd.pinned (.plain (OpenSpec.ofChange sealOrderSpec)) sealOrderCard

/-- THE TIED CARD OF 'kitbaglaw37.SealNext'. -/
def sealNextCard : Claim7 := { stood := { row := sealNextRow, standIns := [], harness := (true, "a1aea3ae17db24e3a6fd004d5ef9f560e7981f95691bc84498c9fa5aff8c531e"), looks := true }, kinds := [], alts := [], laidByText := true, laidKinds := [.data, .data, .data, .sentinel, .sentinel], laidTests := true, laidLooks := .later }
def SealNextCardSaid : Prop := Claim7.holds Tryd.pinned (.plain (OpenSpec.ofChange sealNextSpec)) sealNextCard

/-- THE SECOND FORM's CARD OF 'kitbaglaw01.WireWrites'. -/
def wireWritesUptoCard : Claim7 := { stood := { row := wireWritesUptoRow, standIns := [], harness := (true, "a1aea3ae17db24e3a6fd004d5ef9f560e7981f95691bc84498c9fa5aff8c531e"), looks := true }, kinds := [], alts := [], laidByText := true, laidKinds := [.data, .data, .data, .sentinel, .sentinel], laidTests := true, laidLooks := .later }
def WireWritesUptoCardSaid : Prop := Claim7.holds Tryd.pinned (.plain (OpenSpec.upto wireWritesSpec)) wireWritesUptoCard

/-- THE SECOND FORM's CARD OF 'kitbaglaw01.WireAgain'. -/
def wireAgainUptoCard : Claim7 := { stood := { row := wireAgainUptoRow, standIns := [], harness := (true, "a1aea3ae17db24e3a6fd004d5ef9f560e7981f95691bc84498c9fa5aff8c531e"), looks := true }, kinds := [], alts := [], laidByText := true, laidKinds := [.data, .data, .data, .sentinel, .sentinel], laidTests := true, laidLooks := .later }
def WireAgainUptoCardSaid : Prop := Claim7.holds Tryd.pinned (.plain (OpenSpec.upto wireAgainSpec)) wireAgainUptoCard

/-- THE SECOND FORM's CARD OF 'kitbaglaw01.WirePrefix'. -/
def wirePrefixUptoCard : Claim7 := { stood := { row := wirePrefixUptoRow, standIns := [], harness := (true, "a1aea3ae17db24e3a6fd004d5ef9f560e7981f95691bc84498c9fa5aff8c531e"), looks := true }, kinds := [], alts := [], laidByText := true, laidKinds := [.data, .data, .data, .sentinel, .sentinel], laidTests := true, laidLooks := .later }
def WirePrefixUptoCardSaid : Prop := Claim7.holds Tryd.pinned (.plain (OpenSpec.upto wirePrefixSpec)) wirePrefixUptoCard

/-- THE SECOND FORM's CARD OF 'kitbaglaw01.WireNests'. -/
def wireNestsUptoCard : Claim7 := { stood := { row := wireNestsUptoRow, standIns := [], harness := (true, "a1aea3ae17db24e3a6fd004d5ef9f560e7981f95691bc84498c9fa5aff8c531e"), looks := true }, kinds := [], alts := [], laidByText := true, laidKinds := [.data, .data, .data, .sentinel, .sentinel], laidTests := true, laidLooks := .later }
def WireNestsUptoCardSaid : Prop := Claim7.holds Tryd.pinned (.plain (OpenSpec.upto wireNestsSpec)) wireNestsUptoCard

/-- THE SECOND FORM's CARD OF 'kitbaglaw01.WireReads'. -/
def wireReadsUptoCard : Claim7 := { stood := { row := wireReadsUptoRow, standIns := [], harness := (true, "a1aea3ae17db24e3a6fd004d5ef9f560e7981f95691bc84498c9fa5aff8c531e"), looks := true }, kinds := [], alts := [], laidByText := true, laidKinds := [.data, .data, .data, .sentinel, .sentinel], laidTests := true, laidLooks := .later }
def WireReadsUptoCardSaid : Prop := Claim7.holds Tryd.pinned (.plain (OpenSpec.upto wireReadsSpec)) wireReadsUptoCard

/-- THE SECOND FORM's CARD OF 'kitbaglaw01.WireBack'. -/
def wireBackUptoCard : Claim7 := { stood := { row := wireBackUptoRow, standIns := [], harness := (true, "a1aea3ae17db24e3a6fd004d5ef9f560e7981f95691bc84498c9fa5aff8c531e"), looks := true }, kinds := [], alts := [], laidByText := true, laidKinds := [.data, .data, .data, .sentinel, .sentinel], laidTests := true, laidLooks := .later }
def WireBackUptoCardSaid : Prop := Claim7.holds Tryd.pinned (.plain (OpenSpec.upto wireBackSpec)) wireBackUptoCard

/-- THE SECOND FORM's CARD OF 'kitbaglaw37.SealTells'. -/
def sealTellsUptoCard : Claim7 := { stood := { row := sealTellsUptoRow, standIns := [], harness := (true, "a1aea3ae17db24e3a6fd004d5ef9f560e7981f95691bc84498c9fa5aff8c531e"), looks := true }, kinds := [], alts := [], laidByText := true, laidKinds := [.data, .data, .data, .sentinel, .sentinel], laidTests := true, laidLooks := .later }
def SealTellsUptoCardSaid : Prop := Claim7.holds Tryd.pinned (.plain (OpenSpec.upto sealTellsSpec)) sealTellsUptoCard

/-- THE SECOND FORM's CARD OF 'kitbaglaw37.SealBack'. -/
def sealBackUptoCard : Claim7 := { stood := { row := sealBackUptoRow, standIns := [], harness := (true, "a1aea3ae17db24e3a6fd004d5ef9f560e7981f95691bc84498c9fa5aff8c531e"), looks := true }, kinds := [], alts := [], laidByText := true, laidKinds := [.data, .data, .data, .sentinel, .sentinel], laidTests := true, laidLooks := .later }
def SealBackUptoCardSaid : Prop := Claim7.holds Tryd.pinned (.plain (OpenSpec.upto sealBackSpec)) sealBackUptoCard

/-- THE SECOND FORM's CARD OF 'kitbaglaw37.SealConvicts'. -/
def sealConvictsUptoCard : Claim7 := { stood := { row := sealConvictsUptoRow, standIns := [], harness := (true, "a1aea3ae17db24e3a6fd004d5ef9f560e7981f95691bc84498c9fa5aff8c531e"), looks := true }, kinds := [], alts := [], laidByText := true, laidKinds := [.data, .data, .data, .sentinel, .sentinel], laidTests := true, laidLooks := .later }
def SealConvictsUptoCardSaid : Prop := Claim7.holds Tryd.pinned (.plain (OpenSpec.upto sealConvictsSpec)) sealConvictsUptoCard

/-- THE SECOND FORM's CARD OF 'kitbaglaw37.SealLess'. -/
def sealLessUptoCard : Claim7 := { stood := { row := sealLessUptoRow, standIns := [], harness := (true, "a1aea3ae17db24e3a6fd004d5ef9f560e7981f95691bc84498c9fa5aff8c531e"), looks := true }, kinds := [], alts := [], laidByText := true, laidKinds := [.data, .data, .data, .sentinel, .sentinel], laidTests := true, laidLooks := .later }
def SealLessUptoCardSaid : Prop := Claim7.holds Tryd.pinned (.plain (OpenSpec.upto sealLessSpec)) sealLessUptoCard

/-- THE SECOND FORM's CARD OF 'kitbaglaw37.SealOrder'. -/
def sealOrderUptoCard : Claim7 := { stood := { row := sealOrderUptoRow, standIns := [], harness := (true, "a1aea3ae17db24e3a6fd004d5ef9f560e7981f95691bc84498c9fa5aff8c531e"), looks := true }, kinds := [], alts := [], laidByText := true, laidKinds := [.data, .data, .data, .sentinel, .sentinel], laidTests := true, laidLooks := .later }
def SealOrderUptoCardSaid : Prop := Claim7.holds Tryd.pinned (.plain (OpenSpec.upto sealOrderSpec)) sealOrderUptoCard

/-- THE SECOND FORM's CARD OF 'kitbaglaw37.SealNext'. -/
def sealNextUptoCard : Claim7 := { stood := { row := sealNextUptoRow, standIns := [], harness := (true, "a1aea3ae17db24e3a6fd004d5ef9f560e7981f95691bc84498c9fa5aff8c531e"), looks := true }, kinds := [], alts := [], laidByText := true, laidKinds := [.data, .data, .data, .sentinel, .sentinel], laidTests := true, laidLooks := .later }
def SealNextUptoCardSaid : Prop := Claim7.holds Tryd.pinned (.plain (OpenSpec.upto sealNextSpec)) sealNextUptoCard
end Rows
end Go.Proofs.YtgmnoianhonihaaDoor
