/-
  DERIVED. GIVEN WITH THE SEED: THE CARDS: each row of YtdcbjedkddgfkaaGreatDoorRows.lean that lists a variable, with what it lists TIED to the program's text (the seventh form; the later family's looks); each row that meets fmt, with fmt's text TOLD by the authors' own Lean function (tested against real Go, not proved from fmt's source: count such statements apart). THE CARD IS WHAT COUNTS. Prove the row's statement (the work); the ties are given (YtdcbjedkddgfkaaGreatDoorTie.lean); close each card by the builder's one call (the guide's Derived/Test/ToyasCard.lean, 'card_holds'). Laid BY PROGRAM, IN A SANDBOX (cutbox-door.mjs). By AI agents, Wed Nov 11 2026. No macro, syntax, notation, axiom, sorry.
-/
import Derived.Test.YtdcbjedkddgfkaaGreatDoorRows
import GoSem.ClaimSeven
namespace Go.Proofs.YtdcbjedkddgfkaaGreatDoor
namespace Rows

/-- THE TIED CARD OF 'kitbaglaw39.GossipTells'. -/
def gossipTellsCard : Claim7 := { stood := { row := gossipTellsRow, standIns := [], harness := (true, "4fd3de6696c7bf394532d54f09751ad349d4fe8737b5133583fa8e6c3c2b1043"), looks := true }, kinds := [], alts := [], laidByText := true, laidKinds := [.data, .data, .data], laidTests := true, laidLooks := .later }
def GossipTellsCardSaid : Prop := Claim7.holds Tryz.pinned (.plain (OpenSpec.ofChange gossipTellsSpec)) gossipTellsCard

/-- THE TIED CARD OF 'kitbaglaw39.GossipAir'. -/
def gossipAirCard : Claim7 := { stood := { row := gossipAirRow, standIns := [], harness := (true, "4fd3de6696c7bf394532d54f09751ad349d4fe8737b5133583fa8e6c3c2b1043"), looks := true }, kinds := [], alts := [], laidByText := true, laidKinds := [.data, .data, .data, .sentinel, .sentinel], laidTests := true, laidLooks := .later }
def GossipAirCardSaid : Prop := Claim7.holds Tryz.pinned (.plain (OpenSpec.ofChange gossipAirSpec)) gossipAirCard

/-- THE SECOND FORM's CARD OF 'kitbaglaw39.GossipTells'. -/
def gossipTellsUptoCard : Claim7 := { stood := { row := gossipTellsUptoRow, standIns := [], harness := (true, "4fd3de6696c7bf394532d54f09751ad349d4fe8737b5133583fa8e6c3c2b1043"), looks := true }, kinds := [], alts := [], laidByText := true, laidKinds := [.data, .data, .data], laidTests := true, laidLooks := .later }
def GossipTellsUptoCardSaid : Prop := Claim7.holds Tryz.pinned (.plain (OpenSpec.upto gossipTellsSpec)) gossipTellsUptoCard

/-- THE SECOND FORM's CARD OF 'kitbaglaw39.GossipAir'. -/
def gossipAirUptoCard : Claim7 := { stood := { row := gossipAirUptoRow, standIns := [], harness := (true, "4fd3de6696c7bf394532d54f09751ad349d4fe8737b5133583fa8e6c3c2b1043"), looks := true }, kinds := [], alts := [], laidByText := true, laidKinds := [.data, .data, .data, .sentinel, .sentinel], laidTests := true, laidLooks := .later }
def GossipAirUptoCardSaid : Prop := Claim7.holds Tryz.pinned (.plain (OpenSpec.upto gossipAirSpec)) gossipAirUptoCard
end Rows
end Go.Proofs.YtdcbjedkddgfkaaGreatDoor
