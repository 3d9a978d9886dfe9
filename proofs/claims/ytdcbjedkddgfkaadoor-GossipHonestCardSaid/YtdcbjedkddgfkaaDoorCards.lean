/-
  DERIVED. GIVEN WITH THE SEED: THE CARDS: each row of YtdcbjedkddgfkaaDoorRows.lean that lists a variable, with what it lists TIED to the program's text (the seventh form; the later family's looks); each row that meets fmt, with fmt's text TOLD by the authors' own Lean function (tested against real Go, not proved from fmt's source: count such statements apart). THE CARD IS WHAT COUNTS. Prove the row's statement (the work); the ties are given (YtdcbjedkddgfkaaDoorTie.lean); close each card by the builder's one call (the guide's Derived/Test/ToyasCard.lean, 'card_holds'). Laid BY PROGRAM, IN A SANDBOX (cutbox-door.mjs). By AI agents, Wed Nov 11 2026. No macro, syntax, notation, axiom, sorry.
-/
import Derived.Test.YtdcbjedkddgfkaaDoorRows
import GoSem.ClaimSeven
namespace Go.Proofs.YtdcbjedkddgfkaaDoor
namespace Rows

/-- THE TIED CARD OF 'kitbaglaw39.GossipJoins'. -/
def gossipJoinsCard : Claim7 := { stood := { row := gossipJoinsRow, standIns := [], harness := (true, "149deeef269975b74685df05b0337d1e2a2a32cae82042859c2ea64433009823"), looks := false }, kinds := [], alts := [], laidByText := true, laidKinds := [.data, .data, .data], laidTests := true, laidLooks := .later }
def GossipJoinsCardSaid : Prop := Claim7.holds Tryd.pinned (.plain (OpenSpec.ofChange gossipJoinsSpec)) gossipJoinsCard

/-- THE TIED CARD OF 'kitbaglaw39.GossipOrders'. -/
def gossipOrdersCard : Claim7 := { stood := { row := gossipOrdersRow, standIns := [], harness := (true, "149deeef269975b74685df05b0337d1e2a2a32cae82042859c2ea64433009823"), looks := false }, kinds := [], alts := [], laidByText := true, laidKinds := [.data, .data, .data], laidTests := true, laidLooks := .later }
def GossipOrdersCardSaid : Prop := Claim7.holds Tryd.pinned (.plain (OpenSpec.ofChange gossipOrdersSpec)) gossipOrdersCard

/-- THE TIED CARD OF 'kitbaglaw39.GossipGrows'. -/
def gossipGrowsCard : Claim7 := { stood := { row := gossipGrowsRow, standIns := [], harness := (true, "149deeef269975b74685df05b0337d1e2a2a32cae82042859c2ea64433009823"), looks := false }, kinds := [], alts := [], laidByText := true, laidKinds := [.data, .data, .data], laidTests := true, laidLooks := .later }
def GossipGrowsCardSaid : Prop := Claim7.holds Tryd.pinned (.plain (OpenSpec.ofChange gossipGrowsSpec)) gossipGrowsCard

/-- THE TIED CARD OF 'kitbaglaw39.GossipTalk'. -/
def gossipTalkCard : Claim7 := { stood := { row := gossipTalkRow, standIns := [], harness := (true, "149deeef269975b74685df05b0337d1e2a2a32cae82042859c2ea64433009823"), looks := false }, kinds := [], alts := [], laidByText := true, laidKinds := [.data, .data, .data], laidTests := true, laidLooks := .later }
def GossipTalkCardSaid : Prop := Claim7.holds Tryd.pinned (.plain (OpenSpec.ofChange gossipTalkSpec)) gossipTalkCard

/-- THE TIED CARD OF 'kitbaglaw39.GossipHonest'. -/
def gossipHonestCard : Claim7 := { stood := { row := gossipHonestRow, standIns := [], harness := (true, "149deeef269975b74685df05b0337d1e2a2a32cae82042859c2ea64433009823"), looks := false }, kinds := [], alts := [], laidByText := true, laidKinds := [.data, .data, .data], laidTests := true, laidLooks := .later }
def GossipHonestCardSaid : Prop := Claim7.holds Tryd.pinned (.plain (OpenSpec.ofChange gossipHonestSpec)) gossipHonestCard

/-- THE TIED CARD OF 'kitbaglaw39.GossipForks'. -/
def gossipForksCard : Claim7 := { stood := { row := gossipForksRow, standIns := [], harness := (true, "149deeef269975b74685df05b0337d1e2a2a32cae82042859c2ea64433009823"), looks := false }, kinds := [], alts := [], laidByText := true, laidKinds := [.data, .data, .data], laidTests := true, laidLooks := .later }
def GossipForksCardSaid : Prop := Claim7.holds Tryd.pinned (.plain (OpenSpec.ofChange gossipForksSpec)) gossipForksCard

/-- THE SECOND FORM's CARD OF 'kitbaglaw39.GossipJoins'. -/
def gossipJoinsUptoCard : Claim7 := { stood := { row := gossipJoinsUptoRow, standIns := [], harness := (true, "149deeef269975b74685df05b0337d1e2a2a32cae82042859c2ea64433009823"), looks := false }, kinds := [], alts := [], laidByText := true, laidKinds := [.data, .data, .data], laidTests := true, laidLooks := .later }
def GossipJoinsUptoCardSaid : Prop := Claim7.holds Tryd.pinned (.plain (OpenSpec.upto gossipJoinsSpec)) gossipJoinsUptoCard

/-- THE SECOND FORM's CARD OF 'kitbaglaw39.GossipOrders'. -/
def gossipOrdersUptoCard : Claim7 := { stood := { row := gossipOrdersUptoRow, standIns := [], harness := (true, "149deeef269975b74685df05b0337d1e2a2a32cae82042859c2ea64433009823"), looks := false }, kinds := [], alts := [], laidByText := true, laidKinds := [.data, .data, .data], laidTests := true, laidLooks := .later }
def GossipOrdersUptoCardSaid : Prop := Claim7.holds Tryd.pinned (.plain (OpenSpec.upto gossipOrdersSpec)) gossipOrdersUptoCard

/-- THE SECOND FORM's CARD OF 'kitbaglaw39.GossipGrows'. -/
def gossipGrowsUptoCard : Claim7 := { stood := { row := gossipGrowsUptoRow, standIns := [], harness := (true, "149deeef269975b74685df05b0337d1e2a2a32cae82042859c2ea64433009823"), looks := false }, kinds := [], alts := [], laidByText := true, laidKinds := [.data, .data, .data], laidTests := true, laidLooks := .later }
def GossipGrowsUptoCardSaid : Prop := Claim7.holds Tryd.pinned (.plain (OpenSpec.upto gossipGrowsSpec)) gossipGrowsUptoCard

/-- THE SECOND FORM's CARD OF 'kitbaglaw39.GossipTalk'. -/
def gossipTalkUptoCard : Claim7 := { stood := { row := gossipTalkUptoRow, standIns := [], harness := (true, "149deeef269975b74685df05b0337d1e2a2a32cae82042859c2ea64433009823"), looks := false }, kinds := [], alts := [], laidByText := true, laidKinds := [.data, .data, .data], laidTests := true, laidLooks := .later }
def GossipTalkUptoCardSaid : Prop := Claim7.holds Tryd.pinned (.plain (OpenSpec.upto gossipTalkSpec)) gossipTalkUptoCard

/-- THE SECOND FORM's CARD OF 'kitbaglaw39.GossipHonest'. -/
def gossipHonestUptoCard : Claim7 := { stood := { row := gossipHonestUptoRow, standIns := [], harness := (true, "149deeef269975b74685df05b0337d1e2a2a32cae82042859c2ea64433009823"), looks := false }, kinds := [], alts := [], laidByText := true, laidKinds := [.data, .data, .data], laidTests := true, laidLooks := .later }
def GossipHonestUptoCardSaid : Prop := Claim7.holds Tryd.pinned (.plain (OpenSpec.upto gossipHonestSpec)) gossipHonestUptoCard

/-- THE SECOND FORM's CARD OF 'kitbaglaw39.GossipForks'. -/
def gossipForksUptoCard : Claim7 := { stood := { row := gossipForksUptoRow, standIns := [], harness := (true, "149deeef269975b74685df05b0337d1e2a2a32cae82042859c2ea64433009823"), looks := false }, kinds := [], alts := [], laidByText := true, laidKinds := [.data, .data, .data], laidTests := true, laidLooks := .later }
def GossipForksUptoCardSaid : Prop := Claim7.holds Tryd.pinned (.plain (OpenSpec.upto gossipForksSpec)) gossipForksUptoCard
end Rows
end Go.Proofs.YtdcbjedkddgfkaaDoor
