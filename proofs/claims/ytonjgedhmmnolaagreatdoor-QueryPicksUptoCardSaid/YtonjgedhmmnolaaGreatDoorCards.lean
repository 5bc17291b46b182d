/-
  DERIVED. GIVEN WITH THE SEED: THE CARDS: each row of YtonjgedhmmnolaaGreatDoorRows.lean that lists a variable, with what it lists TIED to the program's text (the seventh form; the later family's looks); each row that meets fmt, with fmt's text TOLD by the authors' own Lean function (tested against real Go, not proved from fmt's source: count such statements apart). THE CARD IS WHAT COUNTS. Prove the row's statement (the work); the ties are given (YtonjgedhmmnolaaGreatDoorTie.lean); close each card by the builder's one call (the guide's Derived/Test/ToyasCard.lean, 'card_holds'). Laid BY PROGRAM, IN A SANDBOX (cutbox-door.mjs). By AI agents, Wed Nov 11 2026. No macro, syntax, notation, axiom, sorry.
-/
import Derived.Test.YtonjgedhmmnolaaGreatDoorRows
import GoSem.ClaimSeven
namespace Go.Proofs.YtonjgedhmmnolaaGreatDoor
namespace Rows

/-- THE TIED CARD OF 'heartwoodlaw26.QueryNames'. -/
def queryNamesCard : Claim7 := { stood := { row := queryNamesRow, standIns := [], harness := (true, "666b29850d936a34e26a879c77fff946f555962374707e1a1a8b4a489f3c880a"), looks := false }, kinds := [], alts := [], laidByText := true, laidKinds := [.data, .pinned], laidTests := true, laidLooks := .later }
def QueryNamesCardSaid : Prop := Claim7.holds Tryz.pinned (.plain (OpenSpec.ofChange queryNamesSpec)) queryNamesCard

/-- THE TIED CARD OF 'heartwoodlaw26.QueryChecks'. -/
def queryChecksCard : Claim7 := { stood := { row := queryChecksRow, standIns := [], harness := (true, "666b29850d936a34e26a879c77fff946f555962374707e1a1a8b4a489f3c880a"), looks := false }, kinds := [], alts := [], laidByText := true, laidKinds := [.data, .pinned], laidTests := true, laidLooks := .later }
def QueryChecksCardSaid : Prop := Claim7.holds Tryz.pinned (.plain (OpenSpec.ofChange queryChecksSpec)) queryChecksCard

/-- THE TIED CARD OF 'heartwoodlaw26.QueryTurns'. -/
def queryTurnsCard : Claim7 := { stood := { row := queryTurnsRow, standIns := [], harness := (true, "666b29850d936a34e26a879c77fff946f555962374707e1a1a8b4a489f3c880a"), looks := false }, kinds := [], alts := [], laidByText := true, laidKinds := [.data, .pinned], laidTests := true, laidLooks := .later }
def QueryTurnsCardSaid : Prop := Claim7.holds Tryz.pinned (.plain (OpenSpec.ofChange queryTurnsSpec)) queryTurnsCard

/-- THE TIED CARD OF 'heartwoodlaw26.QueryFolds'. -/
def queryFoldsCard : Claim7 := { stood := { row := queryFoldsRow, standIns := [], harness := (true, "666b29850d936a34e26a879c77fff946f555962374707e1a1a8b4a489f3c880a"), looks := false }, kinds := [], alts := [], laidByText := true, laidKinds := [.data, .pinned], laidTests := true, laidLooks := .later }
def QueryFoldsCardSaid : Prop := Claim7.holds Tryz.pinned (.plain (OpenSpec.ofChange queryFoldsSpec)) queryFoldsCard

/-- THE TIED CARD OF 'heartwoodlaw26.QueryPicks'. -/
def queryPicksCard : Claim7 := { stood := { row := queryPicksRow, standIns := [], harness := (true, "666b29850d936a34e26a879c77fff946f555962374707e1a1a8b4a489f3c880a"), looks := false }, kinds := [], alts := [], laidByText := true, laidKinds := [.data, .pinned], laidTests := true, laidLooks := .later }
def QueryPicksCardSaid : Prop := Claim7.holds Tryz.pinned (.plain (OpenSpec.ofChange queryPicksSpec)) queryPicksCard

/-- THE SECOND FORM's CARD OF 'heartwoodlaw26.QueryNames'. -/
def queryNamesUptoCard : Claim7 := { stood := { row := queryNamesUptoRow, standIns := [], harness := (true, "666b29850d936a34e26a879c77fff946f555962374707e1a1a8b4a489f3c880a"), looks := false }, kinds := [], alts := [], laidByText := true, laidKinds := [.data, .pinned], laidTests := true, laidLooks := .later }
def QueryNamesUptoCardSaid : Prop := Claim7.holds Tryz.pinned (.plain (OpenSpec.upto queryNamesSpec)) queryNamesUptoCard

/-- THE SECOND FORM's CARD OF 'heartwoodlaw26.QueryChecks'. -/
def queryChecksUptoCard : Claim7 := { stood := { row := queryChecksUptoRow, standIns := [], harness := (true, "666b29850d936a34e26a879c77fff946f555962374707e1a1a8b4a489f3c880a"), looks := false }, kinds := [], alts := [], laidByText := true, laidKinds := [.data, .pinned], laidTests := true, laidLooks := .later }
def QueryChecksUptoCardSaid : Prop := Claim7.holds Tryz.pinned (.plain (OpenSpec.upto queryChecksSpec)) queryChecksUptoCard

/-- THE SECOND FORM's CARD OF 'heartwoodlaw26.QueryTurns'. -/
def queryTurnsUptoCard : Claim7 := { stood := { row := queryTurnsUptoRow, standIns := [], harness := (true, "666b29850d936a34e26a879c77fff946f555962374707e1a1a8b4a489f3c880a"), looks := false }, kinds := [], alts := [], laidByText := true, laidKinds := [.data, .pinned], laidTests := true, laidLooks := .later }
def QueryTurnsUptoCardSaid : Prop := Claim7.holds Tryz.pinned (.plain (OpenSpec.upto queryTurnsSpec)) queryTurnsUptoCard

/-- THE SECOND FORM's CARD OF 'heartwoodlaw26.QueryFolds'. -/
def queryFoldsUptoCard : Claim7 := { stood := { row := queryFoldsUptoRow, standIns := [], harness := (true, "666b29850d936a34e26a879c77fff946f555962374707e1a1a8b4a489f3c880a"), looks := false }, kinds := [], alts := [], laidByText := true, laidKinds := [.data, .pinned], laidTests := true, laidLooks := .later }
def QueryFoldsUptoCardSaid : Prop := Claim7.holds Tryz.pinned (.plain (OpenSpec.upto queryFoldsSpec)) queryFoldsUptoCard

/-- THE SECOND FORM's CARD OF 'heartwoodlaw26.QueryPicks'. -/
def queryPicksUptoCard : Claim7 := { stood := { row := queryPicksUptoRow, standIns := [], harness := (true, "666b29850d936a34e26a879c77fff946f555962374707e1a1a8b4a489f3c880a"), looks := false }, kinds := [], alts := [], laidByText := true, laidKinds := [.data, .pinned], laidTests := true, laidLooks := .later }
def QueryPicksUptoCardSaid : Prop := Claim7.holds Tryz.pinned (.plain (OpenSpec.upto queryPicksSpec)) queryPicksUptoCard
end Rows
end Go.Proofs.YtonjgedhmmnolaaGreatDoor
