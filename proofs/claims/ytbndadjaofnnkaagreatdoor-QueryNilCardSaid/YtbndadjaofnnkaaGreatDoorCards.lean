/-
  DERIVED. GIVEN WITH THE SEED: THE CARDS: each row of YtbndadjaofnnkaaGreatDoorRows.lean that lists a variable, with what it lists TIED to the program's text (the seventh form; the later family's looks); each row that meets fmt, with fmt's text TOLD by the authors' own Lean function (tested against real Go, not proved from fmt's source: count such statements apart). THE CARD IS WHAT COUNTS. Prove the row's statement (the work); the ties are given (YtbndadjaofnnkaaGreatDoorTie.lean); close each card by the builder's one call (the guide's Derived/Test/ToyasCard.lean, 'card_holds'). Laid BY PROGRAM, IN A SANDBOX (cutbox-door.mjs). By AI agents, Wed Nov 11 2026. No macro, syntax, notation, axiom, sorry.
-/
import Derived.Test.YtbndadjaofnnkaaGreatDoorRows
import GoSem.ClaimSeven
namespace Go.Proofs.YtbndadjaofnnkaaGreatDoor
namespace Rows

/-- THE TIED CARD OF 'heartwoodlaw26.QueryNil'. -/
def queryNilCard : Claim7 := { stood := { row := queryNilRow, standIns := [], harness := (true, "eb966d82205b366349d29b867fff251b242d73e31981b10889aa32746c45e72f"), looks := false }, kinds := [], alts := [], laidByText := true, laidKinds := [.data, .pinned], laidTests := true, laidLooks := .later }
def QueryNilCardSaid : Prop := Claim7.holds Tryz.pinned (.plain (OpenSpec.ofChange queryNilSpec)) queryNilCard

/-- THE SECOND FORM's CARD OF 'heartwoodlaw26.QueryNil'. -/
def queryNilUptoCard : Claim7 := { stood := { row := queryNilUptoRow, standIns := [], harness := (true, "eb966d82205b366349d29b867fff251b242d73e31981b10889aa32746c45e72f"), looks := false }, kinds := [], alts := [], laidByText := true, laidKinds := [.data, .pinned], laidTests := true, laidLooks := .later }
def QueryNilUptoCardSaid : Prop := Claim7.holds Tryz.pinned (.plain (OpenSpec.upto queryNilSpec)) queryNilUptoCard
end Rows
end Go.Proofs.YtbndadjaofnnkaaGreatDoor
