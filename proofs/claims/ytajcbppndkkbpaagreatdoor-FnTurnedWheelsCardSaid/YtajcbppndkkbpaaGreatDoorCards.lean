/-
  DERIVED. GIVEN WITH THE SEED: THE CARDS: each row of YtajcbppndkkbpaaGreatDoorRows.lean that lists a variable, with what it lists TIED to the program's text (the seventh form; the later family's looks); each row that meets fmt, with fmt's text TOLD by the authors' own Lean function (tested against real Go, not proved from fmt's source: count such statements apart). THE CARD IS WHAT COUNTS. Prove the row's statement (the work); the ties are given (YtajcbppndkkbpaaGreatDoorTie.lean); close each card by the builder's one call (the guide's Derived/Test/ToyasCard.lean, 'card_holds'). Laid BY PROGRAM, IN A SANDBOX (cutbox-door.mjs). By AI agents, Wed Nov 11 2026. No macro, syntax, notation, axiom, sorry.
-/
import Derived.Test.YtajcbppndkkbpaaGreatDoorRows
import GoSem.ClaimSeven
namespace Go.Proofs.YtajcbppndkkbpaaGreatDoor
namespace Rows

/-- THE TIED CARD OF 'laws.FnTurnedWheels'. -/
def fnTurnedWheelsCard : Claim7 := { stood := { row := fnTurnedWheelsRow, standIns := [], harness := (true, "df8e8581e2b613b3d9d617ef84fbd782a66db02227cda1f8a449161084e4c94c"), looks := true }, kinds := [], alts := [], laidByText := true, laidKinds := [.data, .data, .data, .data, .sentinel, .sentinel, .pinned], laidTests := true, laidLooks := .later }
def FnTurnedWheelsCardSaid : Prop := Claim7.holds Tryz.pinned (.plain (OpenSpec.ofChange fnTurnedWheelsSpec)) fnTurnedWheelsCard

/-- THE SECOND FORM's CARD OF 'laws.FnTurnedWheels'. -/
def fnTurnedWheelsUptoCard : Claim7 := { stood := { row := fnTurnedWheelsUptoRow, standIns := [], harness := (true, "df8e8581e2b613b3d9d617ef84fbd782a66db02227cda1f8a449161084e4c94c"), looks := true }, kinds := [], alts := [], laidByText := true, laidKinds := [.data, .data, .data, .data, .sentinel, .sentinel, .pinned], laidTests := true, laidLooks := .later }
def FnTurnedWheelsUptoCardSaid : Prop := Claim7.holds Tryz.pinned (.plain (OpenSpec.upto fnTurnedWheelsSpec)) fnTurnedWheelsUptoCard
end Rows
end Go.Proofs.YtajcbppndkkbpaaGreatDoor
