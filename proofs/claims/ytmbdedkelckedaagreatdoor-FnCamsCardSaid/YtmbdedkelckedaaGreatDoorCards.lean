/-
  DERIVED. GIVEN WITH THE SEED: THE CARDS: each row of YtmbdedkelckedaaGreatDoorRows.lean that lists a variable, with what it lists TIED to the program's text (the seventh form; the later family's looks); each row that meets fmt, with fmt's text TOLD by the authors' own Lean function (tested against real Go, not proved from fmt's source: count such statements apart). THE CARD IS WHAT COUNTS. Prove the row's statement (the work); the ties are given (YtmbdedkelckedaaGreatDoorTie.lean); close each card by the builder's one call (the guide's Derived/Test/ToyasCard.lean, 'card_holds'). Laid BY PROGRAM, IN A SANDBOX (cutbox-door.mjs). By AI agents, Wed Nov 11 2026. No macro, syntax, notation, axiom, sorry.
-/
import Derived.Test.YtmbdedkelckedaaGreatDoorRows
import GoSem.ClaimSeven
namespace Go.Proofs.YtmbdedkelckedaaGreatDoor
namespace Rows

/-- THE TIED CARD OF 'laws.FnCams'. -/
def fnCamsCard : Claim7 := { stood := { row := fnCamsRow, standIns := [], harness := (true, "493e52341c4d37086cfe76f8c0414caf9bcda333fd856994113ac55da404ef94"), looks := true }, kinds := [], alts := [], laidByText := true, laidKinds := [.data, .data, .data, .data, .sentinel, .sentinel, .pinned], laidTests := true, laidLooks := .later }
def FnCamsCardSaid : Prop := Claim7.holds Tryz.pinned (.plain (OpenSpec.ofChange fnCamsSpec)) fnCamsCard

/-- THE TIED CARD OF 'laws.FnTurnedWheels'. -/
def fnTurnedWheelsCard : Claim7 := { stood := { row := fnTurnedWheelsRow, standIns := [], harness := (true, "493e52341c4d37086cfe76f8c0414caf9bcda333fd856994113ac55da404ef94"), looks := true }, kinds := [], alts := [], laidByText := true, laidKinds := [.data, .data, .data, .data, .sentinel, .sentinel, .pinned], laidTests := true, laidLooks := .later }
def FnTurnedWheelsCardSaid : Prop := Claim7.holds Tryz.pinned (.plain (OpenSpec.ofChange fnTurnedWheelsSpec)) fnTurnedWheelsCard

/-- THE SECOND FORM's CARD OF 'laws.FnCams'. -/
def fnCamsUptoCard : Claim7 := { stood := { row := fnCamsUptoRow, standIns := [], harness := (true, "493e52341c4d37086cfe76f8c0414caf9bcda333fd856994113ac55da404ef94"), looks := true }, kinds := [], alts := [], laidByText := true, laidKinds := [.data, .data, .data, .data, .sentinel, .sentinel, .pinned], laidTests := true, laidLooks := .later }
def FnCamsUptoCardSaid : Prop := Claim7.holds Tryz.pinned (.plain (OpenSpec.upto fnCamsSpec)) fnCamsUptoCard

/-- THE SECOND FORM's CARD OF 'laws.FnTurnedWheels'. -/
def fnTurnedWheelsUptoCard : Claim7 := { stood := { row := fnTurnedWheelsUptoRow, standIns := [], harness := (true, "493e52341c4d37086cfe76f8c0414caf9bcda333fd856994113ac55da404ef94"), looks := true }, kinds := [], alts := [], laidByText := true, laidKinds := [.data, .data, .data, .data, .sentinel, .sentinel, .pinned], laidTests := true, laidLooks := .later }
def FnTurnedWheelsUptoCardSaid : Prop := Claim7.holds Tryz.pinned (.plain (OpenSpec.upto fnTurnedWheelsSpec)) fnTurnedWheelsUptoCard
end Rows
end Go.Proofs.YtmbdedkelckedaaGreatDoor
