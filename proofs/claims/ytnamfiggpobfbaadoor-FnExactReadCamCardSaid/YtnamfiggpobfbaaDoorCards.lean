/-
  DERIVED. GIVEN WITH THE SEED: THE CARDS: each row of YtnamfiggpobfbaaDoorRows.lean that lists a variable, with what it lists TIED to the program's text (the seventh form; the later family's looks); each row that meets fmt, with fmt's text TOLD by the authors' own Lean function (tested against real Go, not proved from fmt's source: count such statements apart). THE CARD IS WHAT COUNTS. Prove the row's statement (the work); the ties are given (YtnamfiggpobfbaaDoorTie.lean); close each card by the builder's one call (the guide's Derived/Test/ToyasCard.lean, 'card_holds'). Laid BY PROGRAM, IN A SANDBOX (cutbox-door.mjs). By AI agents, Wed Nov 11 2026. No macro, syntax, notation, axiom, sorry.
-/
import Derived.Test.YtnamfiggpobfbaaDoorRows
import GoSem.ClaimSeven
namespace Go.Proofs.YtnamfiggpobfbaaDoor
namespace Rows

/-- THE TIED CARD OF 'laws.FnExactReadCam'. -/
def fnExactReadCamCard : Claim7 := { stood := { row := fnExactReadCamRow, standIns := [], harness := (true, "5cc39f2d40c324b74702c304367f624b13a730df26dfd63ea5d0d85ecb308ce0"), looks := true }, kinds := [], alts := [], laidByText := true, laidKinds := [.data, .data, .data, .data, .sentinel, .sentinel, .pinned], laidTests := true, laidLooks := .later }
def FnExactReadCamCardSaid : Prop := Claim7.holds Tryd.pinned (.plain (OpenSpec.ofChange fnExactReadCamSpec)) fnExactReadCamCard

/-- THE SECOND FORM's CARD OF 'laws.FnExactReadCam'. -/
def fnExactReadCamUptoCard : Claim7 := { stood := { row := fnExactReadCamUptoRow, standIns := [], harness := (true, "5cc39f2d40c324b74702c304367f624b13a730df26dfd63ea5d0d85ecb308ce0"), looks := true }, kinds := [], alts := [], laidByText := true, laidKinds := [.data, .data, .data, .data, .sentinel, .sentinel, .pinned], laidTests := true, laidLooks := .later }
def FnExactReadCamUptoCardSaid : Prop := Claim7.holds Tryd.pinned (.plain (OpenSpec.upto fnExactReadCamSpec)) fnExactReadCamUptoCard
end Rows
end Go.Proofs.YtnamfiggpobfbaaDoor
