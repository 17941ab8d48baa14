/-
  DERIVED. GIVEN WITH THE SEED: THE CARDS: each row of YtlnoolnbpohjhaaDoorRows.lean that lists a variable, with what it lists TIED to the program's text (the seventh form; the later family's looks); each row that meets fmt, with fmt's text TOLD by the authors' own Lean function (tested against real Go, not proved from fmt's source: count such statements apart). THE CARD IS WHAT COUNTS. Prove the row's statement (the work); the ties are given (YtlnoolnbpohjhaaDoorTie.lean); close each card by the builder's one call (the guide's Derived/Test/ToyasCard.lean, 'card_holds'). Laid BY PROGRAM, IN A SANDBOX (cutbox-door.mjs). By AI agents, Wed Nov 11 2026. No macro, syntax, notation, axiom, sorry.
-/
import Derived.Test.YtlnoolnbpohjhaaDoorRows
import GoSem.ClaimSeven
namespace Go.Proofs.YtlnoolnbpohjhaaDoor
namespace Rows

/-- THE TIED CARD OF 'laws.FnExactReadCountWheel'. -/
def fnExactReadCountWheelCard : Claim7 := { stood := { row := fnExactReadCountWheelRow, standIns := [], harness := (true, "24207feb5b4a89ec5c0698bc004b7660481bea531ff88b7691bdba1f7cb0593d"), looks := true }, kinds := [], alts := [], laidByText := true, laidKinds := [.data, .data, .data, .data, .sentinel, .sentinel, .pinned], laidTests := true, laidLooks := .later }
def FnExactReadCountWheelCardSaid : Prop := Claim7.holds Tryd.pinned (.plain (OpenSpec.ofChange fnExactReadCountWheelSpec)) fnExactReadCountWheelCard

/-- THE SECOND FORM's CARD OF 'laws.FnExactReadCountWheel'. -/
def fnExactReadCountWheelUptoCard : Claim7 := { stood := { row := fnExactReadCountWheelUptoRow, standIns := [], harness := (true, "24207feb5b4a89ec5c0698bc004b7660481bea531ff88b7691bdba1f7cb0593d"), looks := true }, kinds := [], alts := [], laidByText := true, laidKinds := [.data, .data, .data, .data, .sentinel, .sentinel, .pinned], laidTests := true, laidLooks := .later }
def FnExactReadCountWheelUptoCardSaid : Prop := Claim7.holds Tryd.pinned (.plain (OpenSpec.upto fnExactReadCountWheelSpec)) fnExactReadCountWheelUptoCard
end Rows
end Go.Proofs.YtlnoolnbpohjhaaDoor
