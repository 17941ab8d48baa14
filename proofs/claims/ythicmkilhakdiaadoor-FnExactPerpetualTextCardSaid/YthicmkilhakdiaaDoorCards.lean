/-
  DERIVED. GIVEN WITH THE SEED: THE CARDS: each row of YthicmkilhakdiaaDoorRows.lean that lists a variable, with what it lists TIED to the program's text (the seventh form; the later family's looks); each row that meets fmt, with fmt's text TOLD by the authors' own Lean function (tested against real Go, not proved from fmt's source: count such statements apart). THE CARD IS WHAT COUNTS. Prove the row's statement (the work); the ties are given (YthicmkilhakdiaaDoorTie.lean); close each card by the builder's one call (the guide's Derived/Test/ToyasCard.lean, 'card_holds'). Laid BY PROGRAM, IN A SANDBOX (cutbox-door.mjs). By AI agents, Wed Nov 11 2026. No macro, syntax, notation, axiom, sorry.
-/
import Derived.Test.YthicmkilhakdiaaDoorRows
import GoSem.ClaimSeven
namespace Go.Proofs.YthicmkilhakdiaaDoor
namespace Rows

/-- THE TIED CARD OF 'laws.FnExactPerpetualText'. -/
def fnExactPerpetualTextCard : Claim7 := { stood := { row := fnExactPerpetualTextRow, standIns := [], harness := (true, "bb5d04c62460ef70aef21253e09199c4b6d0e4d67cbb8e34d48ad0cf834cc8f4"), looks := false }, kinds := [], alts := [], laidByText := true, laidKinds := [.data, .data, .data], laidTests := true, laidLooks := .later }
def FnExactPerpetualTextCardSaid : Prop := Claim7.holds Tryd.pinned (.plain (OpenSpec.ofChange fnExactPerpetualTextSpec)) fnExactPerpetualTextCard

/-- THE TIED CARD OF 'laws.FnExactCountWheelText'. -/
def fnExactCountWheelTextCard : Claim7 := { stood := { row := fnExactCountWheelTextRow, standIns := [], harness := (true, "bb5d04c62460ef70aef21253e09199c4b6d0e4d67cbb8e34d48ad0cf834cc8f4"), looks := false }, kinds := [], alts := [], laidByText := true, laidKinds := [.data, .data, .data], laidTests := true, laidLooks := .later }
def FnExactCountWheelTextCardSaid : Prop := Claim7.holds Tryd.pinned (.plain (OpenSpec.ofChange fnExactCountWheelTextSpec)) fnExactCountWheelTextCard

/-- THE SECOND FORM's CARD OF 'laws.FnExactPerpetualText'. -/
def fnExactPerpetualTextUptoCard : Claim7 := { stood := { row := fnExactPerpetualTextUptoRow, standIns := [], harness := (true, "bb5d04c62460ef70aef21253e09199c4b6d0e4d67cbb8e34d48ad0cf834cc8f4"), looks := false }, kinds := [], alts := [], laidByText := true, laidKinds := [.data, .data, .data], laidTests := true, laidLooks := .later }
def FnExactPerpetualTextUptoCardSaid : Prop := Claim7.holds Tryd.pinned (.plain (OpenSpec.upto fnExactPerpetualTextSpec)) fnExactPerpetualTextUptoCard

/-- THE SECOND FORM's CARD OF 'laws.FnExactCountWheelText'. -/
def fnExactCountWheelTextUptoCard : Claim7 := { stood := { row := fnExactCountWheelTextUptoRow, standIns := [], harness := (true, "bb5d04c62460ef70aef21253e09199c4b6d0e4d67cbb8e34d48ad0cf834cc8f4"), looks := false }, kinds := [], alts := [], laidByText := true, laidKinds := [.data, .data, .data], laidTests := true, laidLooks := .later }
def FnExactCountWheelTextUptoCardSaid : Prop := Claim7.holds Tryd.pinned (.plain (OpenSpec.upto fnExactCountWheelTextSpec)) fnExactCountWheelTextUptoCard
end Rows
end Go.Proofs.YthicmkilhakdiaaDoor
