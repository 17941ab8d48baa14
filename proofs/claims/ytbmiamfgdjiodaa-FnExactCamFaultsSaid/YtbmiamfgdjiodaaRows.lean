/-
  No cell of these rows narrows 'for every input' (looked for: loops, veiled, ifaces, maps, wideKeys, modest, calm, conditions, laid).
  DERIVED. THE GIVEN ROWS OF THIS SEAT. 4 by the template 'for every input the law returns true; each argument reads behind the call as it read before'; 0 by the template 'total and deterministic' (their statements: YtbmiamfgdjiodaaTotals.lean).
  GIVEN WITH THE SEED: the statements are not yours to turn. If you find one false, say at which input.
  Laid BY PROGRAM, IN A SANDBOX (cutbox-rows.mjs): the forced cells as the released guide's own fill.sh prints them over the translation 08e6c4dcc40be867… (all of the seat's roots in one cut). By AI agents, Wed Nov 11 2026. No macro, syntax, notation, axiom, sorry.
-/
import Derived.Test.YtbmiamfgdjiodaaChecked
import GoSem.Claim
import GoSem.ClaimJoined
import GoSem.ClaimMapViews
import Derived.JoinedTies
import Derived.KernelRfl
namespace Go.Proofs.Ytbmiamfgdjiodaa
/- THE CELL 'sum', in the pinned program and in every row, IS THE sha256 OF THE DUMP (.gsa) THAT YtbmiamfgdjiodaaProg.lean LOADS. Nothing in Lean hashes anything: it is a label: what it is worth is what the hold of that sum in a sandbox is worth. -/
noncomputable def Try.pinned : Pinned := { name := "ytbmiamfgdjiodaa", sum := "08e6c4dcc40be86741fcb74dce56f88caf20f292be9f42285abe12c947b7aff6", checked := Try.checked }
namespace Rows
def none {H : Type} : Left H := { results := [], args := [] }

/-- 'laws.FnExactBestCam': WHATEVER THE INPUT: true; the input reads as it did. -/
def fnExactBestCamSpec : ChangeSpec := { name := "fnExactBestCam", fn := fun _ => fun
  | [d1, d2] => { results := [.lit (.bool true)], args := [d1, d2] }
  | _ => none }
def fnExactBestCamRow : OpenClaim := { program := "ytbmiamfgdjiodaa", sum := "08e6c4dcc40be86741fcb74dce56f88caf20f292be9f42285abe12c947b7aff6", func := "loop.example/g00921/laws.FnExactBestCam", spec := "fnExactBestCam", unfollowed := true, recurses := true, apart := false }
def FnExactBestCamSaid : Prop := fnExactBestCamRow.holds Try.pinned (OpenSpec.ofChange fnExactBestCamSpec)

/-- ITS FALSE NEIGHBOUR: 'it returns false'. Refute it at one input. -/
def fnExactBestCamWrong : ChangeSpec := { name := "fnExactBestCam", fn := fun _ => fun
  | [d1, d2] => { results := [.lit (.bool false)], args := [d1, d2] }
  | _ => none }
def FnExactBestCamWrongFalsely : Prop := fnExactBestCamRow.holds Try.pinned (OpenSpec.ofChange fnExactBestCamWrong)

/-- 'laws.FnExactCamFaults': WHATEVER THE INPUT: true; the input reads as it did. -/
def fnExactCamFaultsSpec : ChangeSpec := { name := "fnExactCamFaults", fn := fun _ => fun
  | [d1, d2, d3, d4] => { results := [.lit (.bool true)], args := [d1, d2, d3, d4] }
  | _ => none }
def fnExactCamFaultsRow : OpenClaim := { program := "ytbmiamfgdjiodaa", sum := "08e6c4dcc40be86741fcb74dce56f88caf20f292be9f42285abe12c947b7aff6", func := "loop.example/g00921/laws.FnExactCamFaults", spec := "fnExactCamFaults", unfollowed := true, recurses := true, apart := false }
def FnExactCamFaultsSaid : Prop := fnExactCamFaultsRow.holds Try.pinned (OpenSpec.ofChange fnExactCamFaultsSpec)

/-- ITS FALSE NEIGHBOUR: 'it returns false'. Refute it at one input. -/
def fnExactCamFaultsWrong : ChangeSpec := { name := "fnExactCamFaults", fn := fun _ => fun
  | [d1, d2, d3, d4] => { results := [.lit (.bool false)], args := [d1, d2, d3, d4] }
  | _ => none }
def FnExactCamFaultsWrongFalsely : Prop := fnExactCamFaultsRow.holds Try.pinned (OpenSpec.ofChange fnExactCamFaultsWrong)

/-- 'laws.FnExactSetPerpetual': WHATEVER THE INPUT: true; the input reads as it did. -/
def fnExactSetPerpetualSpec : ChangeSpec := { name := "fnExactSetPerpetual", fn := fun _ => fun
  | [d1, d2, d3, d4] => { results := [.lit (.bool true)], args := [d1, d2, d3, d4] }
  | _ => none }
def fnExactSetPerpetualRow : OpenClaim := { program := "ytbmiamfgdjiodaa", sum := "08e6c4dcc40be86741fcb74dce56f88caf20f292be9f42285abe12c947b7aff6", func := "loop.example/g00921/laws.FnExactSetPerpetual", spec := "fnExactSetPerpetual", unfollowed := true, recurses := true, apart := false }
def FnExactSetPerpetualSaid : Prop := fnExactSetPerpetualRow.holds Try.pinned (OpenSpec.ofChange fnExactSetPerpetualSpec)

/-- ITS FALSE NEIGHBOUR: 'it returns false'. Refute it at one input. -/
def fnExactSetPerpetualWrong : ChangeSpec := { name := "fnExactSetPerpetual", fn := fun _ => fun
  | [d1, d2, d3, d4] => { results := [.lit (.bool false)], args := [d1, d2, d3, d4] }
  | _ => none }
def FnExactSetPerpetualWrongFalsely : Prop := fnExactSetPerpetualRow.holds Try.pinned (OpenSpec.ofChange fnExactSetPerpetualWrong)

/-- 'laws.FnExactFirstWrong': WHATEVER THE INPUT: true; the input reads as it did. -/
def fnExactFirstWrongSpec : ChangeSpec := { name := "fnExactFirstWrong", fn := fun _ => fun
  | [d1, d2, d3, d4] => { results := [.lit (.bool true)], args := [d1, d2, d3, d4] }
  | _ => none }
def fnExactFirstWrongRow : OpenClaim := { program := "ytbmiamfgdjiodaa", sum := "08e6c4dcc40be86741fcb74dce56f88caf20f292be9f42285abe12c947b7aff6", func := "loop.example/g00921/laws.FnExactFirstWrong", spec := "fnExactFirstWrong", unfollowed := true, recurses := true, apart := false }
def FnExactFirstWrongSaid : Prop := fnExactFirstWrongRow.holds Try.pinned (OpenSpec.ofChange fnExactFirstWrongSpec)

/-- ITS FALSE NEIGHBOUR: 'it returns false'. Refute it at one input. -/
def fnExactFirstWrongWrong : ChangeSpec := { name := "fnExactFirstWrong", fn := fun _ => fun
  | [d1, d2, d3, d4] => { results := [.lit (.bool false)], args := [d1, d2, d3, d4] }
  | _ => none }
def FnExactFirstWrongWrongFalsely : Prop := fnExactFirstWrongRow.holds Try.pinned (OpenSpec.ofChange fnExactFirstWrongWrong)

/- THE SECOND FORM. 'bulk': how many values and letters a reading holds, each counted each time it is reached (what is shared counts as often as it is met; a slice's spare places count too). A statement '..UptoSaid' is the law's where the arguments, and the package variables that the reading takes, are together of bulk at most 1048576: NARROWER than '..Said'. Prove '..Said' where nothing that the law and all that it calls make is longer than what came in: it says more and counts as full. Else prove '..UptoSaid'. A law counts once. -/
mutual
def uptoBulk {H : Type} : DataW H → Nat
  | .lit (.string bytes) => bytes.length + 1
  | .lit _ => 1
  | .nil => 1
  | .ptr d => uptoBulk d + 1
  | .slice elems spare => uptoBulkAll elems + uptoBulkAll spare + 1
  | .agg parts => uptoBulkAll parts + 1
  | .iface _ d => uptoBulk d + 1
  | .map entries => uptoBulkEntries entries + 1
  | .held _ => 1
def uptoBulkAll {H : Type} : List (DataW H) → Nat
  | [] => 0
  | d :: r => uptoBulk d + uptoBulkAll r
def uptoBulkEntries {H : Type} : List (Lit × DataW H) → Nat
  | [] => 0
  | x :: r => uptoBulkEntry x + uptoBulkEntries r
def uptoBulkEntry {H : Type} : Lit × DataW H → Nat
  | (.string bytes, d) => bytes.length + uptoBulk d + 1
  | (_, d) => uptoBulk d + 1
 end
def uptoSmall : (H : Type) → List (DataW H) → Bool := fun _ ds => decide (uptoBulkAll ds ≤ 1048576)
def OpenSpec.upto (s : _root_.Go.ChangeSpec) : _root_.Go.OpenSpec := { _root_.Go.OpenSpec.ofChange s with cond := some uptoSmall }

/-- 'laws.FnExactBestCam', WHERE WHAT IT READS IS OF BULK AT MOST 1048576: true; the input reads as it did. -/
def fnExactBestCamUptoRow : OpenClaim := { program := "ytbmiamfgdjiodaa", sum := "08e6c4dcc40be86741fcb74dce56f88caf20f292be9f42285abe12c947b7aff6", func := "loop.example/g00921/laws.FnExactBestCam", spec := "fnExactBestCam", unfollowed := true, recurses := true, apart := false, narrowed := true }
def FnExactBestCamUptoSaid : Prop := fnExactBestCamUptoRow.holds Try.pinned (OpenSpec.upto fnExactBestCamSpec)

/-- 'laws.FnExactCamFaults', WHERE WHAT IT READS IS OF BULK AT MOST 1048576: true; the input reads as it did. -/
def fnExactCamFaultsUptoRow : OpenClaim := { program := "ytbmiamfgdjiodaa", sum := "08e6c4dcc40be86741fcb74dce56f88caf20f292be9f42285abe12c947b7aff6", func := "loop.example/g00921/laws.FnExactCamFaults", spec := "fnExactCamFaults", unfollowed := true, recurses := true, apart := false, narrowed := true }
def FnExactCamFaultsUptoSaid : Prop := fnExactCamFaultsUptoRow.holds Try.pinned (OpenSpec.upto fnExactCamFaultsSpec)

/-- 'laws.FnExactSetPerpetual', WHERE WHAT IT READS IS OF BULK AT MOST 1048576: true; the input reads as it did. -/
def fnExactSetPerpetualUptoRow : OpenClaim := { program := "ytbmiamfgdjiodaa", sum := "08e6c4dcc40be86741fcb74dce56f88caf20f292be9f42285abe12c947b7aff6", func := "loop.example/g00921/laws.FnExactSetPerpetual", spec := "fnExactSetPerpetual", unfollowed := true, recurses := true, apart := false, narrowed := true }
def FnExactSetPerpetualUptoSaid : Prop := fnExactSetPerpetualUptoRow.holds Try.pinned (OpenSpec.upto fnExactSetPerpetualSpec)

/-- 'laws.FnExactFirstWrong', WHERE WHAT IT READS IS OF BULK AT MOST 1048576: true; the input reads as it did. -/
def fnExactFirstWrongUptoRow : OpenClaim := { program := "ytbmiamfgdjiodaa", sum := "08e6c4dcc40be86741fcb74dce56f88caf20f292be9f42285abe12c947b7aff6", func := "loop.example/g00921/laws.FnExactFirstWrong", spec := "fnExactFirstWrong", unfollowed := true, recurses := true, apart := false, narrowed := true }
def FnExactFirstWrongUptoSaid : Prop := fnExactFirstWrongUptoRow.holds Try.pinned (OpenSpec.upto fnExactFirstWrongSpec)

end Rows
end Go.Proofs.Ytbmiamfgdjiodaa
