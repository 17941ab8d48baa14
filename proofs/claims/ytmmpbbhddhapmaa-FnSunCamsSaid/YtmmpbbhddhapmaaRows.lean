/-
  No cell of these rows narrows 'for every input' (looked for: loops, veiled, ifaces, maps, wideKeys, modest, calm, conditions, laid).
  DERIVED. THE GIVEN ROWS OF THIS SEAT. 8 by the template 'for every input the law returns true; each argument reads behind the call as it read before'; 0 by the template 'total and deterministic' (their statements: YtmmpbbhddhapmaaTotals.lean).
  GIVEN WITH THE SEED: the statements are not yours to turn. If you find one false, say at which input.
  Laid BY PROGRAM, IN A SANDBOX (cutbox-rows.mjs): the forced cells as the released guide's own fill.sh prints them over the translation 4cfc5c92e0c5d860… (all of the seat's roots in one cut). By AI agents, Wed Nov 11 2026. No macro, syntax, notation, axiom, sorry.
-/
import Derived.Test.YtmmpbbhddhapmaaChecked
import GoSem.Claim
import GoSem.ClaimJoined
import GoSem.ClaimMapViews
import Derived.JoinedTies
import Derived.KernelRfl
namespace Go.Proofs.Ytmmpbbhddhapmaa
/- THE CELL 'sum', in the pinned program and in every row, IS THE sha256 OF THE DUMP (.gsa) THAT YtmmpbbhddhapmaaProg.lean LOADS. Nothing in Lean hashes anything: it is a label: what it is worth is what the hold of that sum in a sandbox is worth. -/
noncomputable def Try.pinned : Pinned := { name := "ytmmpbbhddhapmaa", sum := "4cfc5c92e0c5d860e5542e18f26365be66bd769a295c91ee48d9996505398f29", checked := Try.checked }
namespace Rows
def none {H : Type} : Left H := { results := [], args := [] }

/-- 'laws.FnExactValidSunCam': WHATEVER THE INPUT: true; the input reads as it did. -/
def fnExactValidSunCamSpec : ChangeSpec := { name := "fnExactValidSunCam", fn := fun _ => fun
  | [d] => { results := [.lit (.bool true)], args := [d] }
  | _ => none }
def fnExactValidSunCamRow : OpenClaim := { program := "ytmmpbbhddhapmaa", sum := "4cfc5c92e0c5d860e5542e18f26365be66bd769a295c91ee48d9996505398f29", func := "loop.example/g00921/laws.FnExactValidSunCam", spec := "fnExactValidSunCam", apart := false }
def FnExactValidSunCamSaid : Prop := fnExactValidSunCamRow.holds Try.pinned (OpenSpec.ofChange fnExactValidSunCamSpec)

/-- ITS FALSE NEIGHBOUR: 'it returns false'. Refute it at one input. -/
def fnExactValidSunCamWrong : ChangeSpec := { name := "fnExactValidSunCam", fn := fun _ => fun
  | [d] => { results := [.lit (.bool false)], args := [d] }
  | _ => none }
def FnExactValidSunCamWrongFalsely : Prop := fnExactValidSunCamRow.holds Try.pinned (OpenSpec.ofChange fnExactValidSunCamWrong)

/-- 'laws.FnExactSteepestStep': WHATEVER THE INPUT: true; the input reads as it did. -/
def fnExactSteepestStepSpec : ChangeSpec := { name := "fnExactSteepestStep", fn := fun _ => fun
  | [d] => { results := [.lit (.bool true)], args := [d] }
  | _ => none }
def fnExactSteepestStepRow : OpenClaim := { program := "ytmmpbbhddhapmaa", sum := "4cfc5c92e0c5d860e5542e18f26365be66bd769a295c91ee48d9996505398f29", func := "loop.example/g00921/laws.FnExactSteepestStep", spec := "fnExactSteepestStep", apart := false }
def FnExactSteepestStepSaid : Prop := fnExactSteepestStepRow.holds Try.pinned (OpenSpec.ofChange fnExactSteepestStepSpec)

/-- ITS FALSE NEIGHBOUR: 'it returns false'. Refute it at one input. -/
def fnExactSteepestStepWrong : ChangeSpec := { name := "fnExactSteepestStep", fn := fun _ => fun
  | [d] => { results := [.lit (.bool false)], args := [d] }
  | _ => none }
def FnExactSteepestStepWrongFalsely : Prop := fnExactSteepestStepRow.holds Try.pinned (OpenSpec.ofChange fnExactSteepestStepWrong)

/-- 'laws.FnExactEquationAt': WHATEVER THE INPUT: true; the input reads as it did. -/
def fnExactEquationAtSpec : ChangeSpec := { name := "fnExactEquationAt", fn := fun _ => fun
  | [d1, d2] => { results := [.lit (.bool true)], args := [d1, d2] }
  | _ => none }
def fnExactEquationAtRow : OpenClaim := { program := "ytmmpbbhddhapmaa", sum := "4cfc5c92e0c5d860e5542e18f26365be66bd769a295c91ee48d9996505398f29", func := "loop.example/g00921/laws.FnExactEquationAt", spec := "fnExactEquationAt", apart := false }
def FnExactEquationAtSaid : Prop := fnExactEquationAtRow.holds Try.pinned (OpenSpec.ofChange fnExactEquationAtSpec)

/-- ITS FALSE NEIGHBOUR: 'it returns false'. Refute it at one input. -/
def fnExactEquationAtWrong : ChangeSpec := { name := "fnExactEquationAt", fn := fun _ => fun
  | [d1, d2] => { results := [.lit (.bool false)], args := [d1, d2] }
  | _ => none }
def FnExactEquationAtWrongFalsely : Prop := fnExactEquationAtRow.holds Try.pinned (OpenSpec.ofChange fnExactEquationAtWrong)

/-- 'laws.FnExactMeanTime': WHATEVER THE INPUT: true; the input reads as it did. -/
def fnExactMeanTimeSpec : ChangeSpec := { name := "fnExactMeanTime", fn := fun _ => fun
  | [d1, d2, d3] => { results := [.lit (.bool true)], args := [d1, d2, d3] }
  | _ => none }
def fnExactMeanTimeRow : OpenClaim := { program := "ytmmpbbhddhapmaa", sum := "4cfc5c92e0c5d860e5542e18f26365be66bd769a295c91ee48d9996505398f29", func := "loop.example/g00921/laws.FnExactMeanTime", spec := "fnExactMeanTime", apart := false }
def FnExactMeanTimeSaid : Prop := fnExactMeanTimeRow.holds Try.pinned (OpenSpec.ofChange fnExactMeanTimeSpec)

/-- ITS FALSE NEIGHBOUR: 'it returns false'. Refute it at one input. -/
def fnExactMeanTimeWrong : ChangeSpec := { name := "fnExactMeanTime", fn := fun _ => fun
  | [d1, d2, d3] => { results := [.lit (.bool false)], args := [d1, d2, d3] }
  | _ => none }
def FnExactMeanTimeWrongFalsely : Prop := fnExactMeanTimeRow.holds Try.pinned (OpenSpec.ofChange fnExactMeanTimeWrong)

/-- 'laws.FnExactSolarTime': WHATEVER THE INPUT: true; the input reads as it did. -/
def fnExactSolarTimeSpec : ChangeSpec := { name := "fnExactSolarTime", fn := fun _ => fun
  | [d1, d2, d3] => { results := [.lit (.bool true)], args := [d1, d2, d3] }
  | _ => none }
def fnExactSolarTimeRow : OpenClaim := { program := "ytmmpbbhddhapmaa", sum := "4cfc5c92e0c5d860e5542e18f26365be66bd769a295c91ee48d9996505398f29", func := "loop.example/g00921/laws.FnExactSolarTime", spec := "fnExactSolarTime", apart := false }
def FnExactSolarTimeSaid : Prop := fnExactSolarTimeRow.holds Try.pinned (OpenSpec.ofChange fnExactSolarTimeSpec)

/-- ITS FALSE NEIGHBOUR: 'it returns false'. Refute it at one input. -/
def fnExactSolarTimeWrong : ChangeSpec := { name := "fnExactSolarTime", fn := fun _ => fun
  | [d1, d2, d3] => { results := [.lit (.bool false)], args := [d1, d2, d3] }
  | _ => none }
def FnExactSolarTimeWrongFalsely : Prop := fnExactSolarTimeRow.holds Try.pinned (OpenSpec.ofChange fnExactSolarTimeWrong)

/-- 'laws.FnExactSunRadii': WHATEVER THE INPUT: true; the input reads as it did. -/
def fnExactSunRadiiSpec : ChangeSpec := { name := "fnExactSunRadii", fn := fun _ => fun
  | [d1, d2, d3] => { results := [.lit (.bool true)], args := [d1, d2, d3] }
  | _ => none }
def fnExactSunRadiiRow : OpenClaim := { program := "ytmmpbbhddhapmaa", sum := "4cfc5c92e0c5d860e5542e18f26365be66bd769a295c91ee48d9996505398f29", func := "loop.example/g00921/laws.FnExactSunRadii", spec := "fnExactSunRadii", apart := false }
def FnExactSunRadiiSaid : Prop := fnExactSunRadiiRow.holds Try.pinned (OpenSpec.ofChange fnExactSunRadiiSpec)

/-- ITS FALSE NEIGHBOUR: 'it returns false'. Refute it at one input. -/
def fnExactSunRadiiWrong : ChangeSpec := { name := "fnExactSunRadii", fn := fun _ => fun
  | [d1, d2, d3] => { results := [.lit (.bool false)], args := [d1, d2, d3] }
  | _ => none }
def FnExactSunRadiiWrongFalsely : Prop := fnExactSunRadiiRow.holds Try.pinned (OpenSpec.ofChange fnExactSunRadiiWrong)

/-- 'laws.FnSolarTimes': WHATEVER THE INPUT: true; the input reads as it did. -/
def fnSolarTimesSpec : ChangeSpec := { name := "fnSolarTimes", fn := fun _ => fun
  | [d] => { results := [.lit (.bool true)], args := [d] }
  | _ => none }
def fnSolarTimesRow : OpenClaim := { program := "ytmmpbbhddhapmaa", sum := "4cfc5c92e0c5d860e5542e18f26365be66bd769a295c91ee48d9996505398f29", func := "loop.example/g00921/laws.FnSolarTimes", spec := "fnSolarTimes", apart := false }
def FnSolarTimesSaid : Prop := fnSolarTimesRow.holds Try.pinned (OpenSpec.ofChange fnSolarTimesSpec)

/-- ITS FALSE NEIGHBOUR: 'it returns false'. Refute it at one input. -/
def fnSolarTimesWrong : ChangeSpec := { name := "fnSolarTimes", fn := fun _ => fun
  | [d] => { results := [.lit (.bool false)], args := [d] }
  | _ => none }
def FnSolarTimesWrongFalsely : Prop := fnSolarTimesRow.holds Try.pinned (OpenSpec.ofChange fnSolarTimesWrong)

/-- 'laws.FnSunCams': WHATEVER THE INPUT: true; the input reads as it did. -/
def fnSunCamsSpec : ChangeSpec := { name := "fnSunCams", fn := fun _ => fun
  | [d] => { results := [.lit (.bool true)], args := [d] }
  | _ => none }
def fnSunCamsRow : OpenClaim := { program := "ytmmpbbhddhapmaa", sum := "4cfc5c92e0c5d860e5542e18f26365be66bd769a295c91ee48d9996505398f29", func := "loop.example/g00921/laws.FnSunCams", spec := "fnSunCams", apart := false }
def FnSunCamsSaid : Prop := fnSunCamsRow.holds Try.pinned (OpenSpec.ofChange fnSunCamsSpec)

/-- ITS FALSE NEIGHBOUR: 'it returns false'. Refute it at one input. -/
def fnSunCamsWrong : ChangeSpec := { name := "fnSunCams", fn := fun _ => fun
  | [d] => { results := [.lit (.bool false)], args := [d] }
  | _ => none }
def FnSunCamsWrongFalsely : Prop := fnSunCamsRow.holds Try.pinned (OpenSpec.ofChange fnSunCamsWrong)

/- THE SECOND FORM. 'bulk': how many values and letters a reading holds, each counted each time it is reached (what is shared counts as often as it is met; a slice's spare places count too). A statement '..UptoSaid' is the law's where the arguments, and the package variables that the reading takes, are together of bulk at most 1048576: NARROWER than '..Said'. Prove '..Said' where nothing that the law and all that it calls make is longer than what came in: it says more and counts as full. Else prove '..UptoSaid'. A law counts once. -/
mutual
def uptoBulk {H : Type} : DataW H → Nat
  | .lit (.string bytes) => bytes.length + 1
  | .lit _ => 1
  | .nil => 1
  | .ptr d => uptoBulk d + 1
  | .slice elems spare => uptoBulkAll elems + uptoBulkAll spare + 1
  | .agg parts => uptoBulkAll parts + 1
  | .iface _ d => uptoBulk d + 1
  | .map entries => uptoBulkEntries entries + 1
  | .held _ => 1
def uptoBulkAll {H : Type} : List (DataW H) → Nat
  | [] => 0
  | d :: r => uptoBulk d + uptoBulkAll r
def uptoBulkEntries {H : Type} : List (Lit × DataW H) → Nat
  | [] => 0
  | x :: r => uptoBulkEntry x + uptoBulkEntries r
def uptoBulkEntry {H : Type} : Lit × DataW H → Nat
  | (.string bytes, d) => bytes.length + uptoBulk d + 1
  | (_, d) => uptoBulk d + 1
 end
def uptoSmall : (H : Type) → List (DataW H) → Bool := fun _ ds => decide (uptoBulkAll ds ≤ 1048576)
def OpenSpec.upto (s : _root_.Go.ChangeSpec) : _root_.Go.OpenSpec := { _root_.Go.OpenSpec.ofChange s with cond := some uptoSmall }

/-- 'laws.FnExactValidSunCam', WHERE WHAT IT READS IS OF BULK AT MOST 1048576: true; the input reads as it did. -/
def fnExactValidSunCamUptoRow : OpenClaim := { program := "ytmmpbbhddhapmaa", sum := "4cfc5c92e0c5d860e5542e18f26365be66bd769a295c91ee48d9996505398f29", func := "loop.example/g00921/laws.FnExactValidSunCam", spec := "fnExactValidSunCam", apart := false, narrowed := true }
def FnExactValidSunCamUptoSaid : Prop := fnExactValidSunCamUptoRow.holds Try.pinned (OpenSpec.upto fnExactValidSunCamSpec)

/-- 'laws.FnExactSteepestStep', WHERE WHAT IT READS IS OF BULK AT MOST 1048576: true; the input reads as it did. -/
def fnExactSteepestStepUptoRow : OpenClaim := { program := "ytmmpbbhddhapmaa", sum := "4cfc5c92e0c5d860e5542e18f26365be66bd769a295c91ee48d9996505398f29", func := "loop.example/g00921/laws.FnExactSteepestStep", spec := "fnExactSteepestStep", apart := false, narrowed := true }
def FnExactSteepestStepUptoSaid : Prop := fnExactSteepestStepUptoRow.holds Try.pinned (OpenSpec.upto fnExactSteepestStepSpec)

/-- 'laws.FnExactEquationAt', WHERE WHAT IT READS IS OF BULK AT MOST 1048576: true; the input reads as it did. -/
def fnExactEquationAtUptoRow : OpenClaim := { program := "ytmmpbbhddhapmaa", sum := "4cfc5c92e0c5d860e5542e18f26365be66bd769a295c91ee48d9996505398f29", func := "loop.example/g00921/laws.FnExactEquationAt", spec := "fnExactEquationAt", apart := false, narrowed := true }
def FnExactEquationAtUptoSaid : Prop := fnExactEquationAtUptoRow.holds Try.pinned (OpenSpec.upto fnExactEquationAtSpec)

/-- 'laws.FnExactMeanTime', WHERE WHAT IT READS IS OF BULK AT MOST 1048576: true; the input reads as it did. -/
def fnExactMeanTimeUptoRow : OpenClaim := { program := "ytmmpbbhddhapmaa", sum := "4cfc5c92e0c5d860e5542e18f26365be66bd769a295c91ee48d9996505398f29", func := "loop.example/g00921/laws.FnExactMeanTime", spec := "fnExactMeanTime", apart := false, narrowed := true }
def FnExactMeanTimeUptoSaid : Prop := fnExactMeanTimeUptoRow.holds Try.pinned (OpenSpec.upto fnExactMeanTimeSpec)

/-- 'laws.FnExactSolarTime', WHERE WHAT IT READS IS OF BULK AT MOST 1048576: true; the input reads as it did. -/
def fnExactSolarTimeUptoRow : OpenClaim := { program := "ytmmpbbhddhapmaa", sum := "4cfc5c92e0c5d860e5542e18f26365be66bd769a295c91ee48d9996505398f29", func := "loop.example/g00921/laws.FnExactSolarTime", spec := "fnExactSolarTime", apart := false, narrowed := true }
def FnExactSolarTimeUptoSaid : Prop := fnExactSolarTimeUptoRow.holds Try.pinned (OpenSpec.upto fnExactSolarTimeSpec)

/-- 'laws.FnExactSunRadii', WHERE WHAT IT READS IS OF BULK AT MOST 1048576: true; the input reads as it did. -/
def fnExactSunRadiiUptoRow : OpenClaim := { program := "ytmmpbbhddhapmaa", sum := "4cfc5c92e0c5d860e5542e18f26365be66bd769a295c91ee48d9996505398f29", func := "loop.example/g00921/laws.FnExactSunRadii", spec := "fnExactSunRadii", apart := false, narrowed := true }
def FnExactSunRadiiUptoSaid : Prop := fnExactSunRadiiUptoRow.holds Try.pinned (OpenSpec.upto fnExactSunRadiiSpec)

/-- 'laws.FnSolarTimes', WHERE WHAT IT READS IS OF BULK AT MOST 1048576: true; the input reads as it did. -/
def fnSolarTimesUptoRow : OpenClaim := { program := "ytmmpbbhddhapmaa", sum := "4cfc5c92e0c5d860e5542e18f26365be66bd769a295c91ee48d9996505398f29", func := "loop.example/g00921/laws.FnSolarTimes", spec := "fnSolarTimes", apart := false, narrowed := true }
def FnSolarTimesUptoSaid : Prop := fnSolarTimesUptoRow.holds Try.pinned (OpenSpec.upto fnSolarTimesSpec)

/-- 'laws.FnSunCams', WHERE WHAT IT READS IS OF BULK AT MOST 1048576: true; the input reads as it did. -/
def fnSunCamsUptoRow : OpenClaim := { program := "ytmmpbbhddhapmaa", sum := "4cfc5c92e0c5d860e5542e18f26365be66bd769a295c91ee48d9996505398f29", func := "loop.example/g00921/laws.FnSunCams", spec := "fnSunCams", apart := false, narrowed := true }
def FnSunCamsUptoSaid : Prop := fnSunCamsUptoRow.holds Try.pinned (OpenSpec.upto fnSunCamsSpec)

end Rows
end Go.Proofs.Ytmmpbbhddhapmaa
