/-
  No cell of these rows narrows 'for every input' (looked for: loops, veiled, ifaces, maps, wideKeys, modest, calm, conditions, laid).
  DERIVED. THE GIVEN ROWS OF THIS SEAT. 11 by the template 'for every input the law returns true; each argument reads behind the call as it read before'; 0 by the template 'total and deterministic' (their statements: YtcppmocninhdpaaTotals.lean).
  GIVEN WITH THE SEED: the statements are not yours to turn. If you find one false, say at which input.
  Laid BY PROGRAM, IN A SANDBOX (cutbox-rows.mjs): the forced cells as the released guide's own fill.sh prints them over the translation f558ed98de81a4d4… (all of the seat's roots in one cut). By AI agents, Wed Nov 11 2026. No macro, syntax, notation, axiom, sorry.
-/
import Derived.Test.YtcppmocninhdpaaChecked
import GoSem.Claim
import GoSem.ClaimJoined
import GoSem.ClaimMapViews
import Derived.JoinedTies
import Derived.KernelRfl
namespace Go.Proofs.Ytcppmocninhdpaa
/- THE CELL 'sum', in the pinned program and in every row, IS THE sha256 OF THE DUMP (.gsa) THAT YtcppmocninhdpaaProg.lean LOADS. Nothing in Lean hashes anything: it is a label: what it is worth is what the hold of that sum in a sandbox is worth. -/
noncomputable def Try.pinned : Pinned := { name := "ytcppmocninhdpaa", sum := "f558ed98de81a4d41ace6ca6b31d41ed848553a0639a48880054ac2296cd61fa", checked := Try.checked }
namespace Rows
def none {H : Type} : Left H := { results := [], args := [] }

/-- 'laws.FnExactSamePerpetual': WHATEVER THE INPUT: true; the input reads as it did. -/
def fnExactSamePerpetualSpec : ChangeSpec := { name := "fnExactSamePerpetual", fn := fun _ => fun
  | [d1, d2] => { results := [.lit (.bool true)], args := [d1, d2] }
  | _ => none }
def fnExactSamePerpetualRow : OpenClaim := { program := "ytcppmocninhdpaa", sum := "f558ed98de81a4d41ace6ca6b31d41ed848553a0639a48880054ac2296cd61fa", func := "loop.example/g00921/laws.FnExactSamePerpetual", spec := "fnExactSamePerpetual", apart := false }
def FnExactSamePerpetualSaid : Prop := fnExactSamePerpetualRow.holds Try.pinned (OpenSpec.ofChange fnExactSamePerpetualSpec)

/-- ITS FALSE NEIGHBOUR: 'it returns false'. Refute it at one input. -/
def fnExactSamePerpetualWrong : ChangeSpec := { name := "fnExactSamePerpetual", fn := fun _ => fun
  | [d1, d2] => { results := [.lit (.bool false)], args := [d1, d2] }
  | _ => none }
def FnExactSamePerpetualWrongFalsely : Prop := fnExactSamePerpetualRow.holds Try.pinned (OpenSpec.ofChange fnExactSamePerpetualWrong)

/-- 'laws.FnExactValidPerpetual': WHATEVER THE INPUT: true; the input reads as it did. -/
def fnExactValidPerpetualSpec : ChangeSpec := { name := "fnExactValidPerpetual", fn := fun _ => fun
  | [d] => { results := [.lit (.bool true)], args := [d] }
  | _ => none }
def fnExactValidPerpetualRow : OpenClaim := { program := "ytcppmocninhdpaa", sum := "f558ed98de81a4d41ace6ca6b31d41ed848553a0639a48880054ac2296cd61fa", func := "loop.example/g00921/laws.FnExactValidPerpetual", spec := "fnExactValidPerpetual", apart := false }
def FnExactValidPerpetualSaid : Prop := fnExactValidPerpetualRow.holds Try.pinned (OpenSpec.ofChange fnExactValidPerpetualSpec)

/-- ITS FALSE NEIGHBOUR: 'it returns false'. Refute it at one input. -/
def fnExactValidPerpetualWrong : ChangeSpec := { name := "fnExactValidPerpetual", fn := fun _ => fun
  | [d] => { results := [.lit (.bool false)], args := [d] }
  | _ => none }
def FnExactValidPerpetualWrongFalsely : Prop := fnExactValidPerpetualRow.holds Try.pinned (OpenSpec.ofChange fnExactValidPerpetualWrong)

/-- 'laws.FnExactShowsDate': WHATEVER THE INPUT: true; the input reads as it did. -/
def fnExactShowsDateSpec : ChangeSpec := { name := "fnExactShowsDate", fn := fun _ => fun
  | [d1, d2] => { results := [.lit (.bool true)], args := [d1, d2] }
  | _ => none }
def fnExactShowsDateRow : OpenClaim := { program := "ytcppmocninhdpaa", sum := "f558ed98de81a4d41ace6ca6b31d41ed848553a0639a48880054ac2296cd61fa", func := "loop.example/g00921/laws.FnExactShowsDate", spec := "fnExactShowsDate", apart := false }
def FnExactShowsDateSaid : Prop := fnExactShowsDateRow.holds Try.pinned (OpenSpec.ofChange fnExactShowsDateSpec)

/-- ITS FALSE NEIGHBOUR: 'it returns false'. Refute it at one input. -/
def fnExactShowsDateWrong : ChangeSpec := { name := "fnExactShowsDate", fn := fun _ => fun
  | [d1, d2] => { results := [.lit (.bool false)], args := [d1, d2] }
  | _ => none }
def FnExactShowsDateWrongFalsely : Prop := fnExactShowsDateRow.holds Try.pinned (OpenSpec.ofChange fnExactShowsDateWrong)

/-- 'laws.FnExactMidnightSteps': WHATEVER THE INPUT: true; the input reads as it did. -/
def fnExactMidnightStepsSpec : ChangeSpec := { name := "fnExactMidnightSteps", fn := fun _ => fun
  | [d] => { results := [.lit (.bool true)], args := [d] }
  | _ => none }
def fnExactMidnightStepsRow : OpenClaim := { program := "ytcppmocninhdpaa", sum := "f558ed98de81a4d41ace6ca6b31d41ed848553a0639a48880054ac2296cd61fa", func := "loop.example/g00921/laws.FnExactMidnightSteps", spec := "fnExactMidnightSteps", apart := false }
def FnExactMidnightStepsSaid : Prop := fnExactMidnightStepsRow.holds Try.pinned (OpenSpec.ofChange fnExactMidnightStepsSpec)

/-- ITS FALSE NEIGHBOUR: 'it returns false'. Refute it at one input. -/
def fnExactMidnightStepsWrong : ChangeSpec := { name := "fnExactMidnightSteps", fn := fun _ => fun
  | [d] => { results := [.lit (.bool false)], args := [d] }
  | _ => none }
def FnExactMidnightStepsWrongFalsely : Prop := fnExactMidnightStepsRow.holds Try.pinned (OpenSpec.ofChange fnExactMidnightStepsWrong)

/-- 'laws.FnExactPushMonth': WHATEVER THE INPUT: true; the input reads as it did. -/
def fnExactPushMonthSpec : ChangeSpec := { name := "fnExactPushMonth", fn := fun _ => fun
  | [d] => { results := [.lit (.bool true)], args := [d] }
  | _ => none }
def fnExactPushMonthRow : OpenClaim := { program := "ytcppmocninhdpaa", sum := "f558ed98de81a4d41ace6ca6b31d41ed848553a0639a48880054ac2296cd61fa", func := "loop.example/g00921/laws.FnExactPushMonth", spec := "fnExactPushMonth", apart := false }
def FnExactPushMonthSaid : Prop := fnExactPushMonthRow.holds Try.pinned (OpenSpec.ofChange fnExactPushMonthSpec)

/-- ITS FALSE NEIGHBOUR: 'it returns false'. Refute it at one input. -/
def fnExactPushMonthWrong : ChangeSpec := { name := "fnExactPushMonth", fn := fun _ => fun
  | [d] => { results := [.lit (.bool false)], args := [d] }
  | _ => none }
def FnExactPushMonthWrongFalsely : Prop := fnExactPushMonthRow.holds Try.pinned (OpenSpec.ofChange fnExactPushMonthWrong)

/-- 'laws.FnExactPushWeekday': WHATEVER THE INPUT: true; the input reads as it did. -/
def fnExactPushWeekdaySpec : ChangeSpec := { name := "fnExactPushWeekday", fn := fun _ => fun
  | [d] => { results := [.lit (.bool true)], args := [d] }
  | _ => none }
def fnExactPushWeekdayRow : OpenClaim := { program := "ytcppmocninhdpaa", sum := "f558ed98de81a4d41ace6ca6b31d41ed848553a0639a48880054ac2296cd61fa", func := "loop.example/g00921/laws.FnExactPushWeekday", spec := "fnExactPushWeekday", apart := false }
def FnExactPushWeekdaySaid : Prop := fnExactPushWeekdayRow.holds Try.pinned (OpenSpec.ofChange fnExactPushWeekdaySpec)

/-- ITS FALSE NEIGHBOUR: 'it returns false'. Refute it at one input. -/
def fnExactPushWeekdayWrong : ChangeSpec := { name := "fnExactPushWeekday", fn := fun _ => fun
  | [d] => { results := [.lit (.bool false)], args := [d] }
  | _ => none }
def FnExactPushWeekdayWrongFalsely : Prop := fnExactPushWeekdayRow.holds Try.pinned (OpenSpec.ofChange fnExactPushWeekdayWrong)

/-- 'laws.FnExactPushDate': WHATEVER THE INPUT: true; the input reads as it did. -/
def fnExactPushDateSpec : ChangeSpec := { name := "fnExactPushDate", fn := fun _ => fun
  | [d] => { results := [.lit (.bool true)], args := [d] }
  | _ => none }
def fnExactPushDateRow : OpenClaim := { program := "ytcppmocninhdpaa", sum := "f558ed98de81a4d41ace6ca6b31d41ed848553a0639a48880054ac2296cd61fa", func := "loop.example/g00921/laws.FnExactPushDate", spec := "fnExactPushDate", apart := false }
def FnExactPushDateSaid : Prop := fnExactPushDateRow.holds Try.pinned (OpenSpec.ofChange fnExactPushDateSpec)

/-- ITS FALSE NEIGHBOUR: 'it returns false'. Refute it at one input. -/
def fnExactPushDateWrong : ChangeSpec := { name := "fnExactPushDate", fn := fun _ => fun
  | [d] => { results := [.lit (.bool false)], args := [d] }
  | _ => none }
def FnExactPushDateWrongFalsely : Prop := fnExactPushDateRow.holds Try.pinned (OpenSpec.ofChange fnExactPushDateWrong)

/-- 'laws.FnExactNightsUntil': WHATEVER THE INPUT: true; the input reads as it did. -/
def fnExactNightsUntilSpec : ChangeSpec := { name := "fnExactNightsUntil", fn := fun _ => fun
  | [d1, d2, d3] => { results := [.lit (.bool true)], args := [d1, d2, d3] }
  | _ => none }
def fnExactNightsUntilRow : OpenClaim := { program := "ytcppmocninhdpaa", sum := "f558ed98de81a4d41ace6ca6b31d41ed848553a0639a48880054ac2296cd61fa", func := "loop.example/g00921/laws.FnExactNightsUntil", spec := "fnExactNightsUntil", apart := false }
def FnExactNightsUntilSaid : Prop := fnExactNightsUntilRow.holds Try.pinned (OpenSpec.ofChange fnExactNightsUntilSpec)

/-- ITS FALSE NEIGHBOUR: 'it returns false'. Refute it at one input. -/
def fnExactNightsUntilWrong : ChangeSpec := { name := "fnExactNightsUntil", fn := fun _ => fun
  | [d1, d2, d3] => { results := [.lit (.bool false)], args := [d1, d2, d3] }
  | _ => none }
def FnExactNightsUntilWrongFalsely : Prop := fnExactNightsUntilRow.holds Try.pinned (OpenSpec.ofChange fnExactNightsUntilWrong)

/-- 'laws.FnExactStepPerpetual': WHATEVER THE INPUT: true; the input reads as it did. -/
def fnExactStepPerpetualSpec : ChangeSpec := { name := "fnExactStepPerpetual", fn := fun _ => fun
  | [d] => { results := [.lit (.bool true)], args := [d] }
  | _ => none }
def fnExactStepPerpetualRow : OpenClaim := { program := "ytcppmocninhdpaa", sum := "f558ed98de81a4d41ace6ca6b31d41ed848553a0639a48880054ac2296cd61fa", func := "loop.example/g00921/laws.FnExactStepPerpetual", spec := "fnExactStepPerpetual", apart := false }
def FnExactStepPerpetualSaid : Prop := fnExactStepPerpetualRow.holds Try.pinned (OpenSpec.ofChange fnExactStepPerpetualSpec)

/-- ITS FALSE NEIGHBOUR: 'it returns false'. Refute it at one input. -/
def fnExactStepPerpetualWrong : ChangeSpec := { name := "fnExactStepPerpetual", fn := fun _ => fun
  | [d] => { results := [.lit (.bool false)], args := [d] }
  | _ => none }
def FnExactStepPerpetualWrongFalsely : Prop := fnExactStepPerpetualRow.holds Try.pinned (OpenSpec.ofChange fnExactStepPerpetualWrong)

/-- 'laws.FnExactRunPerpetual': WHATEVER THE INPUT: true; the input reads as it did. -/
def fnExactRunPerpetualSpec : ChangeSpec := { name := "fnExactRunPerpetual", fn := fun _ => fun
  | [d1, d2] => { results := [.lit (.bool true)], args := [d1, d2] }
  | _ => none }
def fnExactRunPerpetualRow : OpenClaim := { program := "ytcppmocninhdpaa", sum := "f558ed98de81a4d41ace6ca6b31d41ed848553a0639a48880054ac2296cd61fa", func := "loop.example/g00921/laws.FnExactRunPerpetual", spec := "fnExactRunPerpetual", apart := false }
def FnExactRunPerpetualSaid : Prop := fnExactRunPerpetualRow.holds Try.pinned (OpenSpec.ofChange fnExactRunPerpetualSpec)

/-- ITS FALSE NEIGHBOUR: 'it returns false'. Refute it at one input. -/
def fnExactRunPerpetualWrong : ChangeSpec := { name := "fnExactRunPerpetual", fn := fun _ => fun
  | [d1, d2] => { results := [.lit (.bool false)], args := [d1, d2] }
  | _ => none }
def FnExactRunPerpetualWrongFalsely : Prop := fnExactRunPerpetualRow.holds Try.pinned (OpenSpec.ofChange fnExactRunPerpetualWrong)

/-- 'laws.FnExactCamLevels': WHATEVER THE INPUT: true; the input reads as it did. -/
def fnExactCamLevelsSpec : ChangeSpec := { name := "fnExactCamLevels", fn := fun _ => fun
  | [d] => { results := [.lit (.bool true)], args := [d] }
  | _ => none }
def fnExactCamLevelsRow : OpenClaim := { program := "ytcppmocninhdpaa", sum := "f558ed98de81a4d41ace6ca6b31d41ed848553a0639a48880054ac2296cd61fa", func := "loop.example/g00921/laws.FnExactCamLevels", spec := "fnExactCamLevels", recurses := true, apart := false }
def FnExactCamLevelsSaid : Prop := fnExactCamLevelsRow.holds Try.pinned (OpenSpec.ofChange fnExactCamLevelsSpec)

/-- ITS FALSE NEIGHBOUR: 'it returns false'. Refute it at one input. -/
def fnExactCamLevelsWrong : ChangeSpec := { name := "fnExactCamLevels", fn := fun _ => fun
  | [d] => { results := [.lit (.bool false)], args := [d] }
  | _ => none }
def FnExactCamLevelsWrongFalsely : Prop := fnExactCamLevelsRow.holds Try.pinned (OpenSpec.ofChange fnExactCamLevelsWrong)

/- THE SECOND FORM. 'bulk': how many values and letters a reading holds, each counted each time it is reached (what is shared counts as often as it is met; a slice's spare places count too). A statement '..UptoSaid' is the law's where the arguments, and the package variables that the reading takes, are together of bulk at most 1048576: NARROWER than '..Said'. Prove '..Said' where nothing that the law and all that it calls make is longer than what came in: it says more and counts as full. Else prove '..UptoSaid'. A law counts once. -/
mutual
def uptoBulk {H : Type} : DataW H → Nat
  | .lit (.string bytes) => bytes.length + 1
  | .lit _ => 1
  | .nil => 1
  | .ptr d => uptoBulk d + 1
  | .slice elems spare => uptoBulkAll elems + uptoBulkAll spare + 1
  | .agg parts => uptoBulkAll parts + 1
  | .iface _ d => uptoBulk d + 1
  | .map entries => uptoBulkEntries entries + 1
  | .held _ => 1
def uptoBulkAll {H : Type} : List (DataW H) → Nat
  | [] => 0
  | d :: r => uptoBulk d + uptoBulkAll r
def uptoBulkEntries {H : Type} : List (Lit × DataW H) → Nat
  | [] => 0
  | x :: r => uptoBulkEntry x + uptoBulkEntries r
def uptoBulkEntry {H : Type} : Lit × DataW H → Nat
  | (.string bytes, d) => bytes.length + uptoBulk d + 1
  | (_, d) => uptoBulk d + 1
 end
def uptoSmall : (H : Type) → List (DataW H) → Bool := fun _ ds => decide (uptoBulkAll ds ≤ 1048576)
def OpenSpec.upto (s : _root_.Go.ChangeSpec) : _root_.Go.OpenSpec := { _root_.Go.OpenSpec.ofChange s with cond := some uptoSmall }

/-- 'laws.FnExactSamePerpetual', WHERE WHAT IT READS IS OF BULK AT MOST 1048576: true; the input reads as it did. -/
def fnExactSamePerpetualUptoRow : OpenClaim := { program := "ytcppmocninhdpaa", sum := "f558ed98de81a4d41ace6ca6b31d41ed848553a0639a48880054ac2296cd61fa", func := "loop.example/g00921/laws.FnExactSamePerpetual", spec := "fnExactSamePerpetual", apart := false, narrowed := true }
def FnExactSamePerpetualUptoSaid : Prop := fnExactSamePerpetualUptoRow.holds Try.pinned (OpenSpec.upto fnExactSamePerpetualSpec)

/-- 'laws.FnExactValidPerpetual', WHERE WHAT IT READS IS OF BULK AT MOST 1048576: true; the input reads as it did. -/
def fnExactValidPerpetualUptoRow : OpenClaim := { program := "ytcppmocninhdpaa", sum := "f558ed98de81a4d41ace6ca6b31d41ed848553a0639a48880054ac2296cd61fa", func := "loop.example/g00921/laws.FnExactValidPerpetual", spec := "fnExactValidPerpetual", apart := false, narrowed := true }
def FnExactValidPerpetualUptoSaid : Prop := fnExactValidPerpetualUptoRow.holds Try.pinned (OpenSpec.upto fnExactValidPerpetualSpec)

/-- 'laws.FnExactShowsDate', WHERE WHAT IT READS IS OF BULK AT MOST 1048576: true; the input reads as it did. -/
def fnExactShowsDateUptoRow : OpenClaim := { program := "ytcppmocninhdpaa", sum := "f558ed98de81a4d41ace6ca6b31d41ed848553a0639a48880054ac2296cd61fa", func := "loop.example/g00921/laws.FnExactShowsDate", spec := "fnExactShowsDate", apart := false, narrowed := true }
def FnExactShowsDateUptoSaid : Prop := fnExactShowsDateUptoRow.holds Try.pinned (OpenSpec.upto fnExactShowsDateSpec)

/-- 'laws.FnExactMidnightSteps', WHERE WHAT IT READS IS OF BULK AT MOST 1048576: true; the input reads as it did. -/
def fnExactMidnightStepsUptoRow : OpenClaim := { program := "ytcppmocninhdpaa", sum := "f558ed98de81a4d41ace6ca6b31d41ed848553a0639a48880054ac2296cd61fa", func := "loop.example/g00921/laws.FnExactMidnightSteps", spec := "fnExactMidnightSteps", apart := false, narrowed := true }
def FnExactMidnightStepsUptoSaid : Prop := fnExactMidnightStepsUptoRow.holds Try.pinned (OpenSpec.upto fnExactMidnightStepsSpec)

/-- 'laws.FnExactPushMonth', WHERE WHAT IT READS IS OF BULK AT MOST 1048576: true; the input reads as it did. -/
def fnExactPushMonthUptoRow : OpenClaim := { program := "ytcppmocninhdpaa", sum := "f558ed98de81a4d41ace6ca6b31d41ed848553a0639a48880054ac2296cd61fa", func := "loop.example/g00921/laws.FnExactPushMonth", spec := "fnExactPushMonth", apart := false, narrowed := true }
def FnExactPushMonthUptoSaid : Prop := fnExactPushMonthUptoRow.holds Try.pinned (OpenSpec.upto fnExactPushMonthSpec)

/-- 'laws.FnExactPushWeekday', WHERE WHAT IT READS IS OF BULK AT MOST 1048576: true; the input reads as it did. -/
def fnExactPushWeekdayUptoRow : OpenClaim := { program := "ytcppmocninhdpaa", sum := "f558ed98de81a4d41ace6ca6b31d41ed848553a0639a48880054ac2296cd61fa", func := "loop.example/g00921/laws.FnExactPushWeekday", spec := "fnExactPushWeekday", apart := false, narrowed := true }
def FnExactPushWeekdayUptoSaid : Prop := fnExactPushWeekdayUptoRow.holds Try.pinned (OpenSpec.upto fnExactPushWeekdaySpec)

/-- 'laws.FnExactPushDate', WHERE WHAT IT READS IS OF BULK AT MOST 1048576: true; the input reads as it did. -/
def fnExactPushDateUptoRow : OpenClaim := { program := "ytcppmocninhdpaa", sum := "f558ed98de81a4d41ace6ca6b31d41ed848553a0639a48880054ac2296cd61fa", func := "loop.example/g00921/laws.FnExactPushDate", spec := "fnExactPushDate", apart := false, narrowed := true }
def FnExactPushDateUptoSaid : Prop := fnExactPushDateUptoRow.holds Try.pinned (OpenSpec.upto fnExactPushDateSpec)

/-- 'laws.FnExactNightsUntil', WHERE WHAT IT READS IS OF BULK AT MOST 1048576: true; the input reads as it did. -/
def fnExactNightsUntilUptoRow : OpenClaim := { program := "ytcppmocninhdpaa", sum := "f558ed98de81a4d41ace6ca6b31d41ed848553a0639a48880054ac2296cd61fa", func := "loop.example/g00921/laws.FnExactNightsUntil", spec := "fnExactNightsUntil", apart := false, narrowed := true }
def FnExactNightsUntilUptoSaid : Prop := fnExactNightsUntilUptoRow.holds Try.pinned (OpenSpec.upto fnExactNightsUntilSpec)

/-- 'laws.FnExactStepPerpetual', WHERE WHAT IT READS IS OF BULK AT MOST 1048576: true; the input reads as it did. -/
def fnExactStepPerpetualUptoRow : OpenClaim := { program := "ytcppmocninhdpaa", sum := "f558ed98de81a4d41ace6ca6b31d41ed848553a0639a48880054ac2296cd61fa", func := "loop.example/g00921/laws.FnExactStepPerpetual", spec := "fnExactStepPerpetual", apart := false, narrowed := true }
def FnExactStepPerpetualUptoSaid : Prop := fnExactStepPerpetualUptoRow.holds Try.pinned (OpenSpec.upto fnExactStepPerpetualSpec)

/-- 'laws.FnExactRunPerpetual', WHERE WHAT IT READS IS OF BULK AT MOST 1048576: true; the input reads as it did. -/
def fnExactRunPerpetualUptoRow : OpenClaim := { program := "ytcppmocninhdpaa", sum := "f558ed98de81a4d41ace6ca6b31d41ed848553a0639a48880054ac2296cd61fa", func := "loop.example/g00921/laws.FnExactRunPerpetual", spec := "fnExactRunPerpetual", apart := false, narrowed := true }
def FnExactRunPerpetualUptoSaid : Prop := fnExactRunPerpetualUptoRow.holds Try.pinned (OpenSpec.upto fnExactRunPerpetualSpec)

/-- 'laws.FnExactCamLevels', WHERE WHAT IT READS IS OF BULK AT MOST 1048576: true; the input reads as it did. -/
def fnExactCamLevelsUptoRow : OpenClaim := { program := "ytcppmocninhdpaa", sum := "f558ed98de81a4d41ace6ca6b31d41ed848553a0639a48880054ac2296cd61fa", func := "loop.example/g00921/laws.FnExactCamLevels", spec := "fnExactCamLevels", recurses := true, apart := false, narrowed := true }
def FnExactCamLevelsUptoSaid : Prop := fnExactCamLevelsUptoRow.holds Try.pinned (OpenSpec.upto fnExactCamLevelsSpec)

end Rows
end Go.Proofs.Ytcppmocninhdpaa
