/-
  No cell of these rows narrows 'for every input' (looked for: loops, veiled, ifaces, maps, wideKeys, modest, calm, conditions, laid).
  DERIVED. THE GIVEN ROWS OF THIS SEAT. 11 by the template 'for every input the law returns true; each argument reads behind the call as it read before'; 0 by the template 'total and deterministic' (their statements: YtfgilbkhhjhfmaaTotals.lean).
  GIVEN WITH THE SEED: the statements are not yours to turn. If you find one false, say at which input.
  Laid BY PROGRAM, IN A SANDBOX (cutbox-rows.mjs): the forced cells as the released guide's own fill.sh prints them over the translation 8b765059f332c475… (all of the seat's roots in one cut). By AI agents, Wed Nov 11 2026. No macro, syntax, notation, axiom, sorry.
-/
import Derived.Test.YtfgilbkhhjhfmaaChecked
import GoSem.Claim
import GoSem.ClaimJoined
import GoSem.ClaimMapViews
import Derived.JoinedTies
import Derived.KernelRfl
namespace Go.Proofs.Ytfgilbkhhjhfmaa
/- THE CELL 'sum', in the pinned program and in every row, IS THE sha256 OF THE DUMP (.gsa) THAT YtfgilbkhhjhfmaaProg.lean LOADS. Nothing in Lean hashes anything: it is a label: what it is worth is what the hold of that sum in a sandbox is worth. -/
noncomputable def Try.pinned : Pinned := { name := "ytfgilbkhhjhfmaa", sum := "8b765059f332c475ad8f1175abc50199fb271fbd2033871f92915b95c480e4aa", checked := Try.checked }
namespace Rows
def none {H : Type} : Left H := { results := [], args := [] }

/-- 'laws.FnExactHourWheel': WHATEVER THE INPUT: true; the input reads as it did. -/
def fnExactHourWheelSpec : ChangeSpec := { name := "fnExactHourWheel", fn := fun _ => fun
  | [d] => { results := [.lit (.bool true)], args := [d] }
  | _ => none }
def fnExactHourWheelRow : OpenClaim := { program := "ytfgilbkhhjhfmaa", sum := "8b765059f332c475ad8f1175abc50199fb271fbd2033871f92915b95c480e4aa", func := "loop.example/g00921/laws.FnExactHourWheel", spec := "fnExactHourWheel", apart := false }
def FnExactHourWheelSaid : Prop := fnExactHourWheelRow.holds Try.pinned (OpenSpec.ofChange fnExactHourWheelSpec)

/-- ITS FALSE NEIGHBOUR: 'it returns false'. Refute it at one input. -/
def fnExactHourWheelWrong : ChangeSpec := { name := "fnExactHourWheel", fn := fun _ => fun
  | [d] => { results := [.lit (.bool false)], args := [d] }
  | _ => none }
def FnExactHourWheelWrongFalsely : Prop := fnExactHourWheelRow.holds Try.pinned (OpenSpec.ofChange fnExactHourWheelWrong)

/-- 'laws.FnExactValidCountWheel': WHATEVER THE INPUT: true; the input reads as it did. -/
def fnExactValidCountWheelSpec : ChangeSpec := { name := "fnExactValidCountWheel", fn := fun _ => fun
  | [d] => { results := [.lit (.bool true)], args := [d] }
  | _ => none }
def fnExactValidCountWheelRow : OpenClaim := { program := "ytfgilbkhhjhfmaa", sum := "8b765059f332c475ad8f1175abc50199fb271fbd2033871f92915b95c480e4aa", func := "loop.example/g00921/laws.FnExactValidCountWheel", spec := "fnExactValidCountWheel", apart := false }
def FnExactValidCountWheelSaid : Prop := fnExactValidCountWheelRow.holds Try.pinned (OpenSpec.ofChange fnExactValidCountWheelSpec)

/-- ITS FALSE NEIGHBOUR: 'it returns false'. Refute it at one input. -/
def fnExactValidCountWheelWrong : ChangeSpec := { name := "fnExactValidCountWheel", fn := fun _ => fun
  | [d] => { results := [.lit (.bool false)], args := [d] }
  | _ => none }
def FnExactValidCountWheelWrongFalsely : Prop := fnExactValidCountWheelRow.holds Try.pinned (OpenSpec.ofChange fnExactValidCountWheelWrong)

/-- 'laws.FnExactStrikeOnce': WHATEVER THE INPUT: true; the input reads as it did. -/
def fnExactStrikeOnceSpec : ChangeSpec := { name := "fnExactStrikeOnce", fn := fun _ => fun
  | [d1, d2] => { results := [.lit (.bool true)], args := [d1, d2] }
  | _ => none }
def fnExactStrikeOnceRow : OpenClaim := { program := "ytfgilbkhhjhfmaa", sum := "8b765059f332c475ad8f1175abc50199fb271fbd2033871f92915b95c480e4aa", func := "loop.example/g00921/laws.FnExactStrikeOnce", spec := "fnExactStrikeOnce", apart := false }
def FnExactStrikeOnceSaid : Prop := fnExactStrikeOnceRow.holds Try.pinned (OpenSpec.ofChange fnExactStrikeOnceSpec)

/-- ITS FALSE NEIGHBOUR: 'it returns false'. Refute it at one input. -/
def fnExactStrikeOnceWrong : ChangeSpec := { name := "fnExactStrikeOnce", fn := fun _ => fun
  | [d1, d2] => { results := [.lit (.bool false)], args := [d1, d2] }
  | _ => none }
def FnExactStrikeOnceWrongFalsely : Prop := fnExactStrikeOnceRow.holds Try.pinned (OpenSpec.ofChange fnExactStrikeOnceWrong)

/-- 'laws.FnExactTotalBlows': WHATEVER THE INPUT: true; the input reads as it did. -/
def fnExactTotalBlowsSpec : ChangeSpec := { name := "fnExactTotalBlows", fn := fun _ => fun
  | [d] => { results := [.lit (.bool true)], args := [d] }
  | _ => none }
def fnExactTotalBlowsRow : OpenClaim := { program := "ytfgilbkhhjhfmaa", sum := "8b765059f332c475ad8f1175abc50199fb271fbd2033871f92915b95c480e4aa", func := "loop.example/g00921/laws.FnExactTotalBlows", spec := "fnExactTotalBlows", apart := false }
def FnExactTotalBlowsSaid : Prop := fnExactTotalBlowsRow.holds Try.pinned (OpenSpec.ofChange fnExactTotalBlowsSpec)

/-- ITS FALSE NEIGHBOUR: 'it returns false'. Refute it at one input. -/
def fnExactTotalBlowsWrong : ChangeSpec := { name := "fnExactTotalBlows", fn := fun _ => fun
  | [d] => { results := [.lit (.bool false)], args := [d] }
  | _ => none }
def FnExactTotalBlowsWrongFalsely : Prop := fnExactTotalBlowsRow.holds Try.pinned (OpenSpec.ofChange fnExactTotalBlowsWrong)

/-- 'laws.FnExactLiftsUntil': WHATEVER THE INPUT: true; the input reads as it did. -/
def fnExactLiftsUntilSpec : ChangeSpec := { name := "fnExactLiftsUntil", fn := fun _ => fun
  | [d1, d2, d3] => { results := [.lit (.bool true)], args := [d1, d2, d3] }
  | _ => none }
def fnExactLiftsUntilRow : OpenClaim := { program := "ytfgilbkhhjhfmaa", sum := "8b765059f332c475ad8f1175abc50199fb271fbd2033871f92915b95c480e4aa", func := "loop.example/g00921/laws.FnExactLiftsUntil", spec := "fnExactLiftsUntil", apart := false }
def FnExactLiftsUntilSaid : Prop := fnExactLiftsUntilRow.holds Try.pinned (OpenSpec.ofChange fnExactLiftsUntilSpec)

/-- ITS FALSE NEIGHBOUR: 'it returns false'. Refute it at one input. -/
def fnExactLiftsUntilWrong : ChangeSpec := { name := "fnExactLiftsUntil", fn := fun _ => fun
  | [d1, d2, d3] => { results := [.lit (.bool false)], args := [d1, d2, d3] }
  | _ => none }
def FnExactLiftsUntilWrongFalsely : Prop := fnExactLiftsUntilRow.holds Try.pinned (OpenSpec.ofChange fnExactLiftsUntilWrong)

/-- 'laws.FnExactNotchesOf': WHATEVER THE INPUT: true; the input reads as it did. -/
def fnExactNotchesOfSpec : ChangeSpec := { name := "fnExactNotchesOf", fn := fun _ => fun
  | [d] => { results := [.lit (.bool true)], args := [d] }
  | _ => none }
def fnExactNotchesOfRow : OpenClaim := { program := "ytfgilbkhhjhfmaa", sum := "8b765059f332c475ad8f1175abc50199fb271fbd2033871f92915b95c480e4aa", func := "loop.example/g00921/laws.FnExactNotchesOf", spec := "fnExactNotchesOf", apart := false }
def FnExactNotchesOfSaid : Prop := fnExactNotchesOfRow.holds Try.pinned (OpenSpec.ofChange fnExactNotchesOfSpec)

/-- ITS FALSE NEIGHBOUR: 'it returns false'. Refute it at one input. -/
def fnExactNotchesOfWrong : ChangeSpec := { name := "fnExactNotchesOf", fn := fun _ => fun
  | [d] => { results := [.lit (.bool false)], args := [d] }
  | _ => none }
def FnExactNotchesOfWrongFalsely : Prop := fnExactNotchesOfRow.holds Try.pinned (OpenSpec.ofChange fnExactNotchesOfWrong)

/-- 'laws.FnExactStrikeMany': WHATEVER THE INPUT: true; the input reads as it did. -/
def fnExactStrikeManySpec : ChangeSpec := { name := "fnExactStrikeMany", fn := fun _ => fun
  | [d1, d2, d3] => { results := [.lit (.bool true)], args := [d1, d2, d3] }
  | _ => none }
def fnExactStrikeManyRow : OpenClaim := { program := "ytfgilbkhhjhfmaa", sum := "8b765059f332c475ad8f1175abc50199fb271fbd2033871f92915b95c480e4aa", func := "loop.example/g00921/laws.FnExactStrikeMany", spec := "fnExactStrikeMany", apart := false }
def FnExactStrikeManySaid : Prop := fnExactStrikeManyRow.holds Try.pinned (OpenSpec.ofChange fnExactStrikeManySpec)

/-- ITS FALSE NEIGHBOUR: 'it returns false'. Refute it at one input. -/
def fnExactStrikeManyWrong : ChangeSpec := { name := "fnExactStrikeMany", fn := fun _ => fun
  | [d1, d2, d3] => { results := [.lit (.bool false)], args := [d1, d2, d3] }
  | _ => none }
def FnExactStrikeManyWrongFalsely : Prop := fnExactStrikeManyRow.holds Try.pinned (OpenSpec.ofChange fnExactStrikeManyWrong)

/-- 'laws.FnExactWrongStrikes': WHATEVER THE INPUT: true; the input reads as it did. -/
def fnExactWrongStrikesSpec : ChangeSpec := { name := "fnExactWrongStrikes", fn := fun _ => fun
  | [d1, d2, d3] => { results := [.lit (.bool true)], args := [d1, d2, d3] }
  | _ => none }
def fnExactWrongStrikesRow : OpenClaim := { program := "ytfgilbkhhjhfmaa", sum := "8b765059f332c475ad8f1175abc50199fb271fbd2033871f92915b95c480e4aa", func := "loop.example/g00921/laws.FnExactWrongStrikes", spec := "fnExactWrongStrikes", apart := false }
def FnExactWrongStrikesSaid : Prop := fnExactWrongStrikesRow.holds Try.pinned (OpenSpec.ofChange fnExactWrongStrikesSpec)

/-- ITS FALSE NEIGHBOUR: 'it returns false'. Refute it at one input. -/
def fnExactWrongStrikesWrong : ChangeSpec := { name := "fnExactWrongStrikes", fn := fun _ => fun
  | [d1, d2, d3] => { results := [.lit (.bool false)], args := [d1, d2, d3] }
  | _ => none }
def FnExactWrongStrikesWrongFalsely : Prop := fnExactWrongStrikesRow.holds Try.pinned (OpenSpec.ofChange fnExactWrongStrikesWrong)

/-- 'laws.FnExactSameCycle': WHATEVER THE INPUT: true; the input reads as it did. -/
def fnExactSameCycleSpec : ChangeSpec := { name := "fnExactSameCycle", fn := fun _ => fun
  | [d1, d2] => { results := [.lit (.bool true)], args := [d1, d2] }
  | _ => none }
def fnExactSameCycleRow : OpenClaim := { program := "ytfgilbkhhjhfmaa", sum := "8b765059f332c475ad8f1175abc50199fb271fbd2033871f92915b95c480e4aa", func := "loop.example/g00921/laws.FnExactSameCycle", spec := "fnExactSameCycle", apart := false }
def FnExactSameCycleSaid : Prop := fnExactSameCycleRow.holds Try.pinned (OpenSpec.ofChange fnExactSameCycleSpec)

/-- ITS FALSE NEIGHBOUR: 'it returns false'. Refute it at one input. -/
def fnExactSameCycleWrong : ChangeSpec := { name := "fnExactSameCycle", fn := fun _ => fun
  | [d1, d2] => { results := [.lit (.bool false)], args := [d1, d2] }
  | _ => none }
def FnExactSameCycleWrongFalsely : Prop := fnExactSameCycleRow.holds Try.pinned (OpenSpec.ofChange fnExactSameCycleWrong)

/-- 'laws.FnExactNotchAt': WHATEVER THE INPUT: true; the input reads as it did. -/
def fnExactNotchAtSpec : ChangeSpec := { name := "fnExactNotchAt", fn := fun _ => fun
  | [d1, d2] => { results := [.lit (.bool true)], args := [d1, d2] }
  | _ => none }
def fnExactNotchAtRow : OpenClaim := { program := "ytfgilbkhhjhfmaa", sum := "8b765059f332c475ad8f1175abc50199fb271fbd2033871f92915b95c480e4aa", func := "loop.example/g00921/laws.FnExactNotchAt", spec := "fnExactNotchAt", apart := false }
def FnExactNotchAtSaid : Prop := fnExactNotchAtRow.holds Try.pinned (OpenSpec.ofChange fnExactNotchAtSpec)

/-- ITS FALSE NEIGHBOUR: 'it returns false'. Refute it at one input. -/
def fnExactNotchAtWrong : ChangeSpec := { name := "fnExactNotchAt", fn := fun _ => fun
  | [d1, d2] => { results := [.lit (.bool false)], args := [d1, d2] }
  | _ => none }
def FnExactNotchAtWrongFalsely : Prop := fnExactNotchAtRow.holds Try.pinned (OpenSpec.ofChange fnExactNotchAtWrong)

/-- 'laws.FnExactTurnCountWheel': WHATEVER THE INPUT: true; the input reads as it did. -/
def fnExactTurnCountWheelSpec : ChangeSpec := { name := "fnExactTurnCountWheel", fn := fun _ => fun
  | [d1, d2] => { results := [.lit (.bool true)], args := [d1, d2] }
  | _ => none }
def fnExactTurnCountWheelRow : OpenClaim := { program := "ytfgilbkhhjhfmaa", sum := "8b765059f332c475ad8f1175abc50199fb271fbd2033871f92915b95c480e4aa", func := "loop.example/g00921/laws.FnExactTurnCountWheel", spec := "fnExactTurnCountWheel", apart := false }
def FnExactTurnCountWheelSaid : Prop := fnExactTurnCountWheelRow.holds Try.pinned (OpenSpec.ofChange fnExactTurnCountWheelSpec)

/-- ITS FALSE NEIGHBOUR: 'it returns false'. Refute it at one input. -/
def fnExactTurnCountWheelWrong : ChangeSpec := { name := "fnExactTurnCountWheel", fn := fun _ => fun
  | [d1, d2] => { results := [.lit (.bool false)], args := [d1, d2] }
  | _ => none }
def FnExactTurnCountWheelWrongFalsely : Prop := fnExactTurnCountWheelRow.holds Try.pinned (OpenSpec.ofChange fnExactTurnCountWheelWrong)

/- THE SECOND FORM. 'bulk': how many values and letters a reading holds, each counted each time it is reached (what is shared counts as often as it is met; a slice's spare places count too). A statement '..UptoSaid' is the law's where the arguments, and the package variables that the reading takes, are together of bulk at most 1048576: NARROWER than '..Said'. Prove '..Said' where nothing that the law and all that it calls make is longer than what came in: it says more and counts as full. Else prove '..UptoSaid'. A law counts once. -/
mutual
def uptoBulk {H : Type} : DataW H → Nat
  | .lit (.string bytes) => bytes.length + 1
  | .lit _ => 1
  | .nil => 1
  | .ptr d => uptoBulk d + 1
  | .slice elems spare => uptoBulkAll elems + uptoBulkAll spare + 1
  | .agg parts => uptoBulkAll parts + 1
  | .iface _ d => uptoBulk d + 1
  | .map entries => uptoBulkEntries entries + 1
  | .held _ => 1
def uptoBulkAll {H : Type} : List (DataW H) → Nat
  | [] => 0
  | d :: r => uptoBulk d + uptoBulkAll r
def uptoBulkEntries {H : Type} : List (Lit × DataW H) → Nat
  | [] => 0
  | x :: r => uptoBulkEntry x + uptoBulkEntries r
def uptoBulkEntry {H : Type} : Lit × DataW H → Nat
  | (.string bytes, d) => bytes.length + uptoBulk d + 1
  | (_, d) => uptoBulk d + 1
 end
def uptoSmall : (H : Type) → List (DataW H) → Bool := fun _ ds => decide (uptoBulkAll ds ≤ 1048576)
def OpenSpec.upto (s : _root_.Go.ChangeSpec) : _root_.Go.OpenSpec := { _root_.Go.OpenSpec.ofChange s with cond := some uptoSmall }

/-- 'laws.FnExactHourWheel', WHERE WHAT IT READS IS OF BULK AT MOST 1048576: true; the input reads as it did. -/
def fnExactHourWheelUptoRow : OpenClaim := { program := "ytfgilbkhhjhfmaa", sum := "8b765059f332c475ad8f1175abc50199fb271fbd2033871f92915b95c480e4aa", func := "loop.example/g00921/laws.FnExactHourWheel", spec := "fnExactHourWheel", apart := false, narrowed := true }
def FnExactHourWheelUptoSaid : Prop := fnExactHourWheelUptoRow.holds Try.pinned (OpenSpec.upto fnExactHourWheelSpec)

/-- 'laws.FnExactValidCountWheel', WHERE WHAT IT READS IS OF BULK AT MOST 1048576: true; the input reads as it did. -/
def fnExactValidCountWheelUptoRow : OpenClaim := { program := "ytfgilbkhhjhfmaa", sum := "8b765059f332c475ad8f1175abc50199fb271fbd2033871f92915b95c480e4aa", func := "loop.example/g00921/laws.FnExactValidCountWheel", spec := "fnExactValidCountWheel", apart := false, narrowed := true }
def FnExactValidCountWheelUptoSaid : Prop := fnExactValidCountWheelUptoRow.holds Try.pinned (OpenSpec.upto fnExactValidCountWheelSpec)

/-- 'laws.FnExactStrikeOnce', WHERE WHAT IT READS IS OF BULK AT MOST 1048576: true; the input reads as it did. -/
def fnExactStrikeOnceUptoRow : OpenClaim := { program := "ytfgilbkhhjhfmaa", sum := "8b765059f332c475ad8f1175abc50199fb271fbd2033871f92915b95c480e4aa", func := "loop.example/g00921/laws.FnExactStrikeOnce", spec := "fnExactStrikeOnce", apart := false, narrowed := true }
def FnExactStrikeOnceUptoSaid : Prop := fnExactStrikeOnceUptoRow.holds Try.pinned (OpenSpec.upto fnExactStrikeOnceSpec)

/-- 'laws.FnExactTotalBlows', WHERE WHAT IT READS IS OF BULK AT MOST 1048576: true; the input reads as it did. -/
def fnExactTotalBlowsUptoRow : OpenClaim := { program := "ytfgilbkhhjhfmaa", sum := "8b765059f332c475ad8f1175abc50199fb271fbd2033871f92915b95c480e4aa", func := "loop.example/g00921/laws.FnExactTotalBlows", spec := "fnExactTotalBlows", apart := false, narrowed := true }
def FnExactTotalBlowsUptoSaid : Prop := fnExactTotalBlowsUptoRow.holds Try.pinned (OpenSpec.upto fnExactTotalBlowsSpec)

/-- 'laws.FnExactLiftsUntil', WHERE WHAT IT READS IS OF BULK AT MOST 1048576: true; the input reads as it did. -/
def fnExactLiftsUntilUptoRow : OpenClaim := { program := "ytfgilbkhhjhfmaa", sum := "8b765059f332c475ad8f1175abc50199fb271fbd2033871f92915b95c480e4aa", func := "loop.example/g00921/laws.FnExactLiftsUntil", spec := "fnExactLiftsUntil", apart := false, narrowed := true }
def FnExactLiftsUntilUptoSaid : Prop := fnExactLiftsUntilUptoRow.holds Try.pinned (OpenSpec.upto fnExactLiftsUntilSpec)

/-- 'laws.FnExactNotchesOf', WHERE WHAT IT READS IS OF BULK AT MOST 1048576: true; the input reads as it did. -/
def fnExactNotchesOfUptoRow : OpenClaim := { program := "ytfgilbkhhjhfmaa", sum := "8b765059f332c475ad8f1175abc50199fb271fbd2033871f92915b95c480e4aa", func := "loop.example/g00921/laws.FnExactNotchesOf", spec := "fnExactNotchesOf", apart := false, narrowed := true }
def FnExactNotchesOfUptoSaid : Prop := fnExactNotchesOfUptoRow.holds Try.pinned (OpenSpec.upto fnExactNotchesOfSpec)

/-- 'laws.FnExactStrikeMany', WHERE WHAT IT READS IS OF BULK AT MOST 1048576: true; the input reads as it did. -/
def fnExactStrikeManyUptoRow : OpenClaim := { program := "ytfgilbkhhjhfmaa", sum := "8b765059f332c475ad8f1175abc50199fb271fbd2033871f92915b95c480e4aa", func := "loop.example/g00921/laws.FnExactStrikeMany", spec := "fnExactStrikeMany", apart := false, narrowed := true }
def FnExactStrikeManyUptoSaid : Prop := fnExactStrikeManyUptoRow.holds Try.pinned (OpenSpec.upto fnExactStrikeManySpec)

/-- 'laws.FnExactWrongStrikes', WHERE WHAT IT READS IS OF BULK AT MOST 1048576: true; the input reads as it did. -/
def fnExactWrongStrikesUptoRow : OpenClaim := { program := "ytfgilbkhhjhfmaa", sum := "8b765059f332c475ad8f1175abc50199fb271fbd2033871f92915b95c480e4aa", func := "loop.example/g00921/laws.FnExactWrongStrikes", spec := "fnExactWrongStrikes", apart := false, narrowed := true }
def FnExactWrongStrikesUptoSaid : Prop := fnExactWrongStrikesUptoRow.holds Try.pinned (OpenSpec.upto fnExactWrongStrikesSpec)

/-- 'laws.FnExactSameCycle', WHERE WHAT IT READS IS OF BULK AT MOST 1048576: true; the input reads as it did. -/
def fnExactSameCycleUptoRow : OpenClaim := { program := "ytfgilbkhhjhfmaa", sum := "8b765059f332c475ad8f1175abc50199fb271fbd2033871f92915b95c480e4aa", func := "loop.example/g00921/laws.FnExactSameCycle", spec := "fnExactSameCycle", apart := false, narrowed := true }
def FnExactSameCycleUptoSaid : Prop := fnExactSameCycleUptoRow.holds Try.pinned (OpenSpec.upto fnExactSameCycleSpec)

/-- 'laws.FnExactNotchAt', WHERE WHAT IT READS IS OF BULK AT MOST 1048576: true; the input reads as it did. -/
def fnExactNotchAtUptoRow : OpenClaim := { program := "ytfgilbkhhjhfmaa", sum := "8b765059f332c475ad8f1175abc50199fb271fbd2033871f92915b95c480e4aa", func := "loop.example/g00921/laws.FnExactNotchAt", spec := "fnExactNotchAt", apart := false, narrowed := true }
def FnExactNotchAtUptoSaid : Prop := fnExactNotchAtUptoRow.holds Try.pinned (OpenSpec.upto fnExactNotchAtSpec)

/-- 'laws.FnExactTurnCountWheel', WHERE WHAT IT READS IS OF BULK AT MOST 1048576: true; the input reads as it did. -/
def fnExactTurnCountWheelUptoRow : OpenClaim := { program := "ytfgilbkhhjhfmaa", sum := "8b765059f332c475ad8f1175abc50199fb271fbd2033871f92915b95c480e4aa", func := "loop.example/g00921/laws.FnExactTurnCountWheel", spec := "fnExactTurnCountWheel", apart := false, narrowed := true }
def FnExactTurnCountWheelUptoSaid : Prop := fnExactTurnCountWheelUptoRow.holds Try.pinned (OpenSpec.upto fnExactTurnCountWheelSpec)

end Rows
end Go.Proofs.Ytfgilbkhhjhfmaa
