/-
  No cell of these rows narrows 'for every input' (looked for: loops, veiled, ifaces, maps, wideKeys, modest, calm, conditions, laid).
  DERIVED. THE GIVEN ROWS OF THIS SEAT. 11 by the template 'for every input the law returns true; each argument reads behind the call as it read before'; 0 by the template 'total and deterministic' (their statements: YtanfccdeacohfaaTotals.lean).
  GIVEN WITH THE SEED: the statements are not yours to turn. If you find one false, say at which input.
  Laid BY PROGRAM, IN A SANDBOX (cutbox-rows.mjs): the forced cells as the released guide's own fill.sh prints them over the translation 887b88daaf633b07… (all of the seat's roots in one cut). By AI agents, Wed Nov 11 2026. No macro, syntax, notation, axiom, sorry.
-/
import Derived.Test.YtanfccdeacohfaaChecked
import GoSem.Claim
import GoSem.ClaimJoined
import GoSem.ClaimMapViews
import Derived.JoinedTies
import Derived.KernelRfl
namespace Go.Proofs.Ytanfccdeacohfaa
/- THE CELL 'sum', in the pinned program and in every row, IS THE sha256 OF THE DUMP (.gsa) THAT YtanfccdeacohfaaProg.lean LOADS. Nothing in Lean hashes anything: it is a label: what it is worth is what the hold of that sum in a sandbox is worth. -/
noncomputable def Try.pinned : Pinned := { name := "ytanfccdeacohfaa", sum := "887b88daaf633b07ffa9d6dd9d9cd97ecc1204e4c8382d10f6dfa1549dd0a279", checked := Try.checked }
namespace Rows
def none {H : Type} : Left H := { results := [], args := [] }

/-- 'laws.FnExactValidMoon': WHATEVER THE INPUT: true; the input reads as it did. -/
def fnExactValidMoonSpec : ChangeSpec := { name := "fnExactValidMoon", fn := fun _ => fun
  | [d] => { results := [.lit (.bool true)], args := [d] }
  | _ => none }
def fnExactValidMoonRow : OpenClaim := { program := "ytanfccdeacohfaa", sum := "887b88daaf633b07ffa9d6dd9d9cd97ecc1204e4c8382d10f6dfa1549dd0a279", func := "loop.example/g00921/laws.FnExactValidMoon", spec := "fnExactValidMoon", apart := false }
def FnExactValidMoonSaid : Prop := fnExactValidMoonRow.holds Try.pinned (OpenSpec.ofChange fnExactValidMoonSpec)

/-- ITS FALSE NEIGHBOUR: 'it returns false'. Refute it at one input. -/
def fnExactValidMoonWrong : ChangeSpec := { name := "fnExactValidMoon", fn := fun _ => fun
  | [d] => { results := [.lit (.bool false)], args := [d] }
  | _ => none }
def FnExactValidMoonWrongFalsely : Prop := fnExactValidMoonRow.holds Try.pinned (OpenSpec.ofChange fnExactValidMoonWrong)

/-- 'laws.FnExactEasterOf': WHATEVER THE INPUT: true; the input reads as it did. -/
def fnExactEasterOfSpec : ChangeSpec := { name := "fnExactEasterOf", fn := fun _ => fun
  | [d] => { results := [.lit (.bool true)], args := [d] }
  | _ => none }
def fnExactEasterOfRow : OpenClaim := { program := "ytanfccdeacohfaa", sum := "887b88daaf633b07ffa9d6dd9d9cd97ecc1204e4c8382d10f6dfa1549dd0a279", func := "loop.example/g00921/laws.FnExactEasterOf", spec := "fnExactEasterOf", apart := false }
def FnExactEasterOfSaid : Prop := fnExactEasterOfRow.holds Try.pinned (OpenSpec.ofChange fnExactEasterOfSpec)

/-- ITS FALSE NEIGHBOUR: 'it returns false'. Refute it at one input. -/
def fnExactEasterOfWrong : ChangeSpec := { name := "fnExactEasterOf", fn := fun _ => fun
  | [d] => { results := [.lit (.bool false)], args := [d] }
  | _ => none }
def FnExactEasterOfWrongFalsely : Prop := fnExactEasterOfRow.holds Try.pinned (OpenSpec.ofChange fnExactEasterOfWrong)

/-- 'laws.FnExactNextNewMoon': WHATEVER THE INPUT: true; the input reads as it did. -/
def fnExactNextNewMoonSpec : ChangeSpec := { name := "fnExactNextNewMoon", fn := fun _ => fun
  | [d1, d2] => { results := [.lit (.bool true)], args := [d1, d2] }
  | _ => none }
def fnExactNextNewMoonRow : OpenClaim := { program := "ytanfccdeacohfaa", sum := "887b88daaf633b07ffa9d6dd9d9cd97ecc1204e4c8382d10f6dfa1549dd0a279", func := "loop.example/g00921/laws.FnExactNextNewMoon", spec := "fnExactNextNewMoon", apart := false }
def FnExactNextNewMoonSaid : Prop := fnExactNextNewMoonRow.holds Try.pinned (OpenSpec.ofChange fnExactNextNewMoonSpec)

/-- ITS FALSE NEIGHBOUR: 'it returns false'. Refute it at one input. -/
def fnExactNextNewMoonWrong : ChangeSpec := { name := "fnExactNextNewMoon", fn := fun _ => fun
  | [d1, d2] => { results := [.lit (.bool false)], args := [d1, d2] }
  | _ => none }
def FnExactNextNewMoonWrongFalsely : Prop := fnExactNextNewMoonRow.holds Try.pinned (OpenSpec.ofChange fnExactNextNewMoonWrong)

/-- 'laws.FnExactPhaseOf': WHATEVER THE INPUT: true; the input reads as it did. -/
def fnExactPhaseOfSpec : ChangeSpec := { name := "fnExactPhaseOf", fn := fun _ => fun
  | [d1, d2] => { results := [.lit (.bool true)], args := [d1, d2] }
  | _ => none }
def fnExactPhaseOfRow : OpenClaim := { program := "ytanfccdeacohfaa", sum := "887b88daaf633b07ffa9d6dd9d9cd97ecc1204e4c8382d10f6dfa1549dd0a279", func := "loop.example/g00921/laws.FnExactPhaseOf", spec := "fnExactPhaseOf", apart := false }
def FnExactPhaseOfSaid : Prop := fnExactPhaseOfRow.holds Try.pinned (OpenSpec.ofChange fnExactPhaseOfSpec)

/-- ITS FALSE NEIGHBOUR: 'it returns false'. Refute it at one input. -/
def fnExactPhaseOfWrong : ChangeSpec := { name := "fnExactPhaseOf", fn := fun _ => fun
  | [d1, d2] => { results := [.lit (.bool false)], args := [d1, d2] }
  | _ => none }
def FnExactPhaseOfWrongFalsely : Prop := fnExactPhaseOfRow.holds Try.pinned (OpenSpec.ofChange fnExactPhaseOfWrong)

/-- 'laws.FnEasters': WHATEVER THE INPUT: true; the input reads as it did. -/
def fnEastersSpec : ChangeSpec := { name := "fnEasters", fn := fun _ => fun
  | [d] => { results := [.lit (.bool true)], args := [d] }
  | _ => none }
def fnEastersRow : OpenClaim := { program := "ytanfccdeacohfaa", sum := "887b88daaf633b07ffa9d6dd9d9cd97ecc1204e4c8382d10f6dfa1549dd0a279", func := "loop.example/g00921/laws.FnEasters", spec := "fnEasters", apart := false }
def FnEastersSaid : Prop := fnEastersRow.holds Try.pinned (OpenSpec.ofChange fnEastersSpec)

/-- ITS FALSE NEIGHBOUR: 'it returns false'. Refute it at one input. -/
def fnEastersWrong : ChangeSpec := { name := "fnEasters", fn := fun _ => fun
  | [d] => { results := [.lit (.bool false)], args := [d] }
  | _ => none }
def FnEastersWrongFalsely : Prop := fnEastersRow.holds Try.pinned (OpenSpec.ofChange fnEastersWrong)

/-- 'laws.FnExactNewMoons': WHATEVER THE INPUT: true; the input reads as it did. -/
def fnExactNewMoonsSpec : ChangeSpec := { name := "fnExactNewMoons", fn := fun _ => fun
  | [d1, d2, d3] => { results := [.lit (.bool true)], args := [d1, d2, d3] }
  | _ => none }
def fnExactNewMoonsRow : OpenClaim := { program := "ytanfccdeacohfaa", sum := "887b88daaf633b07ffa9d6dd9d9cd97ecc1204e4c8382d10f6dfa1549dd0a279", func := "loop.example/g00921/laws.FnExactNewMoons", spec := "fnExactNewMoons", apart := false }
def FnExactNewMoonsSaid : Prop := fnExactNewMoonsRow.holds Try.pinned (OpenSpec.ofChange fnExactNewMoonsSpec)

/-- ITS FALSE NEIGHBOUR: 'it returns false'. Refute it at one input. -/
def fnExactNewMoonsWrong : ChangeSpec := { name := "fnExactNewMoons", fn := fun _ => fun
  | [d1, d2, d3] => { results := [.lit (.bool false)], args := [d1, d2, d3] }
  | _ => none }
def FnExactNewMoonsWrongFalsely : Prop := fnExactNewMoonsRow.holds Try.pinned (OpenSpec.ofChange fnExactNewMoonsWrong)

/-- 'laws.FnExactLunationsApart': WHATEVER THE INPUT: true; the input reads as it did. -/
def fnExactLunationsApartSpec : ChangeSpec := { name := "fnExactLunationsApart", fn := fun _ => fun
  | [d1, d2] => { results := [.lit (.bool true)], args := [d1, d2] }
  | _ => none }
def fnExactLunationsApartRow : OpenClaim := { program := "ytanfccdeacohfaa", sum := "887b88daaf633b07ffa9d6dd9d9cd97ecc1204e4c8382d10f6dfa1549dd0a279", func := "loop.example/g00921/laws.FnExactLunationsApart", spec := "fnExactLunationsApart", apart := false }
def FnExactLunationsApartSaid : Prop := fnExactLunationsApartRow.holds Try.pinned (OpenSpec.ofChange fnExactLunationsApartSpec)

/-- ITS FALSE NEIGHBOUR: 'it returns false'. Refute it at one input. -/
def fnExactLunationsApartWrong : ChangeSpec := { name := "fnExactLunationsApart", fn := fun _ => fun
  | [d1, d2] => { results := [.lit (.bool false)], args := [d1, d2] }
  | _ => none }
def FnExactLunationsApartWrongFalsely : Prop := fnExactLunationsApartRow.holds Try.pinned (OpenSpec.ofChange fnExactLunationsApartWrong)

/-- 'laws.FnExactMoonAge': WHATEVER THE INPUT: true; the input reads as it did. -/
def fnExactMoonAgeSpec : ChangeSpec := { name := "fnExactMoonAge", fn := fun _ => fun
  | [d1, d2] => { results := [.lit (.bool true)], args := [d1, d2] }
  | _ => none }
def fnExactMoonAgeRow : OpenClaim := { program := "ytanfccdeacohfaa", sum := "887b88daaf633b07ffa9d6dd9d9cd97ecc1204e4c8382d10f6dfa1549dd0a279", func := "loop.example/g00921/laws.FnExactMoonAge", spec := "fnExactMoonAge", apart := false }
def FnExactMoonAgeSaid : Prop := fnExactMoonAgeRow.holds Try.pinned (OpenSpec.ofChange fnExactMoonAgeSpec)

/-- ITS FALSE NEIGHBOUR: 'it returns false'. Refute it at one input. -/
def fnExactMoonAgeWrong : ChangeSpec := { name := "fnExactMoonAge", fn := fun _ => fun
  | [d1, d2] => { results := [.lit (.bool false)], args := [d1, d2] }
  | _ => none }
def FnExactMoonAgeWrongFalsely : Prop := fnExactMoonAgeRow.holds Try.pinned (OpenSpec.ofChange fnExactMoonAgeWrong)

/-- 'laws.FnLunations': WHATEVER THE INPUT: true; the input reads as it did. -/
def fnLunationsSpec : ChangeSpec := { name := "fnLunations", fn := fun _ => fun
  | [d] => { results := [.lit (.bool true)], args := [d] }
  | _ => none }
def fnLunationsRow : OpenClaim := { program := "ytanfccdeacohfaa", sum := "887b88daaf633b07ffa9d6dd9d9cd97ecc1204e4c8382d10f6dfa1549dd0a279", func := "loop.example/g00921/laws.FnLunations", spec := "fnLunations", apart := false }
def FnLunationsSaid : Prop := fnLunationsRow.holds Try.pinned (OpenSpec.ofChange fnLunationsSpec)

/-- ITS FALSE NEIGHBOUR: 'it returns false'. Refute it at one input. -/
def fnLunationsWrong : ChangeSpec := { name := "fnLunations", fn := fun _ => fun
  | [d] => { results := [.lit (.bool false)], args := [d] }
  | _ => none }
def FnLunationsWrongFalsely : Prop := fnLunationsRow.holds Try.pinned (OpenSpec.ofChange fnLunationsWrong)

/-- 'laws.FnNewMoons': WHATEVER THE INPUT: true; the input reads as it did. -/
def fnNewMoonsSpec : ChangeSpec := { name := "fnNewMoons", fn := fun _ => fun
  | [d] => { results := [.lit (.bool true)], args := [d] }
  | _ => none }
def fnNewMoonsRow : OpenClaim := { program := "ytanfccdeacohfaa", sum := "887b88daaf633b07ffa9d6dd9d9cd97ecc1204e4c8382d10f6dfa1549dd0a279", func := "loop.example/g00921/laws.FnNewMoons", spec := "fnNewMoons", apart := false }
def FnNewMoonsSaid : Prop := fnNewMoonsRow.holds Try.pinned (OpenSpec.ofChange fnNewMoonsSpec)

/-- ITS FALSE NEIGHBOUR: 'it returns false'. Refute it at one input. -/
def fnNewMoonsWrong : ChangeSpec := { name := "fnNewMoons", fn := fun _ => fun
  | [d] => { results := [.lit (.bool false)], args := [d] }
  | _ => none }
def FnNewMoonsWrongFalsely : Prop := fnNewMoonsRow.holds Try.pinned (OpenSpec.ofChange fnNewMoonsWrong)

/-- 'laws.FnMoonAges': WHATEVER THE INPUT: true; the input reads as it did. -/
def fnMoonAgesSpec : ChangeSpec := { name := "fnMoonAges", fn := fun _ => fun
  | [d] => { results := [.lit (.bool true)], args := [d] }
  | _ => none }
def fnMoonAgesRow : OpenClaim := { program := "ytanfccdeacohfaa", sum := "887b88daaf633b07ffa9d6dd9d9cd97ecc1204e4c8382d10f6dfa1549dd0a279", func := "loop.example/g00921/laws.FnMoonAges", spec := "fnMoonAges", apart := false }
def FnMoonAgesSaid : Prop := fnMoonAgesRow.holds Try.pinned (OpenSpec.ofChange fnMoonAgesSpec)

/-- ITS FALSE NEIGHBOUR: 'it returns false'. Refute it at one input. -/
def fnMoonAgesWrong : ChangeSpec := { name := "fnMoonAges", fn := fun _ => fun
  | [d] => { results := [.lit (.bool false)], args := [d] }
  | _ => none }
def FnMoonAgesWrongFalsely : Prop := fnMoonAgesRow.holds Try.pinned (OpenSpec.ofChange fnMoonAgesWrong)

/- THE SECOND FORM. 'bulk': how many values and letters a reading holds, each counted each time it is reached (what is shared counts as often as it is met; a slice's spare places count too). A statement '..UptoSaid' is the law's where the arguments, and the package variables that the reading takes, are together of bulk at most 1048576: NARROWER than '..Said'. Prove '..Said' where nothing that the law and all that it calls make is longer than what came in: it says more and counts as full. Else prove '..UptoSaid'. A law counts once. -/
mutual
def uptoBulk {H : Type} : DataW H → Nat
  | .lit (.string bytes) => bytes.length + 1
  | .lit _ => 1
  | .nil => 1
  | .ptr d => uptoBulk d + 1
  | .slice elems spare => uptoBulkAll elems + uptoBulkAll spare + 1
  | .agg parts => uptoBulkAll parts + 1
  | .iface _ d => uptoBulk d + 1
  | .map entries => uptoBulkEntries entries + 1
  | .held _ => 1
def uptoBulkAll {H : Type} : List (DataW H) → Nat
  | [] => 0
  | d :: r => uptoBulk d + uptoBulkAll r
def uptoBulkEntries {H : Type} : List (Lit × DataW H) → Nat
  | [] => 0
  | x :: r => uptoBulkEntry x + uptoBulkEntries r
def uptoBulkEntry {H : Type} : Lit × DataW H → Nat
  | (.string bytes, d) => bytes.length + uptoBulk d + 1
  | (_, d) => uptoBulk d + 1
 end
def uptoSmall : (H : Type) → List (DataW H) → Bool := fun _ ds => decide (uptoBulkAll ds ≤ 1048576)
def OpenSpec.upto (s : _root_.Go.ChangeSpec) : _root_.Go.OpenSpec := { _root_.Go.OpenSpec.ofChange s with cond := some uptoSmall }

/-- 'laws.FnExactValidMoon', WHERE WHAT IT READS IS OF BULK AT MOST 1048576: true; the input reads as it did. -/
def fnExactValidMoonUptoRow : OpenClaim := { program := "ytanfccdeacohfaa", sum := "887b88daaf633b07ffa9d6dd9d9cd97ecc1204e4c8382d10f6dfa1549dd0a279", func := "loop.example/g00921/laws.FnExactValidMoon", spec := "fnExactValidMoon", apart := false, narrowed := true }
def FnExactValidMoonUptoSaid : Prop := fnExactValidMoonUptoRow.holds Try.pinned (OpenSpec.upto fnExactValidMoonSpec)

/-- 'laws.FnExactEasterOf', WHERE WHAT IT READS IS OF BULK AT MOST 1048576: true; the input reads as it did. -/
def fnExactEasterOfUptoRow : OpenClaim := { program := "ytanfccdeacohfaa", sum := "887b88daaf633b07ffa9d6dd9d9cd97ecc1204e4c8382d10f6dfa1549dd0a279", func := "loop.example/g00921/laws.FnExactEasterOf", spec := "fnExactEasterOf", apart := false, narrowed := true }
def FnExactEasterOfUptoSaid : Prop := fnExactEasterOfUptoRow.holds Try.pinned (OpenSpec.upto fnExactEasterOfSpec)

/-- 'laws.FnExactNextNewMoon', WHERE WHAT IT READS IS OF BULK AT MOST 1048576: true; the input reads as it did. -/
def fnExactNextNewMoonUptoRow : OpenClaim := { program := "ytanfccdeacohfaa", sum := "887b88daaf633b07ffa9d6dd9d9cd97ecc1204e4c8382d10f6dfa1549dd0a279", func := "loop.example/g00921/laws.FnExactNextNewMoon", spec := "fnExactNextNewMoon", apart := false, narrowed := true }
def FnExactNextNewMoonUptoSaid : Prop := fnExactNextNewMoonUptoRow.holds Try.pinned (OpenSpec.upto fnExactNextNewMoonSpec)

/-- 'laws.FnExactPhaseOf', WHERE WHAT IT READS IS OF BULK AT MOST 1048576: true; the input reads as it did. -/
def fnExactPhaseOfUptoRow : OpenClaim := { program := "ytanfccdeacohfaa", sum := "887b88daaf633b07ffa9d6dd9d9cd97ecc1204e4c8382d10f6dfa1549dd0a279", func := "loop.example/g00921/laws.FnExactPhaseOf", spec := "fnExactPhaseOf", apart := false, narrowed := true }
def FnExactPhaseOfUptoSaid : Prop := fnExactPhaseOfUptoRow.holds Try.pinned (OpenSpec.upto fnExactPhaseOfSpec)

/-- 'laws.FnEasters', WHERE WHAT IT READS IS OF BULK AT MOST 1048576: true; the input reads as it did. -/
def fnEastersUptoRow : OpenClaim := { program := "ytanfccdeacohfaa", sum := "887b88daaf633b07ffa9d6dd9d9cd97ecc1204e4c8382d10f6dfa1549dd0a279", func := "loop.example/g00921/laws.FnEasters", spec := "fnEasters", apart := false, narrowed := true }
def FnEastersUptoSaid : Prop := fnEastersUptoRow.holds Try.pinned (OpenSpec.upto fnEastersSpec)

/-- 'laws.FnExactNewMoons', WHERE WHAT IT READS IS OF BULK AT MOST 1048576: true; the input reads as it did. -/
def fnExactNewMoonsUptoRow : OpenClaim := { program := "ytanfccdeacohfaa", sum := "887b88daaf633b07ffa9d6dd9d9cd97ecc1204e4c8382d10f6dfa1549dd0a279", func := "loop.example/g00921/laws.FnExactNewMoons", spec := "fnExactNewMoons", apart := false, narrowed := true }
def FnExactNewMoonsUptoSaid : Prop := fnExactNewMoonsUptoRow.holds Try.pinned (OpenSpec.upto fnExactNewMoonsSpec)

/-- 'laws.FnExactLunationsApart', WHERE WHAT IT READS IS OF BULK AT MOST 1048576: true; the input reads as it did. -/
def fnExactLunationsApartUptoRow : OpenClaim := { program := "ytanfccdeacohfaa", sum := "887b88daaf633b07ffa9d6dd9d9cd97ecc1204e4c8382d10f6dfa1549dd0a279", func := "loop.example/g00921/laws.FnExactLunationsApart", spec := "fnExactLunationsApart", apart := false, narrowed := true }
def FnExactLunationsApartUptoSaid : Prop := fnExactLunationsApartUptoRow.holds Try.pinned (OpenSpec.upto fnExactLunationsApartSpec)

/-- 'laws.FnExactMoonAge', WHERE WHAT IT READS IS OF BULK AT MOST 1048576: true; the input reads as it did. -/
def fnExactMoonAgeUptoRow : OpenClaim := { program := "ytanfccdeacohfaa", sum := "887b88daaf633b07ffa9d6dd9d9cd97ecc1204e4c8382d10f6dfa1549dd0a279", func := "loop.example/g00921/laws.FnExactMoonAge", spec := "fnExactMoonAge", apart := false, narrowed := true }
def FnExactMoonAgeUptoSaid : Prop := fnExactMoonAgeUptoRow.holds Try.pinned (OpenSpec.upto fnExactMoonAgeSpec)

/-- 'laws.FnLunations', WHERE WHAT IT READS IS OF BULK AT MOST 1048576: true; the input reads as it did. -/
def fnLunationsUptoRow : OpenClaim := { program := "ytanfccdeacohfaa", sum := "887b88daaf633b07ffa9d6dd9d9cd97ecc1204e4c8382d10f6dfa1549dd0a279", func := "loop.example/g00921/laws.FnLunations", spec := "fnLunations", apart := false, narrowed := true }
def FnLunationsUptoSaid : Prop := fnLunationsUptoRow.holds Try.pinned (OpenSpec.upto fnLunationsSpec)

/-- 'laws.FnNewMoons', WHERE WHAT IT READS IS OF BULK AT MOST 1048576: true; the input reads as it did. -/
def fnNewMoonsUptoRow : OpenClaim := { program := "ytanfccdeacohfaa", sum := "887b88daaf633b07ffa9d6dd9d9cd97ecc1204e4c8382d10f6dfa1549dd0a279", func := "loop.example/g00921/laws.FnNewMoons", spec := "fnNewMoons", apart := false, narrowed := true }
def FnNewMoonsUptoSaid : Prop := fnNewMoonsUptoRow.holds Try.pinned (OpenSpec.upto fnNewMoonsSpec)

/-- 'laws.FnMoonAges', WHERE WHAT IT READS IS OF BULK AT MOST 1048576: true; the input reads as it did. -/
def fnMoonAgesUptoRow : OpenClaim := { program := "ytanfccdeacohfaa", sum := "887b88daaf633b07ffa9d6dd9d9cd97ecc1204e4c8382d10f6dfa1549dd0a279", func := "loop.example/g00921/laws.FnMoonAges", spec := "fnMoonAges", apart := false, narrowed := true }
def FnMoonAgesUptoSaid : Prop := fnMoonAgesUptoRow.holds Try.pinned (OpenSpec.upto fnMoonAgesSpec)

end Rows
end Go.Proofs.Ytanfccdeacohfaa
