/- Contracts of the laws' conversions of perpetual works. No conditions but that a cam that is copied has at most 2^20 steps. -/
import Derived.Test.YthjldjbblaioaaaInts
import Derived.Deep.RegionHeld3
namespace Go.Proofs.Ythjldjbblaioaaa
open Go.RowKit
set_option linter.unusedVariables false
set_option linter.unusedSimpArgs false

end Go.Proofs.Ythjldjbblaioaaa
