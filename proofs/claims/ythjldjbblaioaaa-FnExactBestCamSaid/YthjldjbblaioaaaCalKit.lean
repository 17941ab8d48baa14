/- What the laws over calendars share: dates that are copied, calendars in a block of the law's own. No conditions. -/
import Derived.Test.YthjldjbblaioaaaFirst
import Derived.Test.YthjldjbblaioaaaCal3
namespace Go.Proofs.Ythjldjbblaioaaa
open Go.RowKit
set_option linter.unusedVariables false
set_option linter.unusedSimpArgs false
theorem CalAt.alloc {w : World} {g : Nat} {nm : ByteArray} {A A' : Option Addr} {n n' c c' : Nat} {we : Int} (h : CalAt w g nm A A' n n' c c' we) (o : Obj) : CalAt (w.alloc o) g nm A A' n n' c c' we := h.call ((Below.refl _ _).alloc (Nat.le_refl _) o)
theorem wf_lo {a : Int} (h : (Lit.int .i64 a).wf = true) : -9223372036854775808 ≤ a ∧ a ≤ 9223372036854775807 := by
  simp only [Lit.wf, Bool.and_eq_true, decide_eq_true_eq] at h
  have e1 : IntKind.i64.min = -9223372036854775808 := (by decide)
  have e2 : IntKind.i64.max = 9223372036854775807 := (by decide)
  omega
end Go.Proofs.Ythjldjbblaioaaa
