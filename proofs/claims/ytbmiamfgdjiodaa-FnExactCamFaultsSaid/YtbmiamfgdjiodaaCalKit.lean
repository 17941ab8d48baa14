/- What the laws over calendars share: dates that are copied, calendars in a block of the law's own. No conditions. -/
import Derived.Test.YtbmiamfgdjiodaaFirst
import Derived.Test.YtbmiamfgdjiodaaCal3
namespace Go.Proofs.Ytbmiamfgdjiodaa
open Go.RowKit
set_option linter.unusedVariables false
set_option linter.unusedSimpArgs false
set_option maxHeartbeats 1000000 in
theorem toDate_any (y m d : Int) (w : World) :
    Calls Try.prog 23 #[.agg #[.int .i64 y, .int .i64 m, .int .i64 d]] w fun e w' => e = .returned (.agg #[.int .i64 y, .int .i64 m, .int .i64 d]) ∧ Below w.heap.size w w' := by
  go_enter Try.func23, Try.ntmps23
  go_wp2
  refine bodyPost_ret (v := .agg #[.int .i64 y, .int .i64 m, .int .i64 d]) ?_ rfl ⟨rfl, ?_⟩
  · simp [results, Try.results23, go_sem]
  · (repeat (first | with_reducible exact Below.refl _ _ | with_reducible refine below_alloc ?_ _ | with_reducible refine below_drewN ?_ _ | with_reducible refine Below.drew ?_ | ((with_reducible refine below_set ?_ ?_ _); rotate_left; (focus (first | (simp; done) | (simp; omega) | omega))) | with_reducible refine below_call ?_ (by assumption)))
theorem CalAt.alloc {w : World} {g : Nat} {nm : ByteArray} {A A' : Option Addr} {n n' c c' : Nat} {we : Int} (h : CalAt w g nm A A' n n' c c' we) (o : Obj) : CalAt (w.alloc o) g nm A A' n n' c c' we := h.call ((Below.refl _ _).alloc (Nat.le_refl _) o)
theorem wf_lo {a : Int} (h : (Lit.int .i64 a).wf = true) : -9223372036854775808 ≤ a ∧ a ≤ 9223372036854775807 := by
  simp only [Lit.wf, Bool.and_eq_true, decide_eq_true_eq] at h
  have e1 : IntKind.i64.min = -9223372036854775808 := (by decide)
  have e2 : IntKind.i64.max = 9223372036854775807 := (by decide)
  omega
end Go.Proofs.Ytbmiamfgdjiodaa
