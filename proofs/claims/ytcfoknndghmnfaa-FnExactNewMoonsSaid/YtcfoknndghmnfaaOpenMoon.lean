/- How the data of a law's arguments read: ratios and moon works by value. No conditions. -/
import Derived.Test.YtcfoknndghmnfaaBase
import Derived.ProofKit
import Derived.OpenShut
import Derived.Lib.SmallJoins
import Derived.ChangeOld
namespace Go.Proofs.Ytcfoknndghmnfaa
open Go.ChangeShapes Go.WideShapes Go.ChangeAt Go.RowKit Go.Joins
set_option linter.unusedVariables false
set_option linter.unusedSimpArgs false
theorem own : ownKnob Try.prog.godebug = none := by kernel_rfl
theorem laidOut : laidOutB Try.prog = true := by kernel_rfl
section
variable {H : Type} {enc : TypeId × Value → H} {W : World} {base : Nat} {sp : Nat → Bool} {hd : Bool}
theorem cells_ratio : Try.prog.cellsOf 23 = 2 := by kernel_rfl
theorem cells_int64 : Try.prog.cellsOf 2 = 1 := by kernel_rfl
theorem open_Ratio {r : Reach} {b0 : Nat} {v : Value} {x : DataW H} {p : List MemPlace} (hv : Value.okWide Try.prog W r b0 23 v) (h : DataW.Trod enc Try.prog W base sp hd 23 v x p) :
    ∃ n d : Int, v = .agg #[.int .i64 n, .int .i64 d] ∧ (Lit.int .i64 n).wf = true ∧ (Lit.int .i64 d).wf = true := by
  obtain ⟨cs, rfl, hsz⟩ := okWide_struct Try.underlying23 hv
  obtain ⟨c0, c1, rfl⟩ := array2 (hsz.trans cells_ratio)
  obtain ⟨fuel, hf⟩ := h
  obtain ⟨y0, y1, n, hx, _, h0, h1⟩ := trod_struct2 Try.underlying23 hf
  simp [Value.cells, cells_int64] at h0 h1
  obtain ⟨a, e0, _, w0⟩ := DataW.trod_int Try.underlying2 h0
  obtain ⟨b, e1, _, w1⟩ := DataW.trod_int Try.underlying2 h1
  simp at e0 e1
  subst e0 e1
  exact ⟨a, b, rfl, w0, w1⟩
theorem cells_moon : Try.prog.cellsOf 25 = 3 := by kernel_rfl
theorem open_Moon {r : Reach} {b0 : Nat} {v : Value} {x : DataW H} {p : List MemPlace} (hv : Value.okWide Try.prog W r b0 25 v) (h : DataW.Trod enc Try.prog W base sp hd 25 v x p) :
    ∃ n d z : Int, v = .agg #[.int .i64 n, .int .i64 d, .int .i64 z] ∧ (Lit.int .i64 n).wf = true ∧ (Lit.int .i64 d).wf = true ∧ (Lit.int .i64 z).wf = true := by
  obtain ⟨cs, rfl, hsz⟩ := okWide_struct Try.underlying25 hv
  obtain ⟨c0, c1, c2, rfl⟩ := array3 (hsz.trans cells_moon)
  obtain ⟨fuel, hf⟩ := h
  obtain ⟨y0, y1, n, hx, _, h0, h1⟩ := trod_struct2 Try.underlying25 hf
  simp [Value.cells, cells_int64, cells_ratio] at h0 h1
  obtain ⟨y2, y3, m, hx', _, h2, h3⟩ := trod_struct2 Try.underlying23 h0
  simp [Value.cells, cells_int64] at h2 h3
  obtain ⟨a, e0, _, w0⟩ := DataW.trod_int Try.underlying2 h2
  obtain ⟨b, e1, _, w1⟩ := DataW.trod_int Try.underlying2 h3
  obtain ⟨z, e2, _, w2⟩ := DataW.trod_int Try.underlying2 h1
  simp at e0 e1 e2
  subst e0 e1 e2
  exact ⟨a, b, z, rfl, w0, w1, w2⟩
end
end Go.Proofs.Ytcfoknndghmnfaa
