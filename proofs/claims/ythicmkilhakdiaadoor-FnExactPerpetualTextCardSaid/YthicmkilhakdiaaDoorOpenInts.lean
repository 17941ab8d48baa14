/- How the data of a law's arguments read: slices of int64 and the structs that hold them. No conditions. -/
import Derived.Test.YthicmkilhakdiaaDoorInts
import Derived.ProofKit
import Derived.OpenShut
import Derived.Lib.SmallJoins
import Derived.ChangeOld
namespace Go.Proofs.YthicmkilhakdiaaDoor
open Go.ChangeShapes Go.WideShapes Go.ChangeAt Go.RowKit Go.Joins
set_option linter.unusedVariables false
set_option linter.unusedSimpArgs false
theorem own : ownKnob Tryd.prog.godebug = none := by kernel_rfl
theorem laidOut : laidOutB Tryd.prog = true := by kernel_rfl
theorem cells_int64 : Tryd.prog.cellsOf 2 = 1 := by kernel_rfl
theorem cells_ints : Tryd.prog.cellsOf 22 = 1 := by kernel_rfl
/-- what a law knows of a slice that came in -/
def Came (W : World) (A : Option Addr) (n c : Nat) (zs : List Int) : Prop := Ints W W.heap.size A n zs ∧ n ≤ 9223372036854775807 ∧ ∀ z ∈ zs, (Lit.int .i64 z).wf = true
section
variable {H : Type} {enc : TypeId × Value → H} {W : World} {base : Nat} {sp : Nat → Bool} {hd : Bool}
theorem came_of {fuel : Nat} {cs : List Value} {x : DataW H × List MemPlace} (hf : DataW.trod enc Tryd.prog W base sp hd fuel 22 cs = some x) :
    ∃ A n c zs, cs = [.slice A n c] ∧ Came W A n c zs := by
  rcases open_ints Tryd.underlying22 Tryd.underlying2 cells_int64 hf with ⟨hcs, _⟩ | ⟨a, l, c, zs, hcs, _, hl, hm, hz, _, hcell, hwz⟩
  · exact ⟨none, 0, 0, [], hcs, ⟨rfl, fun h => absurd h (by omega)⟩, by omega, fun z hz => by cases hz⟩
  · have hzl : l ≤ zs.length := by rw [hz]; split <;> omega
    refine ⟨some a, l, c, zs.take l, hcs, ⟨by simp; omega, fun h0 => ?_⟩, by unfold maxLen at hm; omega, fun z hz => hwz z (List.mem_of_mem_take hz)⟩
    obtain ⟨b, off, rfl, hc⟩ := ints_at hcell (by omega)
    refine ⟨b, off, rfl, ?_, fun j hj => ?_⟩
    · have := World.block_lt_of_cell? W _ (hc 0 (by omega)); exact this
    · rw [hc j (by omega)]
      have h1 : j < (zs.take l).length := by simp; omega
      rw [getD_of h1, getD_of (show j < zs.length by omega), List.getElem_take]
theorem open_Ints {r : Reach} {b0 : Nat} {v : Value} {x : DataW H} {p : List MemPlace} (hv : Value.okWide Tryd.prog W r b0 22 v) (h : DataW.Trod enc Tryd.prog W base sp hd 22 v x p) :
    ∃ A n c zs, v = .slice A n c ∧ Came W A n c zs := by
  obtain ⟨a, l, c, rfl⟩ := okWide_slice Tryd.underlying22 hv
  obtain ⟨fuel, hf⟩ := h
  obtain ⟨A, n, c, zs, e, hC⟩ := came_of hf
  simp [Value.cells] at e
  obtain ⟨rfl, rfl, rfl⟩ := e
  exact ⟨_, _, _, zs, rfl, hC⟩
theorem cells_wheel : Tryd.prog.cellsOf 32 = 1 := by kernel_rfl
theorem open_CountWheel {r : Reach} {b0 : Nat} {v : Value} {x : DataW H} {p : List MemPlace} (hv : Value.okWide Tryd.prog W r b0 32 v) (h : DataW.Trod enc Tryd.prog W base sp hd 32 v x p) :
    ∃ A n c zs, v = .agg #[.slice A n c] ∧ Came W A n c zs := by
  obtain ⟨cs, rfl, hsz⟩ := okWide_struct Tryd.underlying32 hv
  obtain ⟨c0, rfl⟩ : ∃ c0, cs = #[c0] := by
    obtain ⟨l⟩ := cs
    match l, hsz.trans cells_wheel with
    | [c0], _ => exact ⟨c0, rfl⟩
  obtain ⟨fuel, hf⟩ := h
  obtain ⟨y0, n, hx, _, h0⟩ := trod_struct1 Tryd.underlying32 hf
  simp [Value.cells, cells_ints] at h0
  obtain ⟨A, n, c, zs, e, hC⟩ := came_of h0
  simp at e
  subst e
  exact ⟨_, _, _, zs, rfl, hC⟩
end
end Go.Proofs.YthicmkilhakdiaaDoor
