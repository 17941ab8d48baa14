/- How the data of a law's arguments read: slices of int64 and the structs that hold them. No conditions. -/
import Derived.Test.YtajcbppndkkbpaaGreatDoorInts
import Derived.ProofKit
import Derived.OpenShut
import Derived.Lib.SmallJoins
import Derived.ChangeOld
namespace Go.Proofs.YtajcbppndkkbpaaGreatDoor
open Go.ChangeShapes Go.WideShapes Go.ChangeAt Go.RowKit Go.Joins
set_option linter.unusedVariables false
set_option linter.unusedSimpArgs false
theorem own : ownKnob Tryz.prog.godebug = none := by kernel_rfl
theorem laidOut : laidOutB Tryz.prog = true := by kernel_rfl
theorem cells_int64 : Tryz.prog.cellsOf 2 = 1 := by kernel_rfl
theorem cells_ints : Tryz.prog.cellsOf 24 = 1 := by kernel_rfl
/-- what a law knows of a slice that came in -/
def Came (W : World) (A : Option Addr) (n c : Nat) (zs : List Int) : Prop := Ints W W.heap.size A n zs ∧ n ≤ 9223372036854775807 ∧ ∀ z ∈ zs, (Lit.int .i64 z).wf = true
section
variable {H : Type} {enc : TypeId × Value → H} {W : World} {base : Nat} {sp : Nat → Bool} {hd : Bool}
theorem came_of {fuel : Nat} {cs : List Value} {x : DataW H × List MemPlace} (hf : DataW.trod enc Tryz.prog W base sp hd fuel 24 cs = some x) :
    ∃ A n c zs, cs = [.slice A n c] ∧ Came W A n c zs := by
  rcases open_ints Tryz.underlying24 Tryz.underlying2 cells_int64 hf with ⟨hcs, _⟩ | ⟨a, l, c, zs, hcs, _, hl, hm, hz, _, hcell, hwz⟩
  · exact ⟨none, 0, 0, [], hcs, ⟨rfl, fun h => absurd h (by omega)⟩, by omega, fun z hz => by cases hz⟩
  · have hzl : l ≤ zs.length := by rw [hz]; split <;> omega
    refine ⟨some a, l, c, zs.take l, hcs, ⟨by simp; omega, fun h0 => ?_⟩, by unfold maxLen at hm; omega, fun z hz => hwz z (List.mem_of_mem_take hz)⟩
    obtain ⟨b, off, rfl, hc⟩ := ints_at hcell (by omega)
    refine ⟨b, off, rfl, ?_, fun j hj => ?_⟩
    · have := World.block_lt_of_cell? W _ (hc 0 (by omega)); exact this
    · rw [hc j (by omega)]
      have h1 : j < (zs.take l).length := by simp; omega
      rw [getD_of h1, getD_of (show j < zs.length by omega), List.getElem_take]
set_option maxRecDepth 100000 in
theorem open_Ints {r : Reach} {b0 : Nat} {v : Value} {x : DataW H} {p : List MemPlace} (hv : Value.okWide Tryz.prog W r b0 24 v) (h : DataW.Trod enc Tryz.prog W base sp hd 24 v x p) :
    ∃ A n c zs, v = .slice A n c ∧ Came W A n c zs := by
  obtain ⟨a, l, c, rfl⟩ := okWide_slice Tryz.underlying24 hv
  obtain ⟨fuel, hf⟩ := h
  obtain ⟨A, n, c, zs, e, hC⟩ := came_of hf
  simp [Value.cells] at e
  obtain ⟨rfl, rfl, rfl⟩ := e
  exact ⟨_, _, _, zs, rfl, hC⟩
end
end Go.Proofs.YtajcbppndkkbpaaGreatDoor
