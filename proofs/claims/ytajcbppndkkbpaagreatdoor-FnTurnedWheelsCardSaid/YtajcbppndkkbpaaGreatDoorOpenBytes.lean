/- How a law's bytes read. No conditions. -/
import Derived.Test.YtajcbppndkkbpaaGreatDoorSrc
import Derived.Test.YtajcbppndkkbpaaGreatDoorOpenInts
namespace Go.Proofs.YtajcbppndkkbpaaGreatDoor
open Go.ChangeShapes Go.WideShapes Go.ChangeAt Go.RowKit Go.Joins
set_option linter.unusedVariables false
set_option linter.unusedSimpArgs false
theorem cells_byte : Tryz.prog.cellsOf 5 = 1 := by kernel_rfl
/-- what a law knows of bytes that came in -/
def CameB (W : World) (A : Option Addr) (n : Nat) : Prop := Byts W W.heap.size A n ∧ n ≤ 9223372036854775807
section
variable {H : Type} {enc : TypeId × Value → H} {W : World} {base : Nat} {sp : Nat → Bool} {hd : Bool}
set_option maxRecDepth 100000 in
theorem open_Bytes {r : Reach} {b0 : Nat} {v : Value} {x : DataW H} {p : List MemPlace} (hv : Value.okWide Tryz.prog W r b0 22 v) (h : DataW.Trod enc Tryz.prog W base sp hd 22 v x p) :
    ∃ A n c, v = .slice A n c ∧ CameB W A n := by
  obtain ⟨a, l, c, rfl⟩ := okWide_slice Tryz.underlying22 hv
  obtain ⟨fuel, hf⟩ := h
  refine ⟨a, l, c, rfl, ?_⟩
  rcases open_ints Tryz.underlying22 Tryz.underlying5 cells_byte hf with ⟨hcs, _⟩ | ⟨a', l', c', zs, hcs, _, hl, hm, hz, _, hcell, hwz⟩
  · simp [Value.cells] at hcs
    obtain ⟨rfl, rfl, rfl⟩ := hcs
    exact ⟨fun h => absurd h (by omega), by omega⟩
  · simp [Value.cells] at hcs
    obtain ⟨rfl, rfl, rfl⟩ := hcs
    have hzl : l ≤ zs.length := by rw [hz]; split <;> omega
    refine ⟨fun h0 => ?_, by unfold maxLen at hm; omega⟩
    obtain ⟨b, off, rfl, hc⟩ := ints_at hcell (by omega)
    refine ⟨b, off, rfl, ?_, fun j hj => ?_⟩
    · have := World.block_lt_of_cell? W _ (hc 0 (by omega)); exact this
    · have h1 : j < zs.length := by omega
      have hw := hwz zs[j] (List.getElem_mem _)
      simp only [Lit.wf, Bool.and_eq_true, decide_eq_true_eq] at hw
      have e1 : IntKind.u8.min = 0 := by decide
      have e2 : IntKind.u8.max = 255 := by decide
      rw [e1, e2] at hw
      exact ⟨zs[j], hw.1, hw.2, by rw [hc j h1, getD_of h1]⟩
end
end Go.Proofs.YtajcbppndkkbpaaGreatDoor
