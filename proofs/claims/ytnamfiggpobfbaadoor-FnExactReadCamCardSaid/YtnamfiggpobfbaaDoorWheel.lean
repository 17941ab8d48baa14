/- Contracts of the conversions of count wheels and of their validity. No conditions but that a wheel that is copied has at most 2^20 gaps. -/
import Derived.Test.YtnamfiggpobfbaaDoorInts
import Derived.Deep.RegionHeld3
namespace Go.Proofs.YtnamfiggpobfbaaDoor
open Go.RowKit
set_option linter.unusedVariables false
set_option linter.unusedSimpArgs false

/-- a count wheel is valid -/
def vWheel (zs : List Int) : Bool := zs.all (fun z => inB z 1 12) && inB zs.length 1 24
theorem vWheel_yes {zs : List Int} (h : vWheel zs = true) : (∀ j, j < zs.length → 1 ≤ zs.getD j 0 ∧ zs.getD j 0 ≤ 12) ∧ 1 ≤ zs.length ∧ zs.length ≤ 24 := by
  simp only [vWheel, Bool.and_eq_true, List.all_eq_true] at h
  obtain ⟨h1, h2⟩ := h
  have := inB_yes h2
  refine ⟨fun j hj => ?_, by omega, by omega⟩
  rw [getD_of hj]
  exact inB_yes (h1 _ (List.getElem_mem hj))
theorem vWheel_bad {zs : List Int} {k : Nat} (hk : k < zs.length) (h : inB (zs.getD k 0) 1 12 = false) : vWheel zs = false := by
  have : zs.all (fun z => inB z 1 12) = false := by
    rw [List.all_eq_false]
    exact ⟨zs[k], List.getElem_mem hk, by rw [getD_of hk] at h; simp [h]⟩
  rw [vWheel, this]; rfl
theorem vWheel_len {zs : List Int} {n : Nat} (hl : zs.length = n) (h : ∀ j, j < n → inB (zs.getD j 0) 1 12 = true) : vWheel zs = inB n 1 24 := by
  have : zs.all (fun z => inB z 1 12) = true := by
    rw [List.all_eq_true]
    intro x hx
    obtain ⟨j, hj, rfl⟩ := List.mem_iff_getElem.1 hx
    have := h j (by omega)
    rwa [getD_of hj] at this
  rw [vWheel, this, hl]; rfl
end Go.Proofs.YtnamfiggpobfbaaDoor
