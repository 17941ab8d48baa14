/- Plain laws of the steepest step and of the radii: no step is steeper than the steepest; a greater step has no lesser radius. No conditions. -/
import Derived.Test.YtmmpbbhddhapmaaSteep
import Derived.Test.YtmmpbbhddhapmaaRadii
namespace Go.Proofs.Ytmmpbbhddhapmaa
set_option linter.unusedVariables false
theorem best_max (zs : List Int) (n : Nat) : ∀ k j, j < k → stepI zs n j ≤ stepI zs n (bestK zs n k)
  | 0, j, h => by omega
  | k + 1, j, h => by
    simp only [bestK]
    by_cases e : j = k
    · subst e; split <;> omega
    · have := best_max zs n k j (by omega)
      split <;> omega
theorem near_mono {a b d : Int} (hd : 0 < d) (h : a ≤ b) : near a d ≤ near b d := by
  unfold near
  exact Int.ediv_le_ediv (by omega) (by omega)
theorem radI_mono {a b base scale : Int} (hs : 0 ≤ scale) (h : a ≤ b) : radI a base scale ≤ radI b base scale := by
  have k : a * scale ≤ b * scale := Int.mul_le_mul_of_nonneg_right h hs
  have := near_mono (d := 1000) (by omega) k
  unfold radI; omega
theorem radL_getD {zs : List Int} {base scale : Int} {k : Nat} (h : k < zs.length) : (radL zs base scale).getD k 0 = radI (zs.getD k 0) base scale := by
  rw [getD_of h, getD_of (by rw [radL_len]; exact h)]
  simp [radL]
theorem radL_mono {zs : List Int} {base scale : Int} {i j : Nat} (hi : i < zs.length) (hj : j < zs.length) (hs : 0 ≤ scale) (h : zs.getD i 0 ≤ zs.getD j 0) : (radL zs base scale).getD i 0 ≤ (radL zs base scale).getD j 0 := by
  rw [radL_getD hi, radL_getD hj]; exact radI_mono hs h
/-- where the code of SunRadii is 0 and where not -/
theorem rad_code {zs : List Int} {base scale : Int} (hv : vSun zs = true) : (radC zs base scale = 0 ∧ radR zs base scale = radL zs base scale ∧ 0 ≤ scale) ∨ (radC zs base scale == 0) = false := by
  cases h1 : inB base 1 10000 && inB scale 0 10000
  · right; simp [radC, hv, h1]
  · cases h2 : radOk zs base scale
    · right; simp [radC, hv, h1, h2]
    · left
      rw [Bool.and_eq_true] at h1
      exact ⟨by simp [radC, hv, h1, h2], by simp [radR, hv, h1, h2], (inB_yes h1.2).1⟩
end Go.Proofs.Ytmmpbbhddhapmaa
