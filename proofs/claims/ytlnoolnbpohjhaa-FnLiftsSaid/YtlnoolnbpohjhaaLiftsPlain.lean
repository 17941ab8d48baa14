/- Plain law of lifts: the strike behind the lifts that are told has the blows, and none before it. No conditions. -/
import Derived.Test.YtlnoolnbpohjhaaStrikeMany
import Derived.Test.YtlnoolnbpohjhaaLifts
namespace Go.Proofs.Ytlnoolnbpohjhaa
set_option linter.unusedVariables false
theorem lifts_cases {zs : List Int} {n : Nat} (x bl : Int) (hl : zs.length = n) : (∃ a cd : Int, liftsT zs n x bl = .tuple #[.int .i64 a, .int .i64 cd] ∧ (cd == 0) = false) ∨
    (∃ a k : Nat, vWheel zs = true ∧ x = (a : Int) ∧ a < n ∧ n ≤ 24 ∧ k < n ∧ liftsT zs n x bl = .tuple #[.int .i64 (k : Int), .int .i64 0] ∧ zs.getD ((a + k) % n) 0 = bl ∧ ∀ j, j < k → zs.getD ((a + j) % n) 0 ≠ bl) := by
  cases hv : vWheel zs
  · exact .inl ⟨0, 1, lifts_bad hv, rfl⟩
  · cases hi : (inB x 0 ((n : Int) - 1) && inB bl 1 12)
    · exact .inl ⟨0, 2, lifts_far hv hi, rfl⟩
    · have hx := inB_yes (Bool.and_eq_true_iff.mp hi).1
      obtain ⟨a, rfl⟩ := Int.eq_ofNat_of_zero_le hx.1
      obtain ⟨h1, h2, h3⟩ := vWheel_yes hv
      have hok := lifts_ok hv hi
      rw [Int.toNat_natCast] at hok
      by_cases h : ∃ k, IsFirst (manyL zs n a n) bl k
      · obtain ⟨k, hk⟩ := h
        have hkn : k < n := by have := hk.1; rwa [manyL_len] at this
        refine .inr ⟨a, k, rfl, rfl, by omega, by omega, hkn, ?_, ?_, fun j hj => ?_⟩
        · rw [hok]; exact firstT_of hk
        · have := hk.2.1; rwa [manyL_getD hkn] at this
        · have := hk.2.2 j hj; rwa [manyL_getD (show j < n by omega)] at this
      · refine .inl ⟨0, 3, ?_, rfl⟩
        rw [hok]
        unfold firstT
        rw [dif_neg h]
/-- the answers behind the lifts -/
theorem sm_at {zs : List Int} {n a k : Nat} (hv : vWheel zs = true) (ha : a < n) (hk : k ≤ 500) : smL zs n (a : Int) (k : Int) = manyL zs n a k ∧ smN zs n (a : Int) (k : Int) = ((a + k) % n : Nat) ∧ smC zs n (a : Int) (k : Int) = 0 :=
  sm_ok hv (by simp [inB]; omega)
theorem strike_at {zs : List Int} {n j : Nat} (hv : vWheel zs = true) (hj : j < n) : strikeT zs n (j : Int) = .tuple #[.int .i64 (zs.getD j 0), .int .i64 (((j + 1) % n : Nat) : Int), .int .i64 0] := by
  have := strike_ok (n := n) (x := (j : Int)) hv (by simp [inB]; omega)
  rwa [Int.toNat_natCast] at this
end Go.Proofs.Ytlnoolnbpohjhaa
