/- Contracts of the functions on ratios. No conditions. -/
import Derived.Test.YtanfccdeacohfaaBase
namespace Go.Proofs.Ytanfccdeacohfaa
open Go.RowKit
set_option linter.unusedVariables false
set_option linter.unusedSimpArgs false

/-- a ratio is valid -/
def vRatio (n d : Int) : Bool := inB d 1 1000000000 && (inB n (-1000000000) 1000000000 && decide ((Int.gcd n d : Int) = 1))
theorem vRatio_yes {n d : Int} (h : vRatio n d = true) : 1 ≤ d ∧ d ≤ 1000000000 ∧ -1000000000 ≤ n ∧ n ≤ 1000000000 ∧ Int.gcd n d = 1 := by
  simp only [vRatio, Bool.and_eq_true, decide_eq_true_eq] at h
  obtain ⟨h1, h2, h3⟩ := h
  have := inB_yes h1
  have := inB_yes h2
  omega

set_option maxHeartbeats 400000 in
theorem ValidRatio_any (n d : Int) (w : World) :
    Calls Try.prog 47 #[.agg #[.int .i64 n, .int .i64 d]] w fun e w' => e = .returned (.bool (vRatio n d)) ∧ Below w.heap.size w w' := by
  by_cases h1 : inB d 1 1000000000 = true
  · have k1 := inB_yes h1
    by_cases h2 : inB n (-1000000000) 1000000000 = true
    · have k2 := inB_yes h2
      go_enter Try.func47, Try.ntmps47
      go_wp2_with (first | (go_at_call 51; refine (within_any _ _ _ _).mono ?_; rintro e w' ⟨rfl, rfl⟩) | (go_at_call 78; refine (gcd_any _ _ _ (by omega) (by omega)).mono ?_; rintro e w' ⟨rfl, nq, rfl⟩))
      go_ret
      exact ⟨ret_bool (by rw [vRatio, h1, h2]; rfl), below_drewN ((Below.refl _ _).alloc (Nat.le_refl _) _) _⟩
    · have h2' : inB n (-1000000000) 1000000000 = false := by simpa using h2
      clear h2
      go_enter Try.func47, Try.ntmps47
      go_wp2_with (go_at_call 51; refine (within_any _ _ _ _).mono ?_; rintro e w' ⟨rfl, rfl⟩)
      go_ret
      exact ⟨ret_bool (by rw [vRatio, h1, h2']; rfl), (Below.refl _ _).alloc (Nat.le_refl _) _⟩
  · have h1' : inB d 1 1000000000 = false := by simpa using h1
    clear h1
    go_enter Try.func47, Try.ntmps47
    go_wp2_with (go_at_call 51; refine (within_any _ _ _ _).mono ?_; rintro e w' ⟨rfl, rfl⟩)
    go_ret
    exact ⟨ret_bool (by rw [vRatio, h1']; rfl), (Below.refl _ _).alloc (Nat.le_refl _) _⟩
theorem quiet_left {P : Program} {f : FuncId} {args : Array Value} {w : World} {n : Nat} {v : Value}
    (h : Calls P f args (w.drewN n) fun e w' => e = .returned v ∧ w.drewN n = w') : Calls P f args (w.drewN n) fun e w'' => e = .returned v ∧ ∃ m, w'' = w.drewN m :=
  h.mono fun _ _ ⟨he, hm⟩ => ⟨he, n, hm.symm⟩
set_option maxHeartbeats 2000000 in
theorem l02Ok_any (n d : Int) (w : World) :
    Calls Try.prog 64 #[.agg #[.int .i64 n, .int .i64 d]] w fun e w' => e = .returned (.bool (vRatio n d)) ∧ Below w.heap.size w w' := by
  by_cases h1 : inB d 1 1000000000 = true
  · have k1 := inB_yes h1
    by_cases h2 : inB n (-1000000000) 1000000000 = true
    · have k2 := inB_yes h2
      go_enter Try.func64, Try.ntmps64
      go_wp2
      go_quiet ((first | (go_at_call 49; exact quiet_left (l00In_any _ _ _ _)) | (go_at_call 67; exact quiet_left (l02Size_any _ _ (by omega))) | (go_at_call 80; exact quiet_left (l02Gcd_any _ _ _ (by omega) (by omega) (by omega) (by omega)))))
      go_wp2
      go_ret
      exact ⟨ret_bool (by rw [vRatio, h1, h2]; rfl), below_drewN ((Below.refl _ _).alloc (Nat.le_refl _) _) _⟩
    · have h2' : inB n (-1000000000) 1000000000 = false := by simpa using h2
      clear h2
      go_enter Try.func64, Try.ntmps64
      go_wp2
      go_quiet ((go_at_call 49; exact quiet_left (l00In_any _ _ _ _)))
      go_wp2
      go_ret
      exact ⟨ret_bool (by rw [vRatio, h1, h2']; rfl), below_drewN ((Below.refl _ _).alloc (Nat.le_refl _) _) _⟩
  · have h1' : inB d 1 1000000000 = false := by simpa using h1
    clear h1
    go_enter Try.func64, Try.ntmps64
    go_wp2
    go_quiet ((go_at_call 49; exact quiet_left (l00In_any _ _ _ _)))
    go_wp2
    go_ret
    exact ⟨ret_bool (by rw [vRatio, h1']; rfl), below_drewN ((Below.refl _ _).alloc (Nat.le_refl _) _) _⟩
end Go.Proofs.Ytanfccdeacohfaa
