/- Plain laws of perpetual works: nights in two parts, the pushes of a night, and what the first wrong night says. No program. Conditions: the work and the calendar are valid. -/
import Derived.Test.YtmbdedkelckedaaRun
import Derived.Test.YtmbdedkelckedaaDays
namespace Go.Proofs.Ytmbdedkelckedaa
open Go.RowKit
set_option linter.unusedVariables false
set_option linter.unusedSimpArgs false
section
variable {zs : List Int} {n k : Nat} {mo te da we wd : Int} {s : Nat × Int × Int}
theorem nights_add (a : Nat) : ∀ b, nightsS zs n te we (a + b) s = nightsS zs n te we b (nightsS zs n te we a s)
  | 0 => rfl
  | b + 1 => by rw [show a + (b + 1) = (a + b) + 1 by omega, nightsS, nights_add a b, nightsS]
theorem perp_state (hv : vPerp zs n mo te (k : Int) da we wd = true) (hs : goodS n te we s) : vPerp zs n mo te (s.1 : Int) s.2.1 we s.2.2 = true := by
  obtain ⟨g1, g2, g3, g4, g5⟩ := hs
  unfold vPerp at hv ⊢
  simp only [Bool.and_eq_true] at hv ⊢
  obtain ⟨h1, h2, h3, h4, h5, h6, h7, h8, h9⟩ := hv
  exact ⟨h1, h2, h3, h4, h5, inB_mk (by omega) (by omega), inB_mk g2 g3, h8, inB_mk g4 g5⟩
theorem perp_good (hv : vPerp zs n mo te (k : Int) da we wd = true) : goodS n te we (k, da, wd) := by
  unfold vPerp at hv
  simp only [Bool.and_eq_true] at hv
  obtain ⟨h1, h2, h3, h4, h5, h6, h7, h8, h9⟩ := hv
  have a1 := inB_yes h6
  have a2 := inB_yes h7
  have a3 := inB_yes h9
  exact ⟨by show k < n; omega, a2.1, a2.2, a3.1, a3.2⟩
theorem push_one {j : Int} (h : da + j ≤ te) : mvK n te (mvK n te k da j) (mvD te da j) 1 = mvK n te k da (j + 1) ∧ mvD te (mvD te da j) 1 = mvD te da (j + 1) := by
  have e1 : mvK n te k da j = k := by unfold mvK; rw [if_neg (by omega)]
  have e2 : mvD te da j = da + j := by unfold mvD; rw [if_neg (by omega)]
  rw [e1, e2]
  unfold mvK mvD
  rw [Int.add_assoc]
  exact ⟨rfl, rfl⟩
theorem msI_top (zs : List Int) {te ix da : Int} (h2 : da ≤ te) : da + (msI zs te ix da - 1) ≤ te := by unfold msI; split <;> omega
end
theorem fstB_is (P : Nat → Bool) : ∀ f s, s ≤ fstB P f s ∧ fstB P f s ≤ s + f ∧ (∀ i, s ≤ i → i < fstB P f s → P i = false) ∧ (fstB P f s < s + f → P (fstB P f s) = true)
  | 0, s => ⟨Nat.le_refl _, Nat.le_refl _, fun i h1 h2 => absurd h2 (by show ¬ (i < s); omega), fun h => absurd h (by show ¬ (s < s + 0); omega)⟩
  | f + 1, s => by
    obtain ⟨i1, i2, i3, i4⟩ := fstB_is P f (s + 1)
    cases hP : P s
    · have e : fstB P (f + 1) s = fstB P f (s + 1) := by rw [fstB, hP]; rfl
      rw [e]
      refine ⟨by omega, by omega, fun i h1 h2 => ?_, fun h => i4 (by omega)⟩
      by_cases he : i = s
      · subst he; exact hP
      · exact i3 i (by omega) h2
    · have e : fstB P (f + 1) s = s := by rw [fstB, hP]; rfl
      rw [e]
      exact ⟨Nat.le_refl _, by omega, fun i h1 h2 => absurd h2 (by omega), fun _ => hP⟩
section
variable {nm : ByteArray} {n n' : Nat} {ms : List Mth} {rs : List Rul} {cw : Int} {zs : List Int} {l K : Nat} {mo te da we wd y m d : Int}
/-- the first wrong night: none is told, or one of which all is known -/
theorem fw_cases {N : Nat} (hN : N ≤ 200000) (hv : vCal nm n n' ms rs cw = true) (hp : vPerp zs l mo te (K : Int) da we wd = true) (hd : dOk ms rs n n' y m d = true) (hs : showB mo (K : Int) da m d = true) :
    fwT nm n n' ms rs cw zs l mo te (K : Int) da we wd y m d (N : Int) = .tuple #[.int .i64 0, .int .i64 3] ∨
    ∃ k : Nat, k + 1 ≤ N ∧ fwT nm n n' ms rs cw zs l mo te (K : Int) da we wd y m d (N : Int) = .tuple #[.int .i64 ((k + 1 : Nat) : Int), .int .i64 0] ∧ (∀ i, 1 ≤ i → i ≤ k + 1 → inB (datesS ms rs n n' i (y, m, d)).1 0 9999 = true) ∧
      showB mo ((nightsS zs l te we (k + 1) (K, da, wd)).1 : Int) (nightsS zs l te we (k + 1) (K, da, wd)).2.1 (datesS ms rs n n' (k + 1) (y, m, d)).2.1 (datesS ms rs n n' (k + 1) (y, m, d)).2.2 = false ∧
      showB mo ((nightsS zs l te we k (K, da, wd)).1 : Int) (nightsS zs l te we k (K, da, wd)).2.1 (datesS ms rs n n' k (y, m, d)).2.1 (datesS ms rs n n' k (y, m, d)).2.2 = true := by
  rw [fwT_0 (k := K) (N := N) (by rw [hv, hp]; rfl) (by rw [hd, inB_mk (by omega) (by omega)]; rfl) hs]
  unfold fwOut
  obtain ⟨f1, f2, f3, f4⟩ := fstB_is (stopB ms rs n n' zs l mo te we (K, da, wd) (y, m, d)) N 1
  generalize fstB (stopB ms rs n n' zs l mo te we (K, da, wd) (y, m, d)) N 1 = J at *
  cases hc : (decide (J ≤ N) && inB (datesS ms rs n n' J (y, m, d)).1 0 9999)
  · left; rfl
  · right
    rw [Bool.and_eq_true] at hc
    obtain ⟨c1, c2⟩ := hc
    have hJ : J ≤ N := of_decide_eq_true c1
    obtain ⟨k, rfl⟩ : ∃ k, J = k + 1 := ⟨J - 1, by omega⟩
    have g4 := f4 (by omega)
    have hgo : ∀ i, 1 ≤ i → i < k + 1 → inB (datesS ms rs n n' i (y, m, d)).1 0 9999 = true ∧ showB mo ((nightsS zs l te we i (K, da, wd)).1 : Int) (nightsS zs l te we i (K, da, wd)).2.1 (datesS ms rs n n' i (y, m, d)).2.1 (datesS ms rs n n' i (y, m, d)).2.2 = true := fun i h1 h2 => by
      have := f3 i h1 h2
      unfold stopB at this
      simpa using this
    refine ⟨k, by omega, rfl, fun i h1 h2 => ?_, ?_, ?_⟩
    · by_cases e : i = k + 1
      · subst e; exact c2
      · exact (hgo i h1 (by omega)).1
    · unfold stopB at g4
      rw [c2] at g4
      simpa using g4
    · by_cases e : k = 0
      · subst e; exact hs
      · exact (hgo k (by omega) (by omega)).2
end
end Go.Proofs.Ytmbdedkelckedaa
