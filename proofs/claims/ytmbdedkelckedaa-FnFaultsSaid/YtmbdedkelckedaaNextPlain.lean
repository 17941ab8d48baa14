/- Plain laws of faults: the next fault is the first of those that are told. No program. Conditions: the calendar is valid. -/
import Derived.Test.YtmbdedkelckedaaCore6
namespace Go.Proofs.Ytmbdedkelckedaa
open Go.RowKit
set_option linter.unusedVariables false
set_option linter.unusedSimpArgs false
/-- the faults of a year -/
def fYr (ms : List Mth) (rs : List Rul) (n n' : Nat) (zs : List Int) (l y : Nat) : List Flt := fY ms rs n' zs (placeY l n y) y n
/-- the first fault of f years from y on -/
def nxF (ms : List Mth) (rs : List Rul) (n n' : Nat) (zs : List Int) (l : Nat) : Nat → Nat → Option Flt
  | 0, _ => none
  | f + 1, y => match fYr ms rs n n' zs l y with
    | [] => nxF ms rs n n' zs l f (y + 1)
    | x :: _ => some x
def outF : Option Flt → Flt × Int
  | none => (f0, 3)
  | some x => (x, 0)
section
variable {ms : List Mth} {rs : List Rul} {n n' : Nat} {zs : List Int} {l : Nat}
theorem nxF_go {f y : Nat} (h : fYr ms rs n n' zs l y = []) : nxF ms rs n n' zs l (f + 1) y = nxF ms rs n n' zs l f (y + 1) := by rw [nxF, h]
theorem nxF_hit {f y : Nat} {x : Flt} {t : List Flt} (h : fYr ms rs n n' zs l y = x :: t) : nxF ms rs n n' zs l (f + 1) y = some x := by rw [nxF, h]
theorem nxF_cases : ∀ f y, ((∀ i, i < f → fYr ms rs n n' zs l (y + i) = []) ∧ nxF ms rs n n' zs l f y = none) ∨
    ∃ j x t, j < f ∧ (∀ i, i < j → fYr ms rs n n' zs l (y + i) = []) ∧ fYr ms rs n n' zs l (y + j) = x :: t ∧ nxF ms rs n n' zs l f y = some x
  | 0, y => .inl ⟨fun i h => absurd h (by omega), rfl⟩
  | f + 1, y => by
    cases h : fYr ms rs n n' zs l y with
    | nil =>
      rw [nxF_go h]
      rcases nxF_cases f (y + 1) with ⟨h1, h2⟩ | ⟨j, x, t, h1, h2, h3, h4⟩
      · refine .inl ⟨fun i hi => ?_, h2⟩
        cases i with
        | zero => exact h
        | succ i => rw [show y + (i + 1) = y + 1 + i by omega]; exact h1 i (by omega)
      · refine .inr ⟨j + 1, x, t, by omega, fun i hi => ?_, by rw [show y + (j + 1) = y + 1 + j by omega]; exact h3, h4⟩
        cases i with
        | zero => exact h
        | succ i => rw [show y + (i + 1) = y + 1 + i by omega]; exact h2 i (by omega)
    | cons x t => exact .inr ⟨0, x, t, by omega, fun i h => absurd h (by omega), h, nxF_hit h⟩
theorem allF_none {f : Nat} : ∀ j, (∀ i, i < j → fYr ms rs n n' zs l (f + i) = []) → allF ms rs n n' zs l f j = []
  | 0, _ => rfl
  | j + 1, h => by
    have h2 : fY ms rs n' zs (placeY l n (f + j)) (f + j) n = [] := h j (by omega)
    rw [allF, allF_none j (fun i hi => h i (by omega)), h2]; rfl
theorem allF_head {f j : Nat} {x : Flt} {t : List Flt} (h : ∀ i, i < j → fYr ms rs n n' zs l (f + i) = []) (hx : fYr ms rs n n' zs l (f + j) = x :: t) : ∀ d, ∃ t2, allF ms rs n n' zs l f (j + 1 + d) = x :: t2
  | 0 => by
    have h2 : fY ms rs n' zs (placeY l n (f + j)) (f + j) n = x :: t := hx
    exact ⟨t, by rw [show j + 1 + 0 = j + 1 by omega, allF, allF_none j h, h2]; rfl⟩
  | d + 1 => by
    obtain ⟨t2, ht⟩ := allF_head h hx d
    exact ⟨_, by rw [show j + 1 + (d + 1) = (j + 1 + d) + 1 by omega, allF, ht]; rfl⟩
theorem fY_mem {p y : Nat} : ∀ k x, x ∈ fY ms rs n' zs p y k → x.yr = (y : Int) ∧ 1 ≤ x.mo ∧ x.mo ≤ (k : Int) ∧ x.ri = dayK ms rs n' (y : Int) x.mo ∧ x.sh ≠ x.ri
  | 0, x, h => by simp [fY] at h
  | k + 1, x, h => by
    by_cases e : zs.getD (p + k) 0 = dayK ms rs n' (y : Int) ((k : Int) + 1)
    · rw [fY_same e] at h
      obtain ⟨a, b, c, d⟩ := fY_mem k x h
      exact ⟨a, b, by omega, d⟩
    · rw [fY_more e] at h
      rcases List.mem_append.1 h with h | h
      · obtain ⟨a, b, c, d⟩ := fY_mem k x h
        exact ⟨a, b, by omega, d⟩
      · rw [List.mem_singleton] at h
        subst h
        exact ⟨rfl, by show (1 : Int) ≤ (k : Int) + 1; omega, by show (k : Int) + 1 ≤ _; omega, rfl, e⟩
/-- what the law asks of the next fault and of the faults of ten years -/
theorem next_cases {F N : Nat} (hN : 10 ≤ N) : ((nxF ms rs n n' zs l N F = none ∧ allF ms rs n n' zs l F 10 = []) ∨
    ∃ (j : Nat) (x : Flt), nxF ms rs n n' zs l N F = some x ∧ j < N ∧ x.yr = ((F + j : Nat) : Int) ∧ 1 ≤ x.mo ∧ x.mo ≤ (n : Int) ∧ x.ri = dayK ms rs n' x.yr x.mo ∧ x.sh ≠ x.ri ∧
      ((j < 10 ∧ ∃ t, allF ms rs n n' zs l F 10 = x :: t) ∨ (10 ≤ j ∧ allF ms rs n n' zs l F 10 = []))) := by
  rcases nxF_cases (ms := ms) (rs := rs) (n := n) (n' := n') (zs := zs) (l := l) N F with ⟨h1, h2⟩ | ⟨j, x, t, h1, h2, h3, h4⟩
  · exact .inl ⟨h2, allF_none 10 (fun i hi => h1 i (by omega))⟩
  · have hm : x ∈ fY ms rs n' zs (placeY l n (F + j)) (F + j) n := by
      show x ∈ fYr ms rs n n' zs l (F + j)
      rw [h3]; exact List.mem_cons_self
    obtain ⟨a, b, c, d, e⟩ := fY_mem n x hm
    refine .inr ⟨j, x, h4, h1, a, b, c, by rw [a]; exact d, e, ?_⟩
    by_cases hj : j < 10
    · obtain ⟨t2, ht⟩ := allF_head h2 h3 (9 - j)
      rw [show j + 1 + (9 - j) = 10 by omega] at ht
      exact .inl ⟨hj, t2, ht⟩
    · exact .inr ⟨by omega, allF_none 10 (fun i hi => h2 i (by omega))⟩
end
end Go.Proofs.Ytmbdedkelckedaa
