/- The days of new moon, in plain words: from one to the next there is a period, rounded down or up; the first one is the next one. No conditions but that the moon work is valid. -/
import Derived.Test.YtanfccdeacohfaaNews
namespace Go.Proofs.Ytanfccdeacohfaa
open Go.RowKit
set_option linter.unusedVariables false
set_option linter.unusedSimpArgs false
/-- y lies a period behind x, rounded down or up -/
def GapOk (n d x y : Int) : Prop := y - x = n / d ∨ (y - x = n / d + 1 ∧ d ≠ 1)
theorem gap_of {n d r : Int} {t : Nat} (hd : 1 ≤ d) (hr0 : 0 ≤ r) (hr : r < d) (h1 : n ≤ r + ((t : Int) + 1) * d) (h2 : r + ((t : Int) + 1) * d < n + d) : (t : Int) + 1 = n / d ∨ ((t : Int) + 1 = n / d + 1 ∧ d ≠ 1) := by
  have e := Int.mul_ediv_add_emod n d
  have s0 := Int.emod_nonneg n (show d ≠ 0 by omega)
  have s1 := Int.emod_lt_of_pos n (show 0 < d by omega)
  generalize n / d = q at *
  generalize n % d = s at *
  generalize (t : Int) + 1 = g at *
  have e2 : d * q = q * d := Int.mul_comm _ _
  have lo : q ≤ g := by
    rcases Int.lt_or_le g q with hlt | hle
    · have := Int.mul_le_mul_of_nonneg_right (show g ≤ q - 1 by omega) (show 0 ≤ d by omega)
      rw [Int.sub_mul, Int.one_mul] at this
      omega
    · exact hle
  have hi : g ≤ q + 1 := by
    rcases Int.lt_or_le (q + 1) g with hlt | hle
    · have := Int.mul_le_mul_of_nonneg_right (show q + 2 ≤ g by omega) (show 0 ≤ d by omega)
      rw [Int.add_mul] at this
      omega
    · exact hle
  rcases Int.lt_or_le q g with hlt | hle
  · have eg : g = q + 1 := by omega
    refine .inr ⟨eg, fun hd1 => ?_⟩
    subst hd1
    subst eg
    omega
  · exact .inl (by omega)
theorem age_after {n d z x : Int} (hv : vMoon n d z = true) (h : ageI n d z x < d) : ageI n d z (x + 1) = ageI n d z x + d := by
  have hs := age_step (x := x) hv
  have hm := vMoon_yes hv
  have hb := ageI_bd (day := x) hv
  rw [if_pos (by omega)] at hs
  exact hs
theorem news_all {n d z a : Int} (hv : vMoon n d z = true) : ∀ k : Nat, (∀ i, i + 1 < (newsK n d z a k).length → GapOk n d ((newsK n d z a k).getD i 0) ((newsK n d z a k).getD (i + 1) 0)) ∧
    ((newsK n d z a k = [] ∧ Old n d z a k) ∨ ∃ (L' : List Int) (j : Nat), newsK n d z a k = L' ++ [a + j] ∧ j < k ∧ ageI n d z (a + j) < d ∧ Old n d z (a + j + 1) (k - (j + 1)))
  | 0 => ⟨fun i hi => absurd hi (by simp [newsK]), .inl ⟨rfl, Old.none_⟩⟩
  | k + 1 => by
    obtain ⟨hg, hl⟩ := news_all (n := n) (d := d) (z := z) (a := a) hv k
    have hm := vMoon_yes hv
    simp only [newsK]
    by_cases hk : ageI n d z (a + (k : Int)) < d
    · rw [if_pos hk]
      rcases hl with ⟨h0, ho⟩ | ⟨L', j, he, hj, ha, ho⟩
      · rw [h0]
        refine ⟨fun i hi => absurd hi (by simp), .inr ⟨[], k, rfl, by omega, hk, ?_⟩⟩
        rw [Nat.sub_self]; exact Old.none_
      · refine ⟨fun i hi => ?_, .inr ⟨_, k, rfl, by omega, hk, by rw [Nat.sub_self]; exact Old.none_⟩⟩
        have hlen : (newsK n d z a k).length = L'.length + 1 := by rw [he]; simp
        by_cases hi2 : i + 1 < (newsK n d z a k).length
        · have := hg i hi2
          simp only [List.getD_eq_getElem?_getD] at this ⊢
          rw [List.getElem?_append_left (by omega), List.getElem?_append_left (by omega)]
          exact this
        · have hi3 : i = L'.length := by simp at hi; omega
          subst hi3
          have e1 : (newsK n d z a k ++ [a + (k : Int)]).getD L'.length 0 = a + j := by rw [he]; simp [List.getD_eq_getElem?_getD]
          have e2 : (newsK n d z a k ++ [a + (k : Int)]).getD (L'.length + 1) 0 = a + k := by rw [he]; simp [List.getD_eq_getElem?_getD]
          rw [e1, e2]
          have hr := ageI_bd (day := a + (j : Int)) hv
          have hn1 := age_after hv ha
          -- k is not the day behind j
          have hkj : j + 1 < k := by
            rcases Nat.lt_or_ge (j + 1) k with h | h
            · exact h
            · have e : (a + (k : Int)) = a + j + 1 := by omega
              rw [e, hn1] at hk; omega
          obtain ⟨t, ht⟩ : ∃ t : Nat, k = j + 1 + (t + 1) := ⟨k - j - 2, by omega⟩
          have hot := (ho t (by omega)).2
          rw [hn1] at hot
          have hs := age_step (x := a + j + 1 + (t : Int)) hv
          have e3 : a + j + 1 + (t : Int) + 1 = a + k := by omega
          rw [e3] at hs
          have hb := ageI_bd (day := a + (k : Int)) hv
          have e4 : ((t : Int) + 1 + 1) * d = (t : Int) * d + d + d := by rw [Int.add_mul, Int.add_mul, Int.one_mul]
          have hold := (ho t (by omega)).1
          have hgap := gap_of (n := n) (d := d) (r := ageI n d z (a + j)) (t := t + 1) (by omega) hr.1 ha (by push_cast; rw [e4]; split at hs <;> omega) (by push_cast; rw [e4]; split at hs <;> omega)
          have e5 : a + (k : Int) - (a + j) = ((t + 1 : Nat) : Int) + 1 := by omega
          unfold GapOk
          rw [e5]
          exact hgap
    · rw [if_neg hk]
      refine ⟨hg, ?_⟩
      rcases hl with ⟨h0, ho⟩ | ⟨L', j, he, hj, ha, ho⟩
      · exact .inl ⟨h0, ho.more hv (by omega)⟩
      · refine .inr ⟨L', j, he, by omega, ha, ?_⟩
        have e : k + 1 - (j + 1) = (k - (j + 1)) + 1 := by omega
        rw [e]
        refine ho.more hv ?_
        have e2 : a + j + 1 + ((k - (j + 1) : Nat) : Int) = a + k := by omega
        rw [e2]; omega
theorem next_some {n d z a : Int} (hv : vMoon n d z = true) : ∃ k, IsNext n d z a k := by
  apply Classical.byContradiction
  intro hno
  have hall : ∀ k, Old n d z a k := by
    intro k
    induction k with
    | zero => exact Old.none_
    | succ k ih =>
      refine ih.more hv ?_
      rcases Int.lt_or_le (ageI n d z (a + k)) d with h | h
      · exact absurd ⟨k, ih, h⟩ hno
      · exact h
  have := (hall 1002).bound hv
  omega
theorem news_none {n d z a : Int} {k : Nat} (hv : vMoon n d z = true) (h : Old n d z a k) : k ≤ nextI n d z a := by
  obtain ⟨j, hj⟩ := next_some (a := a) hv
  rw [nextI_of hj]
  rcases Nat.lt_or_ge j k with hlt | hge
  · have := (h j hlt).1; have := hj.2; omega
  · exact hge
theorem news_head {n d z a : Int} (hv : vMoon n d z = true) : ∀ k : Nat, (newsK n d z a k = [] ∧ Old n d z a k) ∨ (0 < (newsK n d z a k).length ∧ (newsK n d z a k).getD 0 0 = a + nextI n d z a)
  | 0 => .inl ⟨rfl, Old.none_⟩
  | k + 1 => by
    have hl := news_head (n := n) (d := d) (z := z) (a := a) hv k
    simp only [newsK]
    by_cases hk : ageI n d z (a + (k : Int)) < d
    · rw [if_pos hk]
      rcases hl with ⟨h0, ho⟩ | ⟨h0, he⟩
      · rw [h0]
        have hn : IsNext n d z a k := ⟨ho, hk⟩
        exact .inr ⟨by simp, by rw [nextI_of hn]; simp⟩
      · refine .inr ⟨by simp, ?_⟩
        rw [← he]
        simp only [List.getD_eq_getElem?_getD]
        rw [List.getElem?_append_left h0]
    · rw [if_neg hk]
      rcases hl with ⟨h0, ho⟩ | h0
      · exact .inl ⟨h0, ho.more hv (by omega)⟩
      · exact .inr h0
end Go.Proofs.Ytanfccdeacohfaa
