/- The number of a day of a calendar, its next day, and the cycle of leap years. Plain: no program. Conditions: the calendar is valid. -/
import Derived.Test.YtmbdedkelckedaaCore5
import Derived.Test.YtmbdedkelckedaaCore6
namespace Go.Proofs.Ytmbdedkelckedaa
open Go.RowKit
set_option linter.unusedVariables false
set_option linter.unusedSimpArgs false
/-- the days of the first k months of a year -/
def monK (ms : List Mth) (rs : List Rul) (n' : Nat) (y : Int) : Nat → Int
  | 0 => 0
  | k + 1 => monK ms rs n' y k + dayK ms rs n' y ((k : Int) + 1)
def yrK (ms : List Mth) (rs : List Rul) (n n' : Nat) (Y : Nat) : Int := monK ms rs n' (Y : Int) n
/-- the days of the first Y years -/
def befK (ms : List Mth) (rs : List Rul) (n n' : Nat) : Nat → Int
  | 0 => 0
  | Y + 1 => befK ms rs n n' Y + yrK ms rs n n' Y
/-- the number of a day -/
def noK (ms : List Mth) (rs : List Rul) (n n' : Nat) (s : Int × Int × Int) : Int := befK ms rs n n' s.1.toNat + monK ms rs n' s.1 (s.2.1 - 1).toNat + s.2.2 - 1
section
variable {nm : ByteArray} {n n' : Nat} {ms : List Mth} {rs : List Rul} {we : Int}
theorem monK_bd (hv : vCal nm n n' ms rs we = true) (y : Int) : ∀ k, k ≤ n → (k : Int) ≤ monK ms rs n' y k ∧ monK ms rs n' y k ≤ 60 * (k : Int)
  | 0, _ => ⟨by simp [monK], by simp [monK]⟩
  | k + 1, h => by
    have ih := monK_bd hv y k (by omega)
    have hd := dayK_bd (y := y) (m := (k : Int) + 1) hv (by omega) (by omega)
    rw [monK]; push_cast; omega
theorem monK_mono (hv : vCal nm n n' ms rs we = true) (y : Int) {k : Nat} : ∀ d, k + d ≤ n → monK ms rs n' y k ≤ monK ms rs n' y (k + d)
  | 0, _ => Int.le_refl _
  | d + 1, h => by
    have ih := monK_mono hv y (k := k) d (by omega)
    have hd := dayK_bd (y := y) (m := ((k + d : Nat) : Int) + 1) hv (by omega) (by omega)
    rw [show k + (d + 1) = (k + d) + 1 by omega, monK]; omega
theorem yrK_bd (hv : vCal nm n n' ms rs we = true) (Y : Nat) : 1 ≤ yrK ms rs n n' Y ∧ yrK ms rs n n' Y ≤ 1200 := by
  obtain ⟨-, -, -, -, ⟨h1, h2⟩, -, -⟩ := vCal_yes hv
  have := monK_bd hv (Y : Int) n (Nat.le_refl _)
  unfold yrK; omega
theorem befK_bd (hv : vCal nm n n' ms rs we = true) : ∀ Y : Nat, (Y : Int) ≤ befK ms rs n n' Y ∧ befK ms rs n n' Y ≤ 1200 * (Y : Int)
  | 0 => ⟨by simp [befK], by simp [befK]⟩
  | Y + 1 => by
    have ih := befK_bd hv Y
    have := yrK_bd hv Y
    rw [befK]; push_cast; omega
theorem befK_mono (hv : vCal nm n n' ms rs we = true) {Y : Nat} : ∀ d, befK ms rs n n' Y ≤ befK ms rs n n' (Y + d)
  | 0 => Int.le_refl _
  | d + 1 => by
    have ih := befK_mono hv (Y := Y) d
    have := yrK_bd hv (Y + d)
    rw [show Y + (d + 1) = (Y + d) + 1 by omega, befK]; omega
theorem befK_le (hv : vCal nm n n' ms rs we = true) {Y Z : Nat} (h : Y ≤ Z) : befK ms rs n n' Y ≤ befK ms rs n n' Z := by
  obtain ⟨d, rfl⟩ := Nat.exists_eq_add_of_le h
  exact befK_mono hv d
theorem monK_le (hv : vCal nm n n' ms rs we = true) (y : Int) {k j : Nat} (h : k ≤ j) (hj : j ≤ n) : monK ms rs n' y k ≤ monK ms rs n' y j := by
  obtain ⟨d, rfl⟩ := Nat.exists_eq_add_of_le h
  exact monK_mono hv y d hj
/-- a day in parts -/
theorem noK_k (Y k : Nat) (d : Int) : noK ms rs n n' ((Y : Int), (k : Int) + 1, d) = befK ms rs n n' Y + monK ms rs n' (Y : Int) k + d - 1 := by
  unfold noK
  rw [show ((Y : Int), (k : Int) + 1, d).1.toNat = Y from Int.toNat_natCast Y, show (((Y : Int), (k : Int) + 1, d).2.1 - 1).toNat = k by show ((k : Int) + 1 - 1).toNat = k; omega]
theorem noK_next (hv : vCal nm n n' ms rs we = true) {y m d : Int} (h : dOk ms rs n n' y m d = true) : noK ms rs n n' (nextS ms rs n n' (y, m, d)) = noK ms rs n n' (y, m, d) + 1 := by
  obtain ⟨⟨y0, y1⟩, ⟨m1, m2⟩, d1, d2⟩ := dOk_yes h
  obtain ⟨Y, rfl⟩ := Int.eq_ofNat_of_zero_le y0
  obtain ⟨k, rfl, hk⟩ := to_k m1 m2
  rw [noK_k]
  show noK ms rs n n' (nextY n (dayK ms rs n' (Y : Int) ((k : Int) + 1)) (Y : Int) ((k : Int) + 1) d, nextM n (dayK ms rs n' (Y : Int) ((k : Int) + 1)) ((k : Int) + 1) d, nextD (dayK ms rs n' (Y : Int) ((k : Int) + 1)) d) = _
  unfold nextY nextM nextD
  by_cases h1 : dayK ms rs n' (Y : Int) ((k : Int) + 1) < d + 1
  · by_cases h2 : (n : Int) < (k : Int) + 1 + 1
    · simp only [if_pos h1, if_pos h2]
      have e : n = k + 1 := by omega
      have := noK_k (ms := ms) (rs := rs) (n := n) (n' := n') (Y + 1) 0 1
      have e2 : befK ms rs n n' (Y + 1) = befK ms rs n n' Y + (monK ms rs n' (Y : Int) k + dayK ms rs n' (Y : Int) ((k : Int) + 1)) := by rw [befK, yrK, show monK ms rs n' (Y : Int) n = monK ms rs n' (Y : Int) (k + 1) by rw [e], monK]
      have e3 : monK ms rs n' ((Y + 1 : Nat) : Int) 0 = 0 := rfl
      rw [e2, e3] at this
      push_cast at this
      (try rw [Int.zero_add] at this)
      rw [this]; omega
    · simp only [if_pos h1, if_neg h2]
      have := noK_k (ms := ms) (rs := rs) (n := n) (n' := n') Y (k + 1) 1
      rw [monK] at this
      push_cast at this
      rw [this]; omega
  · simp only [if_neg h1]
    rw [noK_k]; omega
theorem noK_dates (hv : vCal nm n n' ms rs we = true) {s : Int × Int × Int} (h : dOk ms rs n n' s.1 s.2.1 s.2.2 = true) : ∀ j, (∀ i, 1 ≤ i → i ≤ j → inB (datesS ms rs n n' i s).1 0 9999 = true) →
    dOk ms rs n n' (datesS ms rs n n' j s).1 (datesS ms rs n n' j s).2.1 (datesS ms rs n n' j s).2.2 = true ∧ noK ms rs n n' (datesS ms rs n n' j s) = noK ms rs n n' s + (j : Int)
  | 0, _ => ⟨h, by simp [datesS]⟩
  | j + 1, hy => by
    obtain ⟨i1, i2⟩ := noK_dates hv h j (fun i h1 h2 => hy i h1 (by omega))
    have h3 := hy (j + 1) (by omega) (Nat.le_refl _)
    rw [datesS] at h3 ⊢
    generalize datesS ms rs n n' j s = t at *
    obtain ⟨y, m, d⟩ := t
    refine ⟨next_ok hv i1 h3, ?_⟩
    rw [noK_next hv i1, i2]; push_cast; omega
/-! ## The cycle -/
theorem lcm_dvd {x e : Int} (h1 : 1 ≤ x) : x ∣ x / (Int.gcd x e : Int) * e ∧ e ∣ x / (Int.gcd x e : Int) * e := by
  have hg : (0 : Int) < (Int.gcd x e : Int) := by
    have : 0 < Int.gcd x e := Int.gcd_pos_of_ne_zero_left e (by omega)
    omega
  obtain ⟨a, ha⟩ := Int.gcd_dvd_left x e
  obtain ⟨b, hb⟩ := Int.gcd_dvd_right x e
  generalize (Int.gcd x e : Int) = G at *
  subst ha hb
  rw [Int.mul_ediv_cancel_left _ (by omega)]
  exact ⟨⟨b, by rw [Int.mul_comm G a, Int.mul_assoc]⟩, ⟨a, by rw [Int.mul_comm a]⟩⟩
theorem cycK_dvd : ∀ k, (∀ j, j < k → 1 ≤ (rs.getD j r0).ev ∧ (rs.getD j r0).ev ≤ 1000) → cycK rs k ≤ 2000 → ∀ j, j < k → (rs.getD j r0).ev ∣ cycK rs k
  | 0, _, _, j, hj => absurd hj (by omega)
  | k + 1, he, hc, j, hj => by
    have h2 : cycK rs k ≤ 2000 := by
      refine Decidable.byContradiction fun h => ?_
      rw [cycK_stop h] at hc; exact h hc
    have hb := cycK_bd rs k (fun j hj => he j (by omega))
    have hl := lcm_dvd (e := (rs.getD k r0).ev) hb.1
    rw [cycK_go h2]
    by_cases e : j = k
    · subst e; exact hl.2
    · exact Int.dvd_trans (cycK_dvd k (fun j hj => he j (by omega)) h2 j (by omega)) hl.1
theorem leapK_add {y C : Int} : ∀ k, (∀ j, j < k → (rs.getD j r0).ev ∣ C) → leapK rs (y + C) k = leapK rs y k
  | 0, _ => rfl
  | k + 1, h => by
    have ih := leapK_add (y := y) (C := C) k (fun j hj => h j (by omega))
    obtain ⟨q, hq⟩ := h k (by omega)
    have e : (y + C) % (rs.getD k r0).ev = y % (rs.getD k r0).ev := by rw [hq]; exact Int.add_mul_emod_self_left _ _ _
    rw [leapK, leapK, e, ih]
theorem vCal_dvd (hv : vCal nm n n' ms rs we = true) : ∀ j, j < n' → (rs.getD j r0).ev ∣ cycK rs n' := cycK_dvd n' (vCal_evs hv) (vCal_yes hv).2.1
theorem monK_add (hv : vCal nm n n' ms rs we = true) (y : Int) : ∀ k, monK ms rs n' (y + cycK rs n') k = monK ms rs n' y k
  | 0 => rfl
  | k + 1 => by
    rw [monK, monK, monK_add hv y k]
    unfold dayK
    rw [leapK_add n' (vCal_dvd hv)]
theorem befK_add (hv : vCal nm n n' ms rs we = true) {C : Nat} (hC : cycK rs n' = (C : Int)) : ∀ r, befK ms rs n n' (C + r) = befK ms rs n n' C + befK ms rs n n' r
  | 0 => by simp [befK]
  | r + 1 => by
    have e : yrK ms rs n n' (C + r) = yrK ms rs n n' r := by
      unfold yrK
      rw [← monK_add hv (r : Int) n, hC, show (r : Int) + (C : Int) = ((C + r : Nat) : Int) by push_cast; omega]
    rw [show C + (r + 1) = (C + r) + 1 by omega, befK, befK_add hv hC r, e, befK]; omega
theorem befK_mul (hv : vCal nm n n' ms rs we = true) {C : Nat} (hC : cycK rs n' = (C : Int)) : ∀ q, befK ms rs n n' (C * q) = (q : Int) * befK ms rs n n' C
  | 0 => by simp [befK]
  | q + 1 => by
    rw [show C * (q + 1) = C + C * q by rw [Nat.mul_add, Nat.mul_one, Nat.add_comm], befK_add hv hC, befK_mul hv hC q]
    push_cast
    rw [Int.add_mul, Int.one_mul, Int.add_comm]
/-- a day of a year lies behind the years ahead of it and ahead of the next one -/
theorem noK_in (hv : vCal nm n n' ms rs we = true) {Y k : Nat} {d : Int} (hk : k < n) (h1 : 1 ≤ d) (h2 : d ≤ dayK ms rs n' (Y : Int) ((k : Int) + 1)) :
    befK ms rs n n' Y ≤ noK ms rs n n' ((Y : Int), (k : Int) + 1, d) ∧ noK ms rs n n' ((Y : Int), (k : Int) + 1, d) < befK ms rs n n' (Y + 1) := by
  have hm := monK_bd hv (Y : Int) k (by omega)
  have hl := monK_le hv (Y : Int) (show k + 1 ≤ n by omega) (Nat.le_refl n)
  rw [noK_k, befK, yrK]
  rw [monK] at hl
  omega
end
end Go.Proofs.Ytmbdedkelckedaa
