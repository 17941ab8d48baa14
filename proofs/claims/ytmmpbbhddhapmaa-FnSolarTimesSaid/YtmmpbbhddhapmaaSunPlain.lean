/- Plain laws of the equation of time: the mean time takes the solar time back; the equation lies between the least and the greatest step; on day 0 it is the first step. No conditions. -/
import Derived.Test.YtmmpbbhddhapmaaSunTime
namespace Go.Proofs.Ytmmpbbhddhapmaa
set_option linter.unusedVariables false
theorem nearUp1 {D r : Int} (hD : 0 ≤ D) (h0 : 0 ≤ r) (h1 : r ≤ 364) : 0 ≤ near (D * r) 365 ∧ near (D * r) 365 ≤ D := by
  have k1 : 0 ≤ D * r := Int.mul_nonneg hD h0
  have k2 : D * r ≤ D * 364 := Int.mul_le_mul_of_nonneg_left h1 hD
  unfold near
  generalize D * r = z at *
  omega
theorem nearDn1 {D r : Int} (hD : D ≤ 0) (h0 : 0 ≤ r) (h1 : r ≤ 364) : D ≤ near (D * r) 365 ∧ near (D * r) 365 ≤ 0 := by
  have k1 : 0 ≤ (-D) * r := Int.mul_nonneg (by omega) h0
  have k2 : (-D) * r ≤ (-D) * 364 := Int.mul_le_mul_of_nonneg_left h1 (by omega)
  rw [Int.neg_mul] at k1 k2
  unfold near
  generalize D * r = z at *
  omega
/-- the least and the greatest of the first k steps, each beginning with a -/
def lowI (zs : List Int) (a : Int) : Nat → Int
  | 0 => a
  | k + 1 => if lowI zs a k ≤ zs.getD k 0 then lowI zs a k else zs.getD k 0
def highI (zs : List Int) (a : Int) : Nat → Int
  | 0 => a
  | k + 1 => if zs.getD k 0 ≤ highI zs a k then highI zs a k else zs.getD k 0
theorem lowI_le (zs : List Int) (a : Int) : ∀ k j, j < k → lowI zs a k ≤ zs.getD j 0
  | 0, j, h => by omega
  | k + 1, j, h => by
    simp only [lowI]
    by_cases e : j = k
    · subst e; split <;> omega
    · have := lowI_le zs a k j (by omega)
      split <;> omega
theorem highI_ge (zs : List Int) (a : Int) : ∀ k j, j < k → zs.getD j 0 ≤ highI zs a k
  | 0, j, h => by omega
  | k + 1, j, h => by
    simp only [highI]
    by_cases e : j = k
    · subst e; split <;> omega
    · have := highI_ge zs a k j (by omega)
      split <;> omega
theorem lowI_bd {zs : List Int} {a : Int} (h : ∀ j, j < zs.length → -1200 ≤ zs.getD j 0 ∧ zs.getD j 0 ≤ 1200) (ha : -1200 ≤ a ∧ a ≤ 1200) : ∀ k, k ≤ zs.length → -1200 ≤ lowI zs a k ∧ lowI zs a k ≤ 1200
  | 0, _ => ha
  | k + 1, hk => by
    have := lowI_bd h ha k (by omega)
    have := h k (by omega)
    simp only [lowI]; split <;> omega
theorem eqI_mid {zs : List Int} {n d : Nat} (a : Int) (hv : vSun zs = true) (hl : zs.length = n) (hd : d ≤ 364) : lowI zs a n ≤ eqI zs n d ∧ eqI zs n d ≤ highI zs a n := by
  obtain ⟨hb, h1, h2⟩ := vSun_yes hv
  have hi : d * n / 365 < n := by
    rw [Nat.div_lt_iff_lt_mul (by omega)]
    calc d * n ≤ 364 * n := Nat.mul_le_mul_right n hd
      _ < n * 365 := by omega
  have hj : (d * n / 365 + 1) % n < n := Nat.mod_lt _ (by omega)
  have l1 := lowI_le zs a n _ hi
  have l2 := lowI_le zs a n _ hj
  have g1 := highI_ge zs a n _ hi
  have g2 := highI_ge zs a n _ hj
  have hr : ((d * n % 365 : Nat) : Int) ≤ 364 := by omega
  have hr0 : (0 : Int) ≤ ((d * n % 365 : Nat) : Int) := Int.natCast_nonneg _
  unfold eqI
  generalize zs.getD (d * n / 365) 0 = x at *
  generalize zs.getD ((d * n / 365 + 1) % n) 0 = y at *
  generalize ((d * n % 365 : Nat) : Int) = r at *
  rcases Int.le_total 0 (y - x) with h | h
  · have := nearUp1 h hr0 hr; omega
  · have := nearDn1 h hr0 hr; omega
theorem eqI_zero (zs : List Int) (n : Nat) : eqI zs n 0 = zs.getD 0 0 := by
  simp [eqI, near]
theorem timeI_back {zs : List Int} {n : Nat} {d s : Int} (h0 : 0 ≤ s) (h1 : s ≤ 86399) : timeI zs n d (timeI zs n d s 1) (-1) = s := by
  unfold timeI
  generalize eqI zs n d.toNat = E
  omega
theorem timeI_in (zs : List Int) (n : Nat) (d s sg : Int) : inB (timeI zs n d s sg) 0 86399 = true := by
  unfold timeI
  generalize s + sg * eqI zs n d.toNat = E
  simp [inB]; omega
end Go.Proofs.Ytmmpbbhddhapmaa
