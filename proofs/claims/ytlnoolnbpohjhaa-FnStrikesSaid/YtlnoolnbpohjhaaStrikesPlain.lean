/- Plain laws of strikes: two parts are one; a turn has all blows; the place behind some strikes is a notch; the first strike of some blows. No conditions. -/
import Derived.Test.YtlnoolnbpohjhaaStrikeMany
import Derived.Test.YtlnoolnbpohjhaaNotches
import Derived.Test.YtlnoolnbpohjhaaLifts
import Derived.Test.YtlnoolnbpohjhaaNotchAt
namespace Go.Proofs.Ytlnoolnbpohjhaa
set_option linter.unusedVariables false
theorem many_split (zs : List Int) (n x p : Nat) : ∀ r, manyL zs n x (p + r) = manyL zs n x p ++ manyL zs n ((x + p) % n) r
  | 0 => by simp [manyL]
  | r + 1 => by
    rw [← Nat.add_assoc, manyL_succ, many_split zs n x p r, manyL_succ, List.append_assoc]
    have e : (x + (p + r)) % n = ((x + p) % n + r) % n := by rw [Nat.mod_add_mod, Nat.add_assoc]
    rw [e]
theorem next_split (n x p r : Nat) : ((x + p) % n + r) % n = (x + (p + r)) % n := by rw [Nat.mod_add_mod, Nat.add_assoc]
theorem turn_back {n x : Nat} (h : x < n) : (x + n) % n = x := by rw [Nat.add_mod_right, Nat.mod_eq_of_lt h]
/-- the blows of the first k strikes, round after round -/
def cyc (zs : List Int) (n : Nat) : Nat → Int
  | 0 => 0
  | k + 1 => cyc zs n k + zs.getD (k % n) 0
theorem cyc_low (zs : List Int) (n : Nat) : ∀ k, k ≤ n → cyc zs n k = sumK zs k
  | 0, _ => rfl
  | k + 1, h => by
    have := cyc_low zs n k (by omega)
    simp only [cyc, sumK, this, Nat.mod_eq_of_lt (show k < n by omega)]
theorem cyc_turn (zs : List Int) (n : Nat) : ∀ k, cyc zs n (n + k) = sumK zs n + cyc zs n k
  | 0 => by simp [cyc, cyc_low zs n n (Nat.le_refl _)]
  | k + 1 => by
    have := cyc_turn zs n k
    rw [← Nat.add_assoc]
    simp only [cyc, this, Nat.add_mod_left]
    omega
theorem cyc_turns (zs : List Int) (n : Nat) (r : Nat) : ∀ q, cyc zs n (n * q + r) = sumK zs n * (q : Int) + cyc zs n r
  | 0 => by simp
  | q + 1 => by
    have e : n * (q + 1) + r = n + (n * q + r) := by rw [Nat.mul_succ]; omega
    have e2 : sumK zs n * ((q + 1 : Nat) : Int) = sumK zs n * (q : Int) + sumK zs n := by push_cast; rw [Int.mul_add, Int.mul_one]
    rw [e, cyc_turn, cyc_turns zs n r q, e2]; omega
theorem cyc_mod (zs : List Int) (n k : Nat) (hn : 1 ≤ n) : cyc zs n k = sumK zs n * ((k / n : Nat) : Int) + sumK zs (k % n) := by
  have h := cyc_turns zs n (k % n) (k / n)
  rw [Nat.div_add_mod, cyc_low zs n (k % n) (Nat.le_of_lt (Nat.mod_lt _ (by omega)))] at h
  exact h
theorem sum_many (zs : List Int) (n x m : Nat) : ∀ k, k ≤ m → sumK (manyL zs n x m) k = cyc zs n (x + k) - cyc zs n x
  | 0, _ => by simp [sumK]
  | k + 1, h => by
    rw [← Nat.add_assoc]
    simp only [sumK, cyc, sum_many zs n x m k (by omega), manyL_getD (show k < m by omega)]
    omega
theorem sum_turn (zs : List Int) (n x : Nat) (hx : x < n) : sumK (manyL zs n x n) n = sumK zs n := by
  rw [sum_many zs n x n n (Nat.le_refl _), Nat.add_comm x n, cyc_turn]; omega
theorem place_at {zs : List Int} {n x m : Nat} (hv : vWheel zs = true) (hl : zs.length = n) (hx : x < n) : (sumK zs x + sumK (manyL zs n x m) m).tmod (sumK zs n) = sumK zs ((x + m) % n) := by
  obtain ⟨h1, h2, h3⟩ := vWheel_yes hv
  have hj : (x + m) % n < n := Nat.mod_lt _ (by omega)
  have b1 := sumK_bd h1 ((x + m) % n) (by omega)
  have b2 := sumK_lt h1 n ((x + m) % n) hj (by omega)
  have e : sumK zs x + sumK (manyL zs n x m) m = sumK zs n * (((x + m) / n : Nat) : Int) + sumK zs ((x + m) % n) := by
    rw [sum_many zs n x m m (Nat.le_refl _), ← cyc_low zs n x (by omega), ← cyc_mod zs n (x + m) (by omega)]; omega
  have p0 : 0 ≤ sumK zs n * (((x + m) / n : Nat) : Int) := Int.mul_nonneg (by omega) (Int.natCast_nonneg _)
  rw [e, Int.tmod_eq_emod_of_nonneg (by omega), Int.add_comm, Int.add_mul_emod_self_left, Int.emod_eq_of_lt (by omega) b2]
theorem notch_first {zs : List Int} {n j : Nat} (hv : vWheel zs = true) (hl : zs.length = n) (hj : j < n) : IsFirst (notchK zs n) (sumK zs j) j := by
  refine ⟨by rw [notchK_len]; exact hj, notchK_getD zs n j hj, fun i hi => ?_⟩
  have := notch_rises hl hv i j hi hj
  rw [notchK_getD zs n j hj] at this
  omega
theorem notchAt_sum {zs : List Int} {n j : Nat} (hv : vWheel zs = true) (hl : zs.length = n) (hj : j < n) : naT zs n (sumK zs j) = .tuple #[.int .i64 (j : Int), .int .i64 0] := by
  obtain ⟨h1, h2, h3⟩ := vWheel_yes hv
  have b1 := sumK_bd h1 j (by omega)
  have b2 := sumK_lt h1 n j hj (by omega)
  rw [na_ok hv (by simp [inB]; omega)]
  exact firstT_of (notch_first hv hl hj)
/-- a bound on the sum of strikes -/
theorem sum_bd {zs : List Int} {n x m : Nat} (hv : vWheel zs = true) (hl : zs.length = n) : ∀ k, k ≤ m → 0 ≤ sumK (manyL zs n x m) k ∧ sumK (manyL zs n x m) k ≤ 12 * (k : Int)
  | 0, _ => by simp [sumK]
  | k + 1, h => by
    obtain ⟨h1, h2, h3⟩ := vWheel_yes hv
    have hk := sum_bd hv hl (x := x) (m := m) k (by omega)
    have hj : (x + k) % n < n := Nat.mod_lt _ (by omega)
    have := h1 ((x + k) % n) (by omega)
    simp only [sumK, manyL_getD (show k < m by omega)]
    omega
theorem sm_cases {zs : List Int} {m : Nat} (x y : Int) (hl : zs.length = m) : (∃ cd : Int, smC zs m x y = cd ∧ (cd == 0) = false) ∨
    (∃ a N : Nat, vWheel zs = true ∧ x = (a : Int) ∧ y = (N : Int) ∧ a < m ∧ 1 ≤ m ∧ m ≤ 24 ∧ N ≤ 500 ∧ smL zs m x y = manyL zs m a N ∧ smN zs m x y = (((a + N) % m : Nat) : Int) ∧ smC zs m x y = 0) := by
  cases hv : vWheel zs
  · exact .inl ⟨1, (sm_bad hv).2.2, rfl⟩
  · cases hi : (inB x 0 ((m : Int) - 1) && inB y 0 500)
    · exact .inl ⟨2, (sm_far hv hi).2.2, rfl⟩
    · have h1 := inB_yes (Bool.and_eq_true_iff.mp hi).1
      have h2 := inB_yes (Bool.and_eq_true_iff.mp hi).2
      obtain ⟨a, rfl⟩ := Int.eq_ofNat_of_zero_le h1.1
      obtain ⟨N, rfl⟩ := Int.eq_ofNat_of_zero_le h2.1
      obtain ⟨v1, v2, v3⟩ := vWheel_yes hv
      have := sm_ok hv hi
      exact .inr ⟨a, N, rfl, rfl, rfl, by omega, by omega, by omega, by omega, this.1, this.2.1, this.2.2⟩
end Go.Proofs.Ytlnoolnbpohjhaa
