/- Plain laws of cams: no cam has fewer faults in a cycle than the best one; the cam of some years has none in these. No program. Conditions: the calendar is valid, the cam belongs to it. -/
import Derived.Test.YtmbdedkelckedaaGreatDoorCore6
namespace Go.Proofs.YtmbdedkelckedaaGreatDoor
open Go.RowKit
set_option linter.unusedVariables false
set_option linter.unusedSimpArgs false
/-! ## Sums -/
def sumN (f : Nat → Nat) : Nat → Nat
  | 0 => 0
  | k + 1 => sumN f k + f k
theorem sumN_congr {f g : Nat → Nat} : ∀ k, (∀ i, i < k → f i = g i) → sumN f k = sumN g k
  | 0, _ => rfl
  | k + 1, h => by rw [sumN, sumN, sumN_congr k (fun i hi => h i (by omega)), h k (by omega)]
theorem sumN_le {f g : Nat → Nat} : ∀ k, (∀ i, i < k → f i ≤ g i) → sumN f k ≤ sumN g k
  | 0, _ => Nat.le_refl _
  | k + 1, h => by
    have h1 := sumN_le k (fun i hi => h i (by omega))
    have h2 := h k (by omega)
    rw [sumN, sumN]; omega
theorem sumN_add (f g : Nat → Nat) : ∀ k, sumN (fun i => f i + g i) k = sumN f k + sumN g k
  | 0 => rfl
  | k + 1 => by rw [sumN, sumN, sumN, sumN_add f g k]; omega
theorem sumN_zero : ∀ k, sumN (fun _ => 0) k = 0
  | 0 => rfl
  | k + 1 => by rw [sumN, sumN_zero k]
theorem sumN_swap (f : Nat → Nat → Nat) (b : Nat) : ∀ a, sumN (fun i => sumN (fun j => f i j) b) a = sumN (fun j => sumN (fun i => f i j) a) b
  | 0 => by rw [sumN]; exact (sumN_zero b).symm
  | a + 1 => by
    rw [sumN, sumN_swap f b a, ← sumN_add]
    exact sumN_congr b (fun j _ => rfl)
theorem sumN_one (g : Nat → Nat) {p : Nat} : ∀ s, sumN (fun q => if p = q then g q else 0) s = if p < s then g p else 0
  | 0 => rfl
  | s + 1 => by
    rw [sumN, sumN_one g s]
    by_cases h : p < s
    · rw [if_pos h, if_neg (by omega), if_pos (by omega)]; omega
    · rw [if_neg h]
      by_cases e : p = s
      · subst e; rw [if_pos rfl, if_pos (by omega)]; omega
      · rw [if_neg e, if_neg (by omega)]
/-- a sum over years, parted by their places -/
theorem sumN_mod (g : Nat → Nat → Nat) {s : Nat} (hs : 1 ≤ s) (C : Nat) : sumN (fun y => g (y % s) y) C = sumN (fun p => sumN (fun y => if y % s = p then g p y else 0) C) s := by
  rw [← sumN_swap (fun y p => if y % s = p then g p y else 0) s C]
  refine sumN_congr C (fun y _ => ?_)
  rw [sumN_one (fun p => g p y) s, if_pos (Nat.mod_lt _ (by omega))]
/-! ## Rows of equal length, one behind the other -/
theorem rows_at {B R : Nat → List Int} {n : Nat} (h0 : B 0 = []) (hB : ∀ Y, B (Y + 1) = B Y ++ R Y) (hR : ∀ Y, (R Y).length = n) : ∀ Y, (B Y).length = Y * n ∧ ∀ p m, p < Y → m < n → (B Y).getD (p * n + m) 0 = (R p).getD m 0
  | 0 => ⟨by rw [h0]; simp, fun p m h => absurd h (by omega)⟩
  | Y + 1 => by
    obtain ⟨h1, h2⟩ := rows_at h0 hB hR Y
    refine ⟨by rw [hB, List.length_append, h1, hR, Nat.add_mul, Nat.one_mul], fun p m hp hm => ?_⟩
    rw [hB]
    by_cases e : p = Y
    · subst e
      rw [List.getD_eq_getElem?_getD, List.getElem?_append_right (by omega), h1, Nat.add_sub_cancel_left, ← List.getD_eq_getElem?_getD]
    · have hlt : p * n + m < Y * n := by
        have : (p + 1) * n ≤ Y * n := Nat.mul_le_mul_right n (by omega)
        rw [Nat.add_mul, Nat.one_mul] at this; omega
      rw [List.getD_eq_getElem?_getD, List.getElem?_append_left (by omega), ← List.getD_eq_getElem?_getD]
      exact h2 p m (by omega) hm
section
variable {nm : ByteArray} {n n' : Nat} {ms : List Mth} {rs : List Rul} {cw : Int} {zs : List Int} {l : Nat}
theorem rowB_at (ms : List Mth) (a b : Nat) : ∀ k m, m < k → (rowB ms a b k).getD m 0 = bestN a b (ms.getD m m0)
  | 0, m, h => absurd h (by omega)
  | k + 1, m, h => by
    have hl := rowB_len ms a b k
    rw [rowB]
    by_cases e : m = k
    · subst e
      rw [List.getD_eq_getElem?_getD, List.getElem?_append_right (by omega), hl, Nat.sub_self]; rfl
    · rw [List.getD_eq_getElem?_getD, List.getElem?_append_left (by omega), ← List.getD_eq_getElem?_getD]
      exact rowB_at ms a b k m (by omega)
theorem allB_at (ms : List Mth) (rs : List Rul) (n n' s C Y : Nat) {p m : Nat} (hp : p < Y) (hm : m < n) : (allB ms rs n n' s C Y).getD (p * n + m) 0 = bestN (cnt (isL rs n') s p C) (cnt (fun y => !isL rs n' y) s p C) (ms.getD m m0) := by
  rw [(rows_at (B := allB ms rs n n' s C) (R := fun Y => rowB ms (cnt (isL rs n') s Y C) (cnt (fun y => !isL rs n' y) s Y C) n) rfl (fun Y => rfl) (fun Y => rowB_len _ _ _ _) Y).2 p m hp hm]
  exact rowB_at _ _ _ n m hm
/-! ## How many faults -/
def wrg (ms : List Mth) (rs : List Rul) (n' : Nat) (z : Int) (y m : Nat) : Nat := if z = dayK ms rs n' (y : Int) ((m : Int) + 1) then 0 else 1
theorem fY_sum (ms : List Mth) (rs : List Rul) (n' : Nat) (zs : List Int) (p y : Nat) : ∀ k, (fY ms rs n' zs p y k).length = sumN (fun m => wrg ms rs n' (zs.getD (p + m) 0) y m) k
  | 0 => rfl
  | k + 1 => by
    have ih := fY_sum ms rs n' zs p y k
    rw [sumN]
    unfold wrg at ih ⊢
    by_cases h : zs.getD (p + k) 0 = dayK ms rs n' (y : Int) ((k : Int) + 1)
    · rw [fY_same h, if_pos h, ih]; rfl
    · rw [fY_more h, if_neg h, List.length_append, ih]; rfl
theorem allF_sum (ms : List Mth) (rs : List Rul) (n n' : Nat) (zs : List Int) (l : Nat) : ∀ C, (allF ms rs n n' zs l 0 C).length = sumN (fun y => sumN (fun m => wrg ms rs n' (zs.getD (y % (l / n) * n + m) 0) y m) n) C
  | 0 => rfl
  | C + 1 => by
    rw [allF, List.length_append, allF_sum ms rs n n' zs l C, sumN, fY_sum, Nat.zero_add]; rfl
/-- the faults of one place, by common years and leap years -/
theorem place_sum (ms : List Mth) (rs : List Rul) (n' : Nat) (z : Int) (s p m : Nat) : ∀ C, sumN (fun y => if y % s = p then wrg ms rs n' z y m else 0) C =
    (if z = (ms.getD m m0).lp then 0 else cnt (isL rs n') s p C) + (if z = (ms.getD m m0).dy then 0 else cnt (fun y => !isL rs n' y) s p C)
  | 0 => by simp [sumN, cnt]
  | C + 1 => by
    rw [sumN, place_sum ms rs n' z s p m C]
    by_cases hp : C % s = p
    · rw [if_pos hp]
      unfold wrg dayK
      rw [dayB_k]
      cases hL : leapK rs (C : Int) n'
      · have e1 : cnt (isL rs n') s p (C + 1) = cnt (isL rs n') s p C := cnt_miss hL
        have e2 : cnt (fun y => !isL rs n' y) s p (C + 1) = cnt (fun y => !isL rs n' y) s p C + 1 := cnt_hit hp (by show (!leapK rs (C : Int) n') = true; rw [hL]; rfl)
        rw [e1, e2]
        simp only [Bool.false_eq_true, if_false]
        split <;> split <;> omega
      · have e1 : cnt (isL rs n') s p (C + 1) = cnt (isL rs n') s p C + 1 := cnt_hit hp hL
        have e2 : cnt (fun y => !isL rs n' y) s p (C + 1) = cnt (fun y => !isL rs n' y) s p C := cnt_miss (by show (!leapK rs (C : Int) n') = false; rw [hL]; rfl)
        rw [e1, e2]
        simp only [if_true]
        split <;> split <;> omega
    · rw [if_neg hp, cnt_off hp, cnt_off hp]; rfl
theorem best_least (a b : Nat) (m : Mth) (z : Int) : (if bestN a b m = m.lp then 0 else a) + (if bestN a b m = m.dy then 0 else b) ≤ (if z = m.lp then 0 else a) + (if z = m.dy then 0 else b) := by
  unfold bestN
  split <;> (repeat' split) <;> omega
/-- the faults of the best cam are no more than those of another one -/
theorem best_min {s : Nat} (hs : 1 ≤ s) (hn : 1 ≤ n) (hl : l = s * n) : cntFaults ms rs n n' (camB ms rs n n' s) (s * n) ≤ cntFaults ms rs n n' zs l := by
  subst hl
  have hdiv : s * n / n = s := Nat.mul_div_cancel s (by omega)
  unfold cntFaults
  rw [hdiv, allF_sum, allF_sum, hdiv]
  unfold camB
  generalize comN s (cycK rs n').toNat = C
  have key : ∀ (ys : List Int), sumN (fun y => sumN (fun m => wrg ms rs n' (ys.getD (y % s * n + m) 0) y m) n) C =
      sumN (fun m => sumN (fun p => sumN (fun y => if y % s = p then wrg ms rs n' (ys.getD (p * n + m) 0) y m else 0) C) s) n := fun ys => by
    rw [sumN_swap (fun y m => wrg ms rs n' (ys.getD (y % s * n + m) 0) y m) n C]
    refine sumN_congr n (fun m _ => ?_)
    exact sumN_mod (fun p y => wrg ms rs n' (ys.getD (p * n + m) 0) y m) hs C
  rw [key, key]
  refine Int.ofNat_le.2 (sumN_le n (fun m hm => sumN_le s (fun p hp => ?_)))
  rw [place_sum, place_sum, allB_at ms rs n n' s C s hp hm]
  exact best_least _ _ _ _
/-! ## The cam of some years -/
def rowD (ms : List Mth) (rs : List Rul) (n' : Nat) (y : Int) : Nat → List Int
  | 0 => []
  | k + 1 => rowD ms rs n' y k ++ [dayK ms rs n' y ((k : Int) + 1)]
def ofL (ms : List Mth) (rs : List Rul) (n n' f : Nat) : Nat → List Int
  | 0 => []
  | Y + 1 => ofL ms rs n n' f Y ++ rowD ms rs n' ((f + Y : Nat) : Int) n
theorem rowD_len (ms : List Mth) (rs : List Rul) (n' : Nat) (y : Int) : ∀ k, (rowD ms rs n' y k).length = k
  | 0 => rfl
  | k + 1 => by rw [rowD, List.length_append, rowD_len ms rs n' y k]; rfl
theorem rowD_at (ms : List Mth) (rs : List Rul) (n' : Nat) (y : Int) : ∀ k m, m < k → (rowD ms rs n' y k).getD m 0 = dayK ms rs n' y ((m : Int) + 1)
  | 0, m, h => absurd h (by omega)
  | k + 1, m, h => by
    have hl := rowD_len ms rs n' y k
    rw [rowD]
    by_cases e : m = k
    · subst e
      rw [List.getD_eq_getElem?_getD, List.getElem?_append_right (by omega), hl, Nat.sub_self]; rfl
    · rw [List.getD_eq_getElem?_getD, List.getElem?_append_left (by omega), ← List.getD_eq_getElem?_getD]
      exact rowD_at ms rs n' y k m (by omega)
theorem rowD_mem (hv : vCal nm n n' ms rs cw = true) (y : Int) : ∀ k, k ≤ n → ∀ x ∈ rowD ms rs n' y k, 1 ≤ x ∧ x ≤ 60
  | 0, _, x, hx => by simp [rowD] at hx
  | k + 1, hk, x, hx => by
    rw [rowD] at hx
    rcases List.mem_append.1 hx with h | h
    · exact rowD_mem hv y k (by omega) x h
    · rw [List.mem_singleton] at h; subst h; exact dayK_bd hv (by omega) (by omega)
theorem ofL_at (ms : List Mth) (rs : List Rul) (n n' f Y : Nat) : (ofL ms rs n n' f Y).length = Y * n ∧ ∀ p m, p < Y → m < n → (ofL ms rs n n' f Y).getD (p * n + m) 0 = dayK ms rs n' ((f + p : Nat) : Int) ((m : Int) + 1) := by
  obtain ⟨h1, h2⟩ := rows_at (B := ofL ms rs n n' f) (R := fun Y => rowD ms rs n' ((f + Y : Nat) : Int) n) rfl (fun Y => rfl) (fun Y => rowD_len _ _ _ _ _) Y
  exact ⟨h1, fun p m hp hm => (h2 p m hp hm).trans (rowD_at _ _ _ _ n m hm)⟩
theorem ofL_mem (hv : vCal nm n n' ms rs cw = true) (f : Nat) : ∀ Y, ∀ x ∈ ofL ms rs n n' f Y, 1 ≤ x ∧ x ≤ 60
  | 0, x, hx => by simp [ofL] at hx
  | Y + 1, x, hx => by
    rw [ofL] at hx
    rcases List.mem_append.1 hx with h | h
    · exact ofL_mem hv f Y x h
    · exact rowD_mem hv _ n (Nat.le_refl _) x h
theorem fY_none {ms : List Mth} {rs : List Rul} {n' : Nat} {zs : List Int} {p y : Nat} : ∀ k, (∀ m, m < k → zs.getD (p + m) 0 = dayK ms rs n' (y : Int) ((m : Int) + 1)) → fY ms rs n' zs p y k = []
  | 0, _ => rfl
  | k + 1, h => by rw [fY_same (h k (by omega))]; exact fY_none k (fun m hm => h m (by omega))
theorem own_none (ms : List Mth) (rs : List Rul) {n n' s : Nat} (hn : 1 ≤ n) : ∀ j, j ≤ s → allF ms rs n n' (ofL ms rs n n' 0 s) (s * n) 0 j = []
  | 0, _ => rfl
  | j + 1, h => by
    rw [allF, own_none ms rs hn j (by omega), Nat.zero_add]
    have hdiv : s * n / n = s := Nat.mul_div_cancel s (by omega)
    have e : placeY (s * n) n j = j * n := by unfold placeY; rw [hdiv, Nat.mod_eq_of_lt (by omega)]
    rw [e, fY_none n (fun m hm => ?_)]
    · rfl
    · have := (ofL_at ms rs n n' 0 s).2 j m (by omega) hm
      rw [this, Nat.zero_add]
end
end Go.Proofs.YtmbdedkelckedaaGreatDoor
