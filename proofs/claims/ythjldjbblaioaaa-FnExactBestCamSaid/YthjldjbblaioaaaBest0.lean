/- Plain facts on the years that a notch stands for, and on the years in which a cam and a calendar end together. No conditions. -/
import Derived.Test.YthjldjbblaioaaaCamF
namespace Go.Proofs.Ythjldjbblaioaaa
set_option linter.unusedVariables false
set_option linter.unusedSimpArgs false
/-- how many of the first Y years that lie at place p of s are such -/
def cnt (f : Nat → Bool) (s p : Nat) : Nat → Nat
  | 0 => 0
  | Y + 1 => if Y % s = p ∧ f Y = true then cnt f s p Y + 1 else cnt f s p Y
section
variable {f : Nat → Bool} {s p Y : Nat}
theorem cnt_hit (h : Y % s = p) (hf : f Y = true) : cnt f s p (Y + 1) = cnt f s p Y + 1 := by rw [cnt, if_pos ⟨h, hf⟩]
theorem cnt_off (h : ¬ (Y % s = p)) : cnt f s p (Y + 1) = cnt f s p Y := by rw [cnt, if_neg (fun e => h e.1)]
theorem cnt_miss (h : f Y = false) : cnt f s p (Y + 1) = cnt f s p Y := by rw [cnt, if_neg (fun e => by rw [h] at e; exact absurd e.2 (by decide))]
theorem cnt_le (f : Nat → Bool) (s p : Nat) : ∀ Y, cnt f s p Y ≤ Y
  | 0 => Nat.le_refl _
  | Y + 1 => by
    have := cnt_le f s p Y
    rw [cnt]; split <;> omega
theorem mod_shift (s a j : Nat) : (a + j * s) % s = a % s := Nat.add_mul_mod_self_right a j s
theorem cnt_gap (f : Nat → Bool) (hp : p < s) (j : Nat) : ∀ d, d < s → cnt f s p (p + j * s + 1 + d) = cnt f s p (p + j * s + 1)
  | 0, _ => rfl
  | d + 1, hd => by
    have ih := cnt_gap f hp j d (by omega)
    rw [← ih, ← Nat.add_assoc (p + j * s + 1) d 1]
    refine cnt_off (fun e => ?_)
    rw [show p + j * s + 1 + d = (p + 1 + d) + j * s by omega, mod_shift] at e
    rcases Nat.lt_or_ge (p + 1 + d) s with h | h
    · rw [Nat.mod_eq_of_lt h] at e; omega
    · rw [Nat.mod_eq_sub_mod h, Nat.mod_eq_of_lt (by omega)] at e; omega
theorem cnt_next (f : Nat → Bool) (hp : p < s) (j : Nat) : cnt f s p (p + (j + 1) * s) = cnt f s p (p + j * s + 1) := by
  have h := cnt_gap f hp j (s - 1) (by omega)
  rw [← h]; congr 1
  rw [Nat.add_mul, Nat.one_mul]; omega
theorem cnt_step_yes (hp : p < s) (j : Nat) (h : f (p + j * s) = true) : cnt f s p (p + (j + 1) * s) = cnt f s p (p + j * s) + 1 := by
  rw [cnt_next f hp j]; exact cnt_hit (by rw [mod_shift, Nat.mod_eq_of_lt hp]) h
theorem cnt_step_no (hp : p < s) (j : Nat) (h : f (p + j * s) = false) : cnt f s p (p + (j + 1) * s) = cnt f s p (p + j * s) := by
  rw [cnt_next f hp j]; exact cnt_miss h
theorem cnt_low (f : Nat → Bool) (hp : p < s) (k : Nat) : ∀ d, d ≤ p → cnt f s p (d + k * s) = cnt f s p (k * s)
  | 0, _ => by rw [Nat.zero_add]
  | d + 1, hd => by
    have ih := cnt_low f hp k d (by omega)
    rw [← ih, show d + 1 + k * s = d + k * s + 1 by omega]
    exact cnt_off (by rw [mod_shift, Nat.mod_eq_of_lt (by omega)]; omega)
theorem cnt_zero (f : Nat → Bool) (hp : p < s) : cnt f s p (p + 0 * s) = 0 := by
  have h := cnt_low f hp 0 p (Nat.le_refl _)
  rw [h, Nat.zero_mul]; rfl
theorem cnt_end (f : Nat → Bool) (hp : p < s) (k : Nat) : cnt f s p (p + k * s) = cnt f s p (k * s) := cnt_low f hp k p (Nat.le_refl _)
theorem cnt_two (f : Nat → Bool) (hp : p < s) : ∀ j, cnt f s p (p + j * s) + cnt (fun y => !f y) s p (p + j * s) = j
  | 0 => by rw [cnt_zero f hp, cnt_zero _ hp]
  | j + 1 => by
    have ih := cnt_two f hp j
    cases h : f (p + j * s)
    · rw [cnt_step_no hp j h, cnt_step_yes (f := fun y => !f y) hp j (by simp [h])]; omega
    · rw [cnt_step_yes hp j h, cnt_step_no (f := fun y => !f y) hp j (by simp [h])]; omega
end
/-- the counts of all places -/
def cntR (f : Nat → Bool) (s Y : Nat) : List Int := (List.range s).map (fun p => (cnt f s p Y : Int))
theorem cntR_len (f : Nat → Bool) (s Y : Nat) : (cntR f s Y).length = s := by simp [cntR]
theorem cntR_getD {f : Nat → Bool} {s Y p : Nat} (h : p < s) : (cntR f s Y).getD p 0 = (cnt f s p Y : Int) := by
  simp [cntR, List.getD_eq_getElem?_getD, h]
theorem cntR_none (f : Nat → Bool) (s : Nat) : cntR f s 0 = List.replicate s 0 := by
  refine List.ext_getElem (by simp [cntR]) (fun i h1 h2 => ?_)
  simp [cntR, cnt]
theorem cntR_hit {f : Nat → Bool} {s Y : Nat} (hs : 1 ≤ s) (hf : f Y = true) : (cntR f s Y).set (Y % s) ((cnt f s (Y % s) Y : Int) + 1) = cntR f s (Y + 1) := by
  refine List.ext_getElem (by simp [cntR]) (fun i h1 h2 => ?_)
  rw [List.getElem_set]
  simp only [cntR, List.getElem_map, List.getElem_range]
  split
  · rename_i e
    subst e
    rw [cnt_hit rfl hf]; push_cast; rfl
  · rename_i e
    rw [cnt_off e]
theorem cntR_miss {f : Nat → Bool} {s Y : Nat} (hf : f Y = false) : cntR f s (Y + 1) = cntR f s Y := by
  refine List.ext_getElem (by simp [cntR]) (fun i h1 h2 => ?_)
  simp only [cntR, List.getElem_map, List.getElem_range]
  rw [cnt_miss hf]
/-- the notch that stands for a leap years and b common ones -/
def bestN (a b : Nat) (m : Mth) : Int := if b < a ∨ (a = b ∧ m.lp < m.dy) then m.lp else m.dy
theorem bestN_more {a b : Nat} {m : Mth} (h : b < a) : bestN a b m = m.lp := by rw [bestN, if_pos (.inl h)]
theorem bestN_eq {a b : Nat} {m : Mth} (h : a = b) (h2 : m.lp < m.dy) : bestN a b m = m.lp := by rw [bestN, if_pos (.inr ⟨h, h2⟩)]
theorem bestN_less {a b : Nat} {m : Mth} (h : a < b) : bestN a b m = m.dy := by rw [bestN, if_neg (by omega)]
theorem bestN_eq2 {a b : Nat} {m : Mth} (h : a = b) (h2 : ¬ (m.lp < m.dy)) : bestN a b m = m.dy := by rw [bestN, if_neg (by omega)]
theorem bestN_ok {a b : Nat} {m : Mth} (h1 : 1 ≤ m.lp ∧ m.lp ≤ 60) (h2 : 1 ≤ m.dy ∧ m.dy ≤ 60) : 1 ≤ bestN a b m ∧ bestN a b m ≤ 60 := by
  unfold bestN; split
  · exact h1
  · exact h2
def rowB (ms : List Mth) (a b : Nat) : Nat → List Int
  | 0 => []
  | k + 1 => rowB ms a b k ++ [bestN a b (ms.getD k m0)]
theorem rowB_len (ms : List Mth) (a b : Nat) : ∀ k, (rowB ms a b k).length = k
  | 0 => rfl
  | k + 1 => by rw [rowB, List.length_append, rowB_len ms a b k]; rfl
def isL (rs : List Rul) (n' : Nat) (y : Nat) : Bool := leapK rs (y : Int) n'
/-- the best notches of the first Y years of s, counted over the years before C -/
def allB (ms : List Mth) (rs : List Rul) (n n' s C : Nat) : Nat → List Int
  | 0 => []
  | Y + 1 => allB ms rs n n' s C Y ++ rowB ms (cnt (isL rs n') s Y C) (cnt (fun y => !isL rs n' y) s Y C) n
theorem allB_len (ms : List Mth) (rs : List Rul) (n n' s C : Nat) : ∀ Y, (allB ms rs n n' s C Y).length = Y * n
  | 0 => by rw [Nat.zero_mul]; rfl
  | Y + 1 => by rw [allB, List.length_append, allB_len ms rs n n' s C Y, rowB_len, Nat.add_mul, Nat.one_mul]
theorem rowB_mem {ms : List Mth} {a b n : Nat} (h : ∀ j, j < n → mOk (ms.getD j m0) = true) : ∀ k, k ≤ n → ∀ x ∈ rowB ms a b k, 1 ≤ x ∧ x ≤ 60
  | 0, _, x, hx => by simp [rowB] at hx
  | k + 1, hk, x, hx => by
    rw [rowB, List.mem_append, List.mem_singleton] at hx
    rcases hx with hx | hx
    · exact rowB_mem h k (by omega) x hx
    · subst hx
      have := mOk_yes (h k (by omega))
      exact bestN_ok (by omega) (by omega)
theorem allB_mem {ms : List Mth} {rs : List Rul} {n n' s C : Nat} (h : ∀ j, j < n → mOk (ms.getD j m0) = true) : ∀ Y, ∀ x ∈ allB ms rs n n' s C Y, 1 ≤ x ∧ x ≤ 60
  | 0, x, hx => by simp [allB] at hx
  | Y + 1, x, hx => by
    rw [allB, List.mem_append] at hx
    rcases hx with hx | hx
    · exact allB_mem h Y x hx
    · exact rowB_mem h n (Nat.le_refl _) x hx
/-- the years in which k and cy years end together -/
def comN (k cy : Nat) : Nat := k / Nat.gcd k cy * cy
theorem comN_alt (k cy : Nat) : cy / Nat.gcd cy k * k = comN k cy := by
  unfold comN
  rw [Nat.gcd_comm cy k]
  have h1 := Nat.gcd_dvd_left k cy
  have h2 := Nat.gcd_dvd_right k cy
  rw [Nat.div_mul_right_comm h2, Nat.div_mul_right_comm h1, Nat.mul_comm cy k]
theorem comN_bd {k cy : Nat} (hk : k ≤ 260) (hc : cy ≤ 2000) : comN k cy ≤ 520000 := by
  unfold comN
  have h1 : k / Nat.gcd k cy ≤ 260 := Nat.le_trans (Nat.div_le_self _ _) hk
  exact Nat.le_trans (Nat.mul_le_mul h1 hc) (by decide)
theorem comN_mul (k cy : Nat) : ∃ q, comN k cy = q * k := ⟨cy / Nat.gcd cy k, (comN_alt k cy).symm⟩
theorem div_le_bd {y n : Nat} (hn : 1 ≤ n) : y ≤ 260 / n ↔ y * n ≤ 260 := by
  rw [Nat.le_div_iff_mul_le (by omega)]
theorem allF_le (ms : List Mth) (rs : List Rul) (n n' : Nat) (zs : List Int) (l f : Nat) : ∀ j, (allF ms rs n n' zs l f j).length ≤ j * n
  | 0 => Nat.zero_le _
  | j + 1 => by
    have ih := allF_le ms rs n n' zs l f j
    have h := fY_len ms rs n' zs (placeY l n (f + j)) (f + j) n
    show (allF ms rs n n' zs l f j ++ fY ms rs n' zs (placeY l n (f + j)) (f + j) n).length ≤ _
    rw [List.length_append, Nat.add_mul, Nat.one_mul]; omega
/-- the best cam of s years and the number of its faults -/
def camB (ms : List Mth) (rs : List Rul) (n n' s : Nat) : List Int := allB ms rs n n' s (comN s (cycK rs n').toNat) s
def cntFaults (ms : List Mth) (rs : List Rul) (n n' : Nat) (zs : List Int) (l : Nat) : Int := ((allF ms rs n n' zs l 0 (comN (l / n) (cycK rs n').toNat)).length : Nat)
def rBC (nm : ByteArray) (n n' : Nat) (ms : List Mth) (rs : List Rul) (cw y : Int) : List Int × Int × Int :=
  if vCal nm n n' ms rs cw then
    if inB y 1 ((260 / n : Nat) : Int) then (camB ms rs n n' y.toNat, cntFaults ms rs n n' (camB ms rs n n' y.toNat) (y.toNat * n), 0)
    else ([], 0, 2)
  else ([], 0, 1)
section
variable {nm : ByteArray} {n n' : Nat} {ms : List Mth} {rs : List Rul} {cw y : Int}
theorem rBC_bad (h : vCal nm n n' ms rs cw = false) : rBC nm n n' ms rs cw y = ([], 0, 1) := by rw [rBC, h]; rfl
theorem rBC_far (h : vCal nm n n' ms rs cw = true) (h2 : inB y 1 ((260 / n : Nat) : Int) = false) : rBC nm n n' ms rs cw y = ([], 0, 2) := by rw [rBC, h, h2]; rfl
theorem rBC_ok {s : Nat} (h : vCal nm n n' ms rs cw = true) (h2 : inB (s : Int) 1 ((260 / n : Nat) : Int) = true) : rBC nm n n' ms rs cw (s : Int) = (camB ms rs n n' s, cntFaults ms rs n n' (camB ms rs n n' s) (s * n), 0) := by
  rw [rBC, h, h2]; rfl
theorem vCal_cyc (h : vCal nm n n' ms rs cw = true) : ∃ cy : Nat, cycK rs n' = (cy : Int) ∧ 1 ≤ cy ∧ cy ≤ 2000 := by
  obtain ⟨h1, h2, -⟩ := vCal_yes h
  have hb := cycK_bd rs n' (fun j hj => by have := ruleOk_yes (h1 j hj); omega)
  obtain ⟨cy, e⟩ := Int.eq_ofNat_of_zero_le (show 0 ≤ cycK rs n' by omega)
  exact ⟨cy, e, by omega, by omega⟩
theorem vCal_evs (h : vCal nm n n' ms rs cw = true) : ∀ j, j < n' → 1 ≤ (rs.getD j r0).ev ∧ (rs.getD j r0).ev ≤ 1000 := fun j hj => by have := ruleOk_yes ((vCal_yes h).1 j hj); omega
theorem camB_ok {s : Nat} (h : vCal nm n n' ms rs cw = true) (hs : 1 ≤ s) (h2 : s * n ≤ 260) : vCam (camB ms rs n n' s) = true ∧ (camB ms rs n n' s).length = s * n := by
  obtain ⟨-, -, -, hmo, ⟨n1, n2⟩, -, -⟩ := vCal_yes h
  have hl : (camB ms rs n n' s).length = s * n := allB_len ms rs n n' s _ s
  have h3 : 1 * 1 ≤ s * n := Nat.mul_le_mul hs n1
  refine ⟨?_, hl⟩
  simp only [vCam, Bool.and_eq_true, List.all_eq_true]
  refine ⟨fun x hx => ?_, ?_⟩
  · have := allB_mem hmo s x hx
    unfold inB; simp; omega
  · rw [hl]; unfold inB; simp; omega
end
end Go.Proofs.Ythjldjbblaioaaa
