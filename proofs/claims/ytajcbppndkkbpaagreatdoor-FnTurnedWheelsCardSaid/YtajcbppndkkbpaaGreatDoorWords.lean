/- Plain laws of words between signs and of numbers in decimal: a split and a join are each other's way back; what reads as a number. No conditions. -/
import Derived.Test.YtajcbppndkkbpaaGreatDoorBase
import Derived.Lib.SplitLaws
import Derived.Lib.Split
import Derived.Lib.CountLaws
import Derived.Lib.Join
import Derived.Lib.ItoaNum
import Derived.Lib.ItoaMem
import Derived.Lib.ParseIntB
namespace Go.Proofs.YtajcbppndkkbpaaGreatDoor
set_option linter.unusedVariables false
/-- the words of s between signs c -/
def splitL (c : UInt8) : List UInt8 → List (List UInt8)
  | [] => [[]]
  | b :: r => if b = c then [] :: splitL c r else match splitL c r with
    | [] => [[b]]
    | h :: t => (b :: h) :: t
theorem splitL_some (c : UInt8) : ∀ s, ∃ h t, splitL c s = h :: t
  | [] => ⟨[], [], rfl⟩
  | b :: r => by
    obtain ⟨h, t, e⟩ := splitL_some c r
    unfold splitL
    split
    · exact ⟨_, _, rfl⟩
    · rw [e]; exact ⟨_, _, rfl⟩
theorem splitL_none (c : UInt8) : ∀ s p, p ∈ splitL c s → c ∉ p
  | [], p, h => by simp [splitL] at h; subst h; simp
  | b :: r, p, h => by
    obtain ⟨h0, t, e⟩ := splitL_some c r
    unfold splitL at h
    split at h
    · rcases List.mem_cons.1 h with h1 | h1
      · subst h1; simp
      · exact splitL_none c r p h1
    · rename_i hne
      rw [e] at h
      rcases List.mem_cons.1 h with h1 | h1
      · subst h1
        intro hm
        rcases List.mem_cons.1 hm with h2 | h2
        · exact hne h2.symm
        · exact splitL_none c r h0 (by rw [e]; simp) h2
      · exact splitL_none c r p (by rw [e]; simp [h1])
theorem join_splitL (c : UInt8) : ∀ s, Lib.join (splitL c s) [c] = s
  | [] => by simp [splitL, Lib.join_one]
  | b :: r => by
    obtain ⟨h0, t, e⟩ := splitL_some c r
    have ih := join_splitL c r
    rw [e, Lib.join_cons] at ih
    unfold splitL
    split
    · rename_i hb
      rw [e, Lib.join_cons, hb]
      show [] ++ (([c] ++ h0) ++ Lib.joinTail [c] t) = c :: r
      rw [List.nil_append, List.append_assoc, ih]; rfl
    · rw [e]
      simp only
      rw [Lib.join_cons, List.cons_append, ih]
theorem index_cons (c b : UInt8) (l : List UInt8) (h : b ≠ c) : Lib.index (b :: l) [c] = if Lib.index l [c] == -1 then -1 else Lib.index l [c] + 1 := by
  rw [Lib.index]
  have : [c].isPrefixOf (b :: l) = false := by simp [List.isPrefixOf]; exact fun e => h e.symm
  rw [this]; rfl
theorem splitK_eq (c : UInt8) : ∀ s, Lib.splitK [c] 0 (Lib.count s [c]) s = splitL c s
  | [] => by
    have h : Lib.count [] [c] = 0 := by rw [Lib.count_one]; rfl
    rw [h]; rfl
  | b :: l => by
    have ih := splitK_eq c l
    by_cases hb : b = c
    · subst hb
      rw [Lib.count_cons_eq, Nat.add_comm, Lib.splitK, splitL, if_pos rfl, ← ih]
      have hi : Lib.index (b :: l) [b] = 0 := by rw [Lib.index]; simp [List.isPrefixOf]
      rw [hi]; simp
    · rw [Lib.count_cons_ne b c l hb, splitL, if_neg hb, ← ih]
      cases hk : Lib.count l [c] with
      | zero => simp [Lib.splitK]
      | succ k =>
        have hne : Lib.index l [c] ≠ -1 := fun e => by rw [Lib.count_miss e] at hk; cases hk
        have hge := Lib.index_ge l [c]
        obtain ⟨i, hi⟩ := Int.eq_ofNat_of_zero_le (show 0 ≤ Lib.index l [c] by omega)
        have h1 : (Lib.index l [c] == -1) = false := by simpa using hne
        have h2 : Lib.index (b :: l) [c] = ((i + 1 : Nat) : Int) := by rw [index_cons c b l hb, h1]; simp [hi]
        have h3 : (Lib.index (b :: l) [c] == -1) = false := by rw [h2]; simp; omega
        rw [Lib.splitK, Lib.splitK, h1, h3, h2, hi]
        simp
/-- the number that digits spell, behind acc -/
def valF (acc : Nat) : List UInt8 → Nat
  | [] => acc
  | c :: r => valF (acc * 10 + (c.toNat - 48)) r
def dig (c : UInt8) : Bool := decide (48 ≤ c.toNat) && decide (c.toNat ≤ 57)
theorem dig_yes {c : UInt8} (h : dig c = true) : 48 ≤ c.toNat ∧ c.toNat ≤ 57 := by simpa [dig] using h
theorem valF_one (acc : Nat) (c : UInt8) : valF acc [c] = acc * 10 + (c.toNat - 48) := rfl
theorem valF_app : ∀ (a b : List UInt8) (acc : Nat), valF acc (a ++ b) = valF (valF acc a) b
  | [], b, acc => rfl
  | c :: r, b, acc => valF_app r b _
theorem valF_bd (l : List UInt8) : ∀ (acc : Nat), (∀ c ∈ l, dig c = true) → acc * 10 ^ l.length ≤ valF acc l ∧ valF acc l < (acc + 1) * 10 ^ l.length := by
  induction l with
  | nil =>
    intro acc _
    have e : valF acc [] = acc := rfl
    have e2 : 10 ^ ([] : List UInt8).length = 1 := rfl
    rw [e, e2]; omega
  | cons c r ih =>
    intro acc h
    have hc := dig_yes (h c (by simp))
    obtain ⟨h1, h2⟩ := ih (acc * 10 + (c.toNat - 48)) (fun x hx => h x (List.mem_cons_of_mem _ hx))
    obtain ⟨P, hP⟩ : ∃ P, P = 10 ^ r.length := ⟨_, rfl⟩
    have e : 10 ^ (c :: r).length = 10 * P := by rw [List.length_cons, Nat.pow_succ, hP, Nat.mul_comm]
    rw [← hP] at h1 h2
    have e3 : valF acc (c :: r) = valF (acc * 10 + (c.toNat - 48)) r := rfl
    rw [e, e3]
    refine ⟨Nat.le_trans ?_ h1, Nat.lt_of_lt_of_le h2 ?_⟩
    · rw [← Nat.mul_assoc]; exact Nat.mul_le_mul_right _ (by omega)
    · rw [← Nat.mul_assoc]; exact Nat.mul_le_mul_right _ (by omega)
theorem byte_dig (x : Nat) (h : x < 10) : dig (UInt8.ofNat (48 + x)) = true ∧ (UInt8.ofNat (48 + x)).toNat = 48 + x := by
  have e : (UInt8.ofNat (48 + x)).toNat = 48 + x := by simp; omega
  exact ⟨by unfold dig; rw [e]; simp; omega, e⟩
theorem decDigits_dig : ∀ (n : Nat), (∀ c ∈ Lib.decDigits n, dig c = true) ∧ valF 0 (Lib.decDigits n) = n := by
  intro n
  induction n using Nat.strongRecOn with
  | ind n ih =>
    rw [Lib.decDigits]
    by_cases h : n < 10
    · rw [dif_pos h]
      have hb := byte_dig n h
      exact ⟨fun c hc => by rw [List.mem_singleton.1 hc]; exact hb.1, by
        rw [valF_one, hb.2]
        clear hb ih
        omega⟩
    · rw [dif_neg h]
      have hb := byte_dig (n % 10) (Nat.mod_lt _ (by omega))
      obtain ⟨i1, i2⟩ := ih (n / 10) (Nat.div_lt_self (by omega) (by omega))
      refine ⟨fun c hc => ?_, ?_⟩
      · rcases List.mem_append.1 hc with h1 | h1
        · exact i1 c h1
        · rw [List.mem_singleton.1 h1]; exact hb.1
      · rw [valF_app, i2]
        rw [valF_one, hb.2]
        clear hb ih i1 i2
        omega
/-- what a word without a sign reads as -/
def numR (p : List UInt8) : Option Nat := if p.all dig && decide (1 ≤ p.length) && decide (p.length ≤ 18) && decide (Lib.decDigits (valF 0 p) = p) then some (valF 0 p) else none
theorem numR_some {p : List UInt8} {v : Nat} (h : numR p = some v) : Lib.decDigits v = p ∧ v < 1000000000000000000 ∧ valF 0 p = v ∧ 1 ≤ p.length ∧ p.length ≤ 18 := by
  unfold numR at h
  split at h
  · rename_i hc
    simp only [Bool.and_eq_true, decide_eq_true_eq, List.all_eq_true] at hc
    injection h with h
    have hb := (valF_bd p 0 hc.1.1.1).2
    have : 10 ^ p.length ≤ 10 ^ 18 := Nat.pow_le_pow_right (by omega) hc.1.2
    rw [← h]
    exact ⟨hc.2, by simp at hb this; omega, rfl, hc.1.1.2, hc.1.2⟩
  · cases h
/-- a word that is some number's text is read -/
theorem numR_of {p : List UInt8} {v : Nat} (h : Lib.decDigits v = p) (h1 : 1 ≤ p.length) (h2 : p.length ≤ 18) : numR p = some v := by
  obtain ⟨d1, d2⟩ := decDigits_dig v
  rw [h] at d1 d2
  unfold numR
  rw [d2, if_pos]
  simp only [Bool.and_eq_true, decide_eq_true_eq, List.all_eq_true]
  exact ⟨⟨⟨d1, h1⟩, h2⟩, h⟩
theorem parseM_dig : ∀ (l : List UInt8) (acc k : Nat), (∀ c ∈ l, dig c = true) → l.length + k ≤ 18 → acc < 10 ^ k → Lib.parseUintM (2 ^ 64 - 1) acc l = .ok (valF acc l)
  | [], acc, k, _, _, _ => rfl
  | c :: r, acc, k, h, hl, ha => by
    have hc := dig_yes (h c (by simp))
    have hk : k ≤ 17 := by simp at hl; omega
    have hp : (10 : Nat) ^ k ≤ 10 ^ 17 := Nat.pow_le_pow_right (by omega) hk
    have hp2 : (10 : Nat) ^ (k + 1) = 10 * 10 ^ k := by rw [Nat.pow_succ]; omega
    have ih := parseM_dig r (acc * 10 + (c.toNat - 48)) (k + 1) (fun x hx => h x (List.mem_cons_of_mem _ hx)) (by simp at hl; omega) (by rw [hp2]; omega)
    simp only [Lib.parseUintM]
    rw [if_pos hc, if_neg (by omega), if_neg (by omega), ih]
    rfl
theorem parse_dig {p : List UInt8} (h : ∀ c ∈ p, dig c = true) (h1 : 1 ≤ p.length) (h2 : p.length ≤ 18) : Lib.parseIntB 64 p = .ok (valF 0 p : Int) := by
  cases p with
  | nil => simp at h1
  | cons c r =>
    have hc := dig_yes (h c (by simp))
    have hm := parseM_dig (c :: r) 0 0 h (by simpa using h2) (by simp)
    have hb := (valF_bd (c :: r) 0 h).2
    have hp : 10 ^ (c :: r).length ≤ 10 ^ 18 := Nat.pow_le_pow_right (by omega) h2
    have n1 : ¬ (c.toNat = 43) := by omega
    have n2 : ¬ (c.toNat = 45) := by omega
    have hu : Lib.parseUintB 64 (c :: r) = .ok (valF 0 (c :: r)) := by unfold Lib.parseUintB; rw [if_neg (by simp)]; exact hm
    have h3 : ¬ (2 ^ (64 - 1) ≤ valF 0 (c :: r)) := by simp at hb hp ⊢; omega
    unfold Lib.parseIntB
    simp only [n1, n2, or_self, if_false, hu, not_false_eq_true, true_and, false_and, h3]
/-- a parse that is no number's text of this word -/
theorem parse_odd {p : List UInt8} {v : Int} (hs : p.head? ≠ some 45) (hn : numR p = none) (h1 : 1 ≤ p.length) (h2 : p.length ≤ 18) : Lib.itoa v ≠ p := by
  intro e
  rcases Int.lt_or_le v 0 with h | h
  · unfold Lib.itoa at e
    rw [if_pos h] at e
    exact hs (by rw [← e]; rfl)
  · obtain ⟨n, rfl⟩ := Int.eq_ofNat_of_zero_le h
    rw [Lib.itoa_nonneg] at e
    rw [numR_of e h1 h2] at hn
    cases hn
end Go.Proofs.YtajcbppndkkbpaaGreatDoor
