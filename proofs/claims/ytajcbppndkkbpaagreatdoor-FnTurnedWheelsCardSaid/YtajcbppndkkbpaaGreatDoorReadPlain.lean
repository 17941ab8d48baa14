/- Plain laws: the text of some numbers is split into them again. No program. No conditions but that the sign between them is no digit. -/
import Derived.Test.YtajcbppndkkbpaaGreatDoorWords
import Derived.Test.YtajcbppndkkbpaaGreatDoorTextWheel
namespace Go.Proofs.YtajcbppndkkbpaaGreatDoor
open Go.RowKit
set_option linter.unusedVariables false
set_option linter.unusedSimpArgs false
theorem splitL_word (c : UInt8) : ∀ p, c ∉ p → splitL c p = [p]
  | [], _ => rfl
  | b :: r, h => by
    have hb : ¬ (b = c) := fun e => h (by rw [e]; exact List.mem_cons_self)
    rw [splitL, if_neg hb, splitL_word c r (fun hr => h (List.mem_cons_of_mem _ hr))]
theorem splitL_sep (c : UInt8) (rest : List UInt8) : ∀ p, c ∉ p → splitL c (p ++ c :: rest) = p :: splitL c rest
  | [], _ => by rw [List.nil_append, splitL, if_pos rfl]
  | b :: r, h => by
    have hb : ¬ (b = c) := fun e => h (by rw [e]; exact List.mem_cons_self)
    rw [List.cons_append, splitL, if_neg hb, splitL_sep c rest r (fun hr => h (List.mem_cons_of_mem _ hr))]
theorem splitL_join (c : UInt8) : ∀ (x : List UInt8) (l : List (List UInt8)), (∀ p ∈ x :: l, c ∉ p) → splitL c (Lib.join (x :: l) [c]) = x :: l
  | x, [], h => by rw [Lib.join_one]; exact splitL_word c x (h x List.mem_cons_self)
  | x, y :: r, h => by
    have ih := splitL_join c y r (fun p hp => h p (List.mem_cons_of_mem _ hp))
    have e : Lib.join (x :: y :: r) [c] = x ++ c :: Lib.join (y :: r) [c] := by
      rw [Lib.join_cons, Lib.join_cons]
      simp [Lib.joinTail]
    rw [e, splitL_sep c _ x (h x List.mem_cons_self), ih]
theorem dd_sep {c : UInt8} (hc : dig c = false) (z : Int) : c ∉ dd z := fun h => by
  have := (decDigits_dig z.toNat).1 c h
  rw [hc] at this; cases this
/-- the words of a text of numbers are the numbers' texts -/
theorem split_tx {c : UInt8} (hc : dig c = false) (zs : List Int) (h1 : 1 ≤ zs.length) : splitL c (txK [c] zs zs.length) = zs.map dd := by
  rw [txK_join [c] zs zs.length (by omega) (Nat.le_refl _), List.take_length]
  cases zs with
  | nil => simp at h1
  | cons z r =>
    rw [List.map_cons]
    exact splitL_join c _ _ (fun p hp => by
      rcases List.mem_cons.1 hp with h | h
      · rw [h]; exact dd_sep hc z
      · obtain ⟨y, _, rfl⟩ := List.mem_map.1 h
        exact dd_sep hc y)
theorem dd_pos (z : Int) : 1 ≤ (dd z).length := by
  unfold dd
  rw [Lib.decDigits]
  split
  · simp
  · simp
theorem numR_dd {z : Int} (h1 : 0 ≤ z) (h2 : z < 1000) : numR (dd z) = some z.toNat := numR_of rfl (dd_pos z) (by have := dd_len z h1 h2; omega)
theorem map_num {f : List UInt8 → Int} (hf : ∀ p v, numR p = some v → f p = (v : Int)) (zs : List Int) (h : ∀ x ∈ zs, 0 ≤ x ∧ x < 1000) : (zs.map dd).map f = zs := by
  rw [List.map_map]
  conv => rhs; rw [← List.map_id zs]
  apply List.map_congr_left
  intro z hz
  have hh := h z hz
  show f (dd z) = z
  rw [hf _ _ (numR_dd hh.1 hh.2)]
  omega
end Go.Proofs.YtajcbppndkkbpaaGreatDoor
