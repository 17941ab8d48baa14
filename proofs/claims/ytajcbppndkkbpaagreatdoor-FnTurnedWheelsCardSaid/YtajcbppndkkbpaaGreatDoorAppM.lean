/- The law of append of a list of int64 to a slice of the call's own; copies of slices. No conditions but that a slice stays below 2^40 elements. -/
import Derived.Test.YtajcbppndkkbpaaGreatDoorApp
namespace Go.Proofs.YtajcbppndkkbpaaGreatDoor
open Go.RowKit
set_option linter.unusedVariables false
set_option linter.unusedSimpArgs false
set_option maxRecDepth 8000
theorem own_appM {w : World} {base n m : Nat} {zs ys : List Int} {v' : Value} (hm : 1 ≤ n + m) (h : w.ownsRow base 2 1 v' (n + m) (zs.map (Value.int .i64) ++ ys.map (Value.int .i64))) :
    ∃ A' c', v' = .slice A' (n + m) c' ∧ Own w base A' (n + m) c' (zs ++ ys) := by
  rcases h.2 with ⟨_, h0⟩ | ⟨g, cap, cur, e, _⟩
  · omega
  · refine ⟨_, _, e, ?_⟩
    subst e
    have e2 : (zs ++ ys).map (Value.int .i64) = zs.map (Value.int .i64) ++ ys.map (Value.int .i64) := by simp
    unfold Own
    rw [e2]; exact h
theorem wpList_appM {ops : Array Oper} {rest : List Oper} {o : Oper} {a : Act} {Q : Exit → Act → World → Prop} (hgd : o.guard = none) (s x : Operand)
    (ho : o.op = .call { callee := .builtin .append, args := #[s, x], argTypes := #[24, 24] })
    (w : World) (base B : Nat) (A : Option Addr) (n c : Nat) (zs : List Int) (hs : a.eval s = .slice A n c) (hown : Own w base A n c zs) (b off m cx : Nat) (ys : List Int) (hx : a.eval x = .slice (some ⟨b, off, none⟩) m cx)
    (hy : Ints w B (some ⟨b, off, none⟩) m ys) (hm : 1 ≤ n + m) (hn : n + m ≤ 1000000000000) (hb : base ≤ w.heap.size)
    (h : ∀ A' c' w', Own w' base A' (n + m) c' (zs ++ ys) → Below base w w' → wpList Tryz.prog ops Q rest (a.put o.dst (.slice A' (n + m) c')) w') : wpList Tryz.prog ops Q (o :: rest) a w := by
  obtain ⟨i0, hi, hz0, hz1, hz2⟩ := info_parts info_int64
  have hl := hy.len
  refine wpList_append_own_at (P := Tryz.prog) w hgd s x 24 ho base 2 i0 (.int .i64 0) 1 8 Tryz.underlying24 hi hz0 hz1 hz2 rfl (by omega) (.slice A n c) n (zs.map (Value.int .i64)) hs hown ⟨b, off, none⟩ m cx (ys.map (Value.int .i64)) hx (by simp [hl])
    (fun j u hj => ?_) (by simp [Value.oneCell']) (by simp only [maxLen]; omega) (by omega) hb (fun v' w' h1 h2 _ _ => ?_)
  · have hj2 : j < ys.length := by have := (List.getElem?_eq_some_iff.1 hj).1; simpa using this
    obtain ⟨b', off', e', _, hc⟩ := hy.2 (by omega)
    injection e' with e'; injection e' with e1 e2; subst e1 e2
    have := hc j (by omega)
    rw [getD_of hj2] at this
    rw [List.getElem?_map, List.getElem?_eq_getElem hj2] at hj
    simp at hj
    subst hj
    have e : (⟨b, off, none⟩ : Addr).add j = ⟨b, off + j, none⟩ := by unfold Addr.add; split <;> simp_all
    rw [e]; exact this
  · obtain ⟨A', c', rfl, h3⟩ := own_appM hm h1
    refine h A' c' w' h3 ((Below.refl base w).grown h2 hb (fun k hk => ?_))
    rcases hown.form with ⟨rfl, _⟩ | ⟨g', rfl, hg', _⟩
    · simp [Value.ownBlock] at hk
    · simp [Value.ownBlock] at hk; omega
theorem Own.cut {w : World} {base n m c : Nat} {A : Option Addr} {zs : List Int} (h : Own w base A n c zs) (hm : m ≤ n) (hA : A ≠ none) : Own w base A m c (zs.take m) := by
  have hl := h.len
  refine ⟨by simp; omega, ?_⟩
  rcases h.2 with ⟨e, _⟩ | ⟨g, cap, cur, e, hb, hh, h1, h2, h3, h4⟩
  · injection e with e1; exact absurd e1 hA
  · injection e with e1 e2 e3
    subst e1 e3
    refine .inr ⟨g, c, cur, rfl, hb, hh, by omega, h2, h3, ?_⟩
    rw [List.map_take, ← h4, List.take_take, Nat.mul_one, Nat.mul_one, Nat.min_eq_left hm]
/-- a call gives a new slice of n elements that reads as zs -/
def NewIntsN (w : World) (n : Nat) (zs : List Int) (e : Ending) (w' : World) : Prop := ∃ A c, e = .returned (.slice A n c) ∧ Own w' w.heap.size A n c zs ∧ Below w.heap.size w w'
end Go.Proofs.YtajcbppndkkbpaaGreatDoor
