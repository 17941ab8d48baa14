/- The law of append of one int64 to a slice of the call's own, in the words of Ints; the word for results that are new slices. No conditions but that a slice stays below 2^40 elements. -/
import Derived.Test.YtajcbppndkkbpaaGreatDoorInts
namespace Go.Proofs.YtajcbppndkkbpaaGreatDoor
open Go.RowKit
set_option linter.unusedVariables false
set_option linter.unusedSimpArgs false

theorem own_append {w : World} {base n : Nat} {zs : List Int} {v' : Value} {x : Int} (h : w.ownsRow base 2 1 v' (n + 1) (zs.map (Value.int .i64) ++ [.int .i64 x])) :
    ∃ A' c', v' = .slice A' (n + 1) c' ∧ Own w base A' (n + 1) c' (zs ++ [x]) := by
  rcases h.2 with ⟨_, h0⟩ | ⟨g, cap, cur, e, _⟩
  · omega
  · refine ⟨_, _, e, ?_⟩
    subst e
    have e2 : (zs ++ [x]).map (Value.int .i64) = zs.map (Value.int .i64) ++ [.int .i64 x] := by simp
    unfold Own
    rw [e2]; exact h

theorem wpList_app {ops : Array Oper} {rest : List Oper} {o : Oper} {a : Act} {Q : Exit → Act → World → Prop} (hgd : o.guard = none) (s x : Operand)
    (ho : o.op = .call { callee := .builtin .append, args := #[s, x], argTypes := #[24, 24] })
    (w : World) (base : Nat) (A : Option Addr) (n c : Nat) (zs : List Int) (hs : a.eval s = .slice A n c) (hown : Own w base A n c zs) (g : Nat) (hx : a.eval x = .slice (some ⟨g, 0, none⟩) 1 1) (v : Int)
    (hcell : w.cell? ⟨g, 0, none⟩ = some (.int .i64 v)) (hn : n ≤ 1000000000000) (hb : base ≤ w.heap.size)
    (h : ∀ A' c' w', Own w' base A' (n + 1) c' (zs ++ [v]) → Below base w w' → wpList Tryz.prog ops Q rest (a.put o.dst (.slice A' (n + 1) c')) w') : wpList Tryz.prog ops Q (o :: rest) a w := by
  obtain ⟨i0, hi, hz0, hz1, hz2⟩ := info_parts info_int64
  refine wpList_append_own_at (P := Tryz.prog) w hgd s x 24 ho base 2 i0 (.int .i64 0) 1 8 Tryz.underlying24 hi hz0 hz1 hz2 rfl (by omega) (.slice A n c) n (zs.map (Value.int .i64)) hs hown ⟨g, 0, none⟩ 1 1 [.int .i64 v] hx rfl
    (fun j u hj => ?_) (by simp [Value.oneCell']) (by simp only [maxLen]; omega) (by omega) hb (fun v' w' h1 h2 _ _ => ?_)
  · match j, hj with
    | 0, hj =>
      simp at hj
      subst hj
      simpa [Addr.add] using hcell
  · obtain ⟨A', c', rfl, h3⟩ := own_append h1
    refine h A' c' w' h3 ((Below.refl base w).grown h2 hb (fun k hk => ?_))
    rcases hown.form with ⟨rfl, _⟩ | ⟨g', rfl, hg', _⟩
    · simp [Value.ownBlock] at hk
    · simp [Value.ownBlock] at hk; omega
theorem own_empty {w : World} {base g : Nat} (hg : g = w.heap.size) (hb : base ≤ w.heap.size) : Own (w.alloc (.cells #[] 2)) base (some ⟨g, 0, none⟩) 0 0 [] := by
  subst hg
  exact World.ownsRow_lit w #[] 0 hb (Nat.zero_le _) (by simp)
/-- a call gives a new slice that reads as zs -/
def NewInts (w : World) (zs : List Int) (e : Ending) (w' : World) : Prop := ∃ A n c, e = .returned (.slice A n c) ∧ Own w' w.heap.size A n c zs ∧ Below w.heap.size w w'
/-- a call gives a new slice that reads as zs, and a code -/
def NewIntsCode (w : World) (zs : List Int) (code : Int) (e : Ending) (w' : World) : Prop := ∃ A n c, e = .returned (.tuple #[.slice A n c, .int .i64 code]) ∧ Own w' w.heap.size A n c zs ∧ Below w.heap.size w w'
end Go.Proofs.YtajcbppndkkbpaaGreatDoor
