/- Words for slices of int64 that are read or owned, and the contracts of the laws' own helpers on them. No conditions but that a slice has at most 2^20 elements where it is copied. -/
import Derived.Test.YtajcbppndkkbpaaGreatDoorBase
import Derived.OwnWalk
import Derived.Laws.OwnMore
import Derived.Laws.MakeOwn
import Derived.Maps.AppendAt
namespace Go.Proofs.YtajcbppndkkbpaaGreatDoor
open Go.RowKit
set_option linter.unusedVariables false
set_option linter.unusedSimpArgs false

/-- the slice at A of n elements reads as zs; its cells lie below block B -/
def Ints (w : World) (B : Nat) (A : Option Addr) (n : Nat) (zs : List Int) : Prop :=
  zs.length = n ∧ (0 < n → ∃ b off, A = some ⟨b, off, none⟩ ∧ b < B ∧ ∀ j, j < n → w.cell? ⟨b, off + j, none⟩ = some (.int .i64 (zs.getD j 0)))
/-- the slice A of n elements is the call's own: it lies in a block from 'base' on, may be written, and reads as zs -/
def Own (w : World) (base : Nat) (A : Option Addr) (n c : Nat) (zs : List Int) : Prop := w.ownsRow base 2 1 (.slice A n c) n (zs.map (Value.int .i64))

section
variable {w w' : World} {B B' n c base : Nat} {A : Option Addr} {zs : List Int}
theorem Ints.len (h : Ints w B A n zs) : zs.length = n := h.1
theorem Ints.at_ (h : Ints w B A n zs) {k : Nat} (hk : k < n) : ∃ b off, A = some ⟨b, off, none⟩ ∧ b < B ∧ w.cell? ⟨b, off + k, none⟩ = some (.int .i64 (zs.getD k 0)) := by
  obtain ⟨b, off, e, hb, hc⟩ := h.2 (by omega)
  exact ⟨b, off, e, hb, hc k hk⟩
theorem Ints.keep (h : Ints w B A n zs) (hk : ∀ p : Addr, p.block < B → w'.cell? p = w.cell? p) : Ints w' B A n zs :=
  ⟨h.1, fun hn => by
    obtain ⟨b, off, e, hb, hc⟩ := h.2 hn
    exact ⟨b, off, e, hb, fun j hj => (hk _ hb).trans (hc j hj)⟩⟩
theorem Ints.more (h : Ints w B A n zs) (hB : B ≤ B') : Ints w B' A n zs :=
  ⟨h.1, fun hn => by
    obtain ⟨b, off, e, hb, hc⟩ := h.2 hn
    exact ⟨b, off, e, by omega, hc⟩⟩
theorem Ints.below (h : Ints w B A n zs) (hb : Below B w w') : Ints w' B A n zs := h.keep fun _ hp => hb.cell hp
theorem Ints.call (h : Ints w B A n zs) (hB : B ≤ w.heap.size) (hb : Below w.heap.size w w') : Ints w' B A n zs := h.keep fun _ hp => hb.cell (by omega)
theorem Ints.alloc (h : Ints w B A n zs) (hB : B ≤ w.heap.size) (o : Obj) : Ints (w.alloc o) B A n zs := h.keep fun p hp => World.cell?_alloc_lt w o p (by omega)
theorem Ints.setCell (h : Ints w B A n zs) {p : Addr} (hB : B ≤ p.block) (u : Value) : Ints (w.setCell p u) B A n zs :=
  h.keep fun q hq => World.cell?_setCell_other w p q u (fun e => by subst e; omega)
theorem Ints.drewN (h : Ints w B A n zs) (k : Nat) : Ints (w.drewN k) B A n zs := h
theorem Ints.drew (h : Ints w B A n zs) : Ints w.drew B A n zs := h
theorem Own.len (h : Own w base A n c zs) : zs.length = n := by simpa using h.1
theorem Own.form (h : Own w base A n c zs) : (A = none ∧ n = 0 ∧ c = 0) ∨ ∃ g, A = some ⟨g, 0, none⟩ ∧ base ≤ g ∧ g < w.heap.size := by
  rcases h.2 with ⟨e, h0⟩ | ⟨g, cap, cur, e, hb, hh, _⟩
  · injection e with e1 e2 e3; exact .inl ⟨e1, h0, e3⟩
  · injection e with e1 e2 e3; exact .inr ⟨g, e1, hb, (Array.getElem?_eq_some_iff.1 hh).1⟩
theorem Own.ints (h : Own w base A n c zs) (hB : w.heap.size ≤ B) : Ints w B A n zs := by
  refine ⟨h.len, fun hn => ?_⟩
  rcases h.form with ⟨_, h0, _⟩ | ⟨g, rfl, _, hlt⟩
  · omega
  · refine ⟨g, 0, rfl, by omega, fun j hj => ?_⟩
    have h2 : w.ownsRow base 2 1 (.slice (some ⟨g, 0, none⟩) n c) n (zs.map (Value.int .i64)) := h
    rw [Nat.zero_add, World.ownsRow.cellAt h2 j (by omega)]
    have hl := h.len
    simp [List.getElem?_map, List.getElem?_eq_getElem (show j < zs.length by omega)]
theorem Own.block (h : Own w base A n c zs) (hk : ∀ b, base ≤ b → b < w.heap.size → w'.heap[b]? = w.heap[b]?) : Own w' base A n c zs := by
  refine ⟨h.1, ?_⟩
  rcases h.2 with h0 | ⟨g, cap, cur, e, hb, hh, hr⟩
  · exact .inl h0
  · exact .inr ⟨g, cap, cur, e, hb, by rw [hk g hb (Array.getElem?_eq_some_iff.1 hh).1]; exact hh, hr⟩
theorem Own.call (h : Own w base A n c zs) (hb : Below w.heap.size w w') : Own w' base A n c zs := h.block fun b _ hl => hb.block b hl
theorem Own.alloc (h : Own w base A n c zs) (o : Obj) : Own (w.alloc o) base A n c zs := World.ownsRow.alloc h o
theorem Own.drewN (h : Own w base A n c zs) (k : Nat) : Own (w.drewN k) base A n c zs := h
theorem Own.drew (h : Own w base A n c zs) : Own w.drew base A n c zs := h
theorem Own.low (h : Own w base A n c zs) {b0 : Nat} (hb : b0 ≤ base) : Own w b0 A n c zs := by
  refine ⟨h.1, ?_⟩
  rcases h.2 with h0 | ⟨g, cap, cur, e, hb', hr⟩
  · exact .inl h0
  · exact .inr ⟨g, cap, cur, e, by omega, hr⟩
/-- a store into a block that is not the row's -/
theorem Own.far (h : Own w base A n c zs) {p : Addr} (hp : p.block < base) (u : Value) : Own (w.setCell p u) base A n c zs := h.block fun b hb _ => Below.heap_setCell w p u b (by omega)
theorem Own.nil_ : Own w base none 0 0 [] := World.ownsRow_nil w base _ 1
end

theorem info_int64 : (Tryz.prog.info? 2).map (fun i => (i.zero, i.size, i.bytes)) = some (some (.int .i64 0), 1, 8) := by kernel_rfl

theorem getD_of {zs : List Int} {k : Nat} (h : k < zs.length) : zs.getD k 0 = zs[k] := by simp [List.getD, List.getElem?_eq_getElem h]
theorem list_eq_of {zs ys : List Int} (hl : zs.length = ys.length) (h : ∀ j, j < zs.length → zs.getD j 0 = ys.getD j 0) : zs = ys := by
  apply List.ext_getElem hl
  intro j h1 h2
  have := h j h1
  rwa [getD_of h1, getD_of h2] at this
/-- the numbers that are written into a slice: k, k + 1 .. -/
def marks (k : Int) (n : Nat) : List Int := (List.range n).map (fun j : Nat => k + (j : Int))
theorem marks_len (k : Int) (n : Nat) : (marks k n).length = n := by simp [marks]
theorem marks_getD {k : Int} {n j : Nat} (h : j < n) : (marks k n).getD j 0 = k + j := by
  rw [getD_of (by rw [marks_len]; exact h)]; simp [marks]
end Go.Proofs.YtajcbppndkkbpaaGreatDoor
