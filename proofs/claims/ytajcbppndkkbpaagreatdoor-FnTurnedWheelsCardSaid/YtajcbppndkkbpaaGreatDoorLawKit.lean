/- Words for laws over new slices: what stays as it was when one block alone is written. No conditions. -/
import Derived.Test.YtajcbppndkkbpaaGreatDoorApp
namespace Go.Proofs.YtajcbppndkkbpaaGreatDoor
open Go.RowKit
set_option linter.unusedVariables false
set_option linter.unusedSimpArgs false
/-- an own slice whose block lies from lo to hi -/
def OwnIn (W : World) (lo hi : Nat) (A : Option Addr) (n c : Nat) (zs : List Int) : Prop := Own W lo A n c zs ∧ ∀ ad, A = some ad → ad.block < hi
section
variable {W W' : World} {lo hi B n c : Nat} {A : Option Addr} {zs ys : List Int} {row : Option Nat}
theorem OwnIn.of (h : Own W lo A n c zs) : OwnIn W lo W.heap.size A n c zs := by
  refine ⟨h, fun ad e => ?_⟩
  rcases h.form with ⟨h0, _⟩ | ⟨g, h0, _, hl⟩
  · rw [h0] at e; cases e
  · rw [h0] at e; cases e; exact hl
theorem OwnIn.len (h : OwnIn W lo hi A n c zs) : zs.length = n := h.1.len
theorem OwnIn.keep (h : OwnIn W lo hi A n c zs) (hk : ∀ b, lo ≤ b → b < hi → W'.heap[b]? = W.heap[b]?) : OwnIn W' lo hi A n c zs := by
  refine ⟨⟨h.1.1, ?_⟩, h.2⟩
  rcases h.1.2 with h0 | ⟨g, cap, cur, e, hb, hh, hr⟩
  · exact .inl h0
  · have hg : g < hi := by injection e with e1; have := h.2 _ e1; exact this
    exact .inr ⟨g, cap, cur, e, hb, by rw [hk g hb hg]; exact hh, hr⟩
theorem OwnIn.call (h : OwnIn W lo hi A n c zs) (hb : Below W.heap.size W W') (hh : hi ≤ W.heap.size) : OwnIn W' lo hi A n c zs := h.keep fun b _ hl => hb.block b (by omega)
theorem OwnIn.grown (h : OwnIn W lo hi A n c zs) (hg : W.grownBy W' row) (hr : ∀ g, row = some g → g < lo ∨ hi ≤ g) (hh : hi ≤ W.heap.size) : OwnIn W' lo hi A n c zs :=
  h.keep fun b hb hl => hg.block b (by omega) (fun e => by have := hr b e.symm; omega)
theorem OwnIn.ints (h : OwnIn W lo hi A n c zs) (hB : hi ≤ B) : Ints W B A n zs := by
  refine ⟨h.len, fun hn => ?_⟩
  have hi' := h.1.ints (Nat.le_refl _)
  obtain ⟨b, off, e, _, hc⟩ := hi'.2 hn
  exact ⟨b, off, e, by have := h.2 _ e; simp at this; omega, hc⟩
theorem OwnIn.blk (h : OwnIn W lo hi A n c zs) : ∀ g, (Value.slice A n c).ownBlock = some g → lo ≤ g ∧ g < hi := by
  intro g hg
  rcases h.1.form with ⟨h0, _⟩ | ⟨g', h0, hb, _⟩
  · rw [h0] at hg; simp [Value.ownBlock] at hg
  · rw [h0] at hg
    simp [Value.ownBlock] at hg
    have := h.2 _ h0
    simp at this
    omega
/-- behind a writing into the row itself -/
theorem OwnIn.self (h : OwnIn W lo hi A n c zs) (h' : Own W' lo A n c ys) : OwnIn W' lo hi A n c ys := ⟨h', h.2⟩
theorem OwnIn.below (h : OwnIn W lo hi A n c zs) {w : World} (hb : Below w.heap.size w W) (hg : W.grownBy W' (Value.slice A n c).ownBlock) (hl : w.heap.size ≤ lo) : Below w.heap.size w W' :=
  hb.grown hg hb.size (fun k hk => by have := (h.blk k hk).1; omega)
theorem OwnIn.size (h : OwnIn W lo hi A n c zs) (hg : W.grownBy W' (Value.slice A n c).ownBlock) : W.heap.size ≤ W'.heap.size := hg.size
theorem OwnIn.cell (h : OwnIn W lo hi A n c zs) (hg : W.grownBy W' (Value.slice A n c).ownBlock) {b o : Nat} {v : Value} (hc : W.cell? ⟨b, o, none⟩ = some v) (hb : b < lo ∨ hi ≤ b) : W'.cell? ⟨b, o, none⟩ = some v :=
  hg.cell hc (fun e => by have := h.blk b e.symm; omega)
theorem Ints.grown (h : Ints W B A n zs) (hg : W.grownBy W' row) (hB : B ≤ W.heap.size) (hr : ∀ g, row = some g → B ≤ g) : Ints W' B A n zs :=
  h.keep fun p hp => World.cell?_of_block (hg.block p.block (by omega) (fun e => by have := hr _ e.symm; omega))
end
end Go.Proofs.YtajcbppndkkbpaaGreatDoor
