/- A box that holds one slice, from world to world. No conditions. -/
import Derived.Test.YtajcbppndkkbpaaGreatDoorLawKit
namespace Go.Proofs.YtajcbppndkkbpaaGreatDoor
open Go.RowKit
set_option linter.unusedVariables false
set_option linter.unusedSimpArgs false
/-- the box in block g holds S -/
def Work1 (w : World) (g : Nat) (S : Value) : Prop := w.cell? ⟨g, 0, none⟩ = some S ∧ ∀ o, w.frozen? ⟨g, o, none⟩ = false
theorem Work1.lt {w : World} {g : Nat} {S : Value} (h : Work1 w g S) : g < w.heap.size := World.block_lt_of_cell? w _ h.1
theorem Work1.keep {w w' : World} {g : Nat} {S : Value} (h : Work1 w g S) (hk : w'.heap[g]? = w.heap[g]?) : Work1 w' g S :=
  ⟨(World.cell?_of_block (w := w) hk).trans h.1, fun o => (World.frozen?_of_block (w := w) hk).trans (h.2 o)⟩
theorem Work1.call {w w' : World} {g : Nat} {S : Value} (h : Work1 w g S) (hb : Below w.heap.size w w') : Work1 w' g S := h.keep (hb.block g h.lt)
theorem Work1.alloc {w : World} {g : Nat} {S : Value} (h : Work1 w g S) (o : Obj) : Work1 (w.alloc o) g S := h.keep (Below.heap_alloc w o g h.lt)
theorem work1_new (w : World) (T : TypeId) (S : Value) : Work1 (w.alloc (.cells #[S] T)) w.heap.size S := ⟨by simp, fun o => by simp⟩
end Go.Proofs.YtajcbppndkkbpaaGreatDoor
