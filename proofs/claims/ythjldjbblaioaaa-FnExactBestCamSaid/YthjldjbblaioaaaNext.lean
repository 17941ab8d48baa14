/- Contract of the next day, the reference's. No conditions but that there are fewer than 2^20 months. -/
import Derived.Test.YthjldjbblaioaaaDate2
namespace Go.Proofs.Ythjldjbblaioaaa
open Go.RowKit
set_option linter.unusedVariables false
set_option linter.unusedSimpArgs false
/-- the date whose cells lie in block g -/
def DatAt (w : World) (g : Nat) (y m d : Int) : Prop :=
  w.cell? ⟨g, 0, none⟩ = some (.int .i64 y) ∧ w.cell? ⟨g, 1, none⟩ = some (.int .i64 m) ∧ w.cell? ⟨g, 2, none⟩ = some (.int .i64 d) ∧ ∀ o, w.frozen? ⟨g, o, none⟩ = false
section
variable {w w' : World} {g : Nat} {y m d : Int}
theorem DatAt.lt (h : DatAt w g y m d) : g < w.heap.size := World.block_lt_of_cell? w _ h.1
theorem DatAt.keep (h : DatAt w g y m d) (hk : w'.heap[g]? = w.heap[g]?) : DatAt w' g y m d := by
  have hc : ∀ o, w'.cell? ⟨g, o, none⟩ = w.cell? ⟨g, o, none⟩ := fun o => World.cell?_of_block (w := w) hk
  have hf : ∀ o, w'.frozen? ⟨g, o, none⟩ = w.frozen? ⟨g, o, none⟩ := fun o => World.frozen?_of_block (w := w) hk
  obtain ⟨h0, h1, h2, h3⟩ := h
  exact ⟨(hc 0).trans h0, (hc 1).trans h1, (hc 2).trans h2, fun o => (hf o).trans (h3 o)⟩
theorem DatAt.call (h : DatAt w g y m d) (hb : Below w.heap.size w w') : DatAt w' g y m d := h.keep (hb.block g h.lt)
theorem DatAt.drewN (h : DatAt w g y m d) (n : Nat) : DatAt (w.drewN n) g y m d := h
theorem DatAt.alloc (h : DatAt w g y m d) (o : Obj) : DatAt (w.alloc o) g y m d := h.keep (Below.heap_alloc w o g h.lt)
theorem DatAt.far (h : DatAt w g y m d) {p : Addr} (hp : p.block ≠ g) (u : Value) : DatAt (w.setCell p u) g y m d := h.keep (Below.heap_setCell w p u g (fun e => hp e.symm))
theorem DatAt.set0 (h : DatAt w g y m d) (v : Int) : DatAt (w.setCell ⟨g, 0, none⟩ (.int .i64 v)) g v m d :=
  ⟨World.cell?_setCell_same _ _ _ h.1, (World.cell?_setCell_other _ _ _ _ (by simp)).trans h.2.1, (World.cell?_setCell_other _ _ _ _ (by simp)).trans h.2.2.1, fun o => by rw [World.frozen?_setCell]; exact h.2.2.2 o⟩
theorem DatAt.set1 (h : DatAt w g y m d) (v : Int) : DatAt (w.setCell ⟨g, 1, none⟩ (.int .i64 v)) g y v d :=
  ⟨(World.cell?_setCell_other _ _ _ _ (by simp)).trans h.1, World.cell?_setCell_same _ _ _ h.2.1, (World.cell?_setCell_other _ _ _ _ (by simp)).trans h.2.2.1, fun o => by rw [World.frozen?_setCell]; exact h.2.2.2 o⟩
theorem DatAt.set2 (h : DatAt w g y m d) (v : Int) : DatAt (w.setCell ⟨g, 2, none⟩ (.int .i64 v)) g y m v :=
  ⟨(World.cell?_setCell_other _ _ _ _ (by simp)).trans h.1, (World.cell?_setCell_other _ _ _ _ (by simp)).trans h.2.1, World.cell?_setCell_same _ _ _ h.2.2.1, fun o => by rw [World.frozen?_setCell]; exact h.2.2.2 o⟩
theorem dat_new (w : World) (t : TypeId) (y m d : Int) : DatAt (w.alloc (.cells #[.int .i64 y, .int .i64 m, .int .i64 d] t)) w.heap.size y m d := ⟨by simp [go_sem], by simp [go_sem], by simp [go_sem], fun o => by simp [go_sem]⟩
end
/-- the world of a walk through the next day: the date in block B, the result behind it -/
structure DW (w W : World) (y m d : Int) : Prop where
  dt : DatAt W w.heap.size y m d
  rs : DatAt W (w.heap.size + 1) 0 0 0
  bl : Below w.heap.size w W
theorem DW.drewN {w W : World} {y m d : Int} (h : DW w W y m d) (n : Nat) : DW w (W.drewN n) y m d := ⟨h.dt, h.rs, below_drewN h.bl n⟩
theorem DW.set0 {w W : World} {y m d : Int} (h : DW w W y m d) (v : Int) : DW w (W.setCell ⟨w.heap.size, 0, none⟩ (.int .i64 v)) v m d := ⟨h.dt.set0 v, h.rs.far (by simp) _, h.bl.setCell (Nat.le_refl _) _⟩
theorem DW.set1 {w W : World} {y m d : Int} (h : DW w W y m d) (v : Int) : DW w (W.setCell ⟨w.heap.size, 1, none⟩ (.int .i64 v)) y v d := ⟨h.dt.set1 v, h.rs.far (by simp) _, h.bl.setCell (Nat.le_refl _) _⟩
theorem DW.set2 {w W : World} {y m d : Int} (h : DW w W y m d) (v : Int) : DW w (W.setCell ⟨w.heap.size, 2, none⟩ (.int .i64 v)) y m v := ⟨h.dt.set2 v, h.rs.far (by simp) _, h.bl.setCell (Nat.le_refl _) _⟩
theorem DW.start (w : World) (t : TypeId) (y m d : Int) : DW w ((w.alloc (.cells #[.int .i64 y, .int .i64 m, .int .i64 d] t)).alloc (.cells #[.int .i64 0, .int .i64 0, .int .i64 0] t)) y m d :=
  ⟨(dat_new w t y m d).alloc _, by have := dat_new (w.alloc (.cells #[.int .i64 y, .int .i64 m, .int .i64 d] t)) t 0 0 0; simpa using this, ((Below.refl w.heap.size w).alloc (Nat.le_refl _) _).alloc (by simp) _⟩
theorem below_rs {w W : World} (h : Below w.heap.size w W) {a b c : Value} : Below w.heap.size w (((W.setCell ⟨w.heap.size + 1, 0, none⟩ a).setCell ⟨w.heap.size + 1, 1, none⟩ b).setCell ⟨w.heap.size + 1, 2, none⟩ c) := ((h.setCell (by simp) _).setCell (by simp) _).setCell (by simp) _
end Go.Proofs.Ythjldjbblaioaaa
