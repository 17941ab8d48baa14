/- What is known on the way of a draw of a list beside a wheel: the source, the boxes, the wheel's gaps, the list so far. No conditions. -/
import Derived.Test.YtlnoolnbpohjhaaWhSt
namespace Go.Proofs.Ytlnoolnbpohjhaa
open Go.RowKit
set_option linter.unusedVariables false
set_option linter.unusedSimpArgs false
def LiSt (w wr : World) (g r p Q : Nat) (A : Option Addr) (n c : Nat) (K : Int) (L : Option Addr) (m d : Nat) (zs : List Int) (E : Option Addr) (k e : Nat) (ys : List Int) : Prop :=
  Src wr g A n c K ∧ w.grownBy wr (some g) ∧ wr.cell? ⟨p, 0, none⟩ = some (.slice L m d) ∧ (∀ o, wr.frozen? ⟨p, o, none⟩ = false) ∧
    wr.cell? ⟨r, 0, none⟩ = some (.slice none 0 0) ∧ (∀ o, wr.frozen? ⟨r, o, none⟩ = false) ∧ Ints wr Q L m zs ∧ Own wr Q E k e ys ∧
    r < g ∧ g < p ∧ p < Q ∧ Q ≤ wr.heap.size ∧ w.heap.size ≤ r ∧ (∀ b off, L = some ⟨b, off, none⟩ → b ≠ g ∧ b ≠ r)
section
variable {w wr w1 : World} {g r p Q n c m d k e k' e' : Nat} {A L E E' : Option Addr} {K K1 : Int} {zs ys ys' : List Int}
theorem LiSt.new (hs : Src wr g A n c K) (hq : w.grownBy wr (some g)) (h3 : wr.cell? ⟨p, 0, none⟩ = some (.slice L m d)) (h4 : ∀ o, wr.frozen? ⟨p, o, none⟩ = false) (h5 : wr.cell? ⟨r, 0, none⟩ = some (.slice none 0 0)) (h6 : ∀ o, wr.frozen? ⟨r, o, none⟩ = false)
    (ho : Own wr (g + 1) L m d zs) (hr : r < g) (hgp : g < p) (hp : p < wr.heap.size) (hw : w.heap.size ≤ r) :
    LiSt w (wr.alloc (.cells #[] 2)) g r p wr.heap.size A n c K L m d zs (some ⟨wr.heap.size, 0, none⟩) 0 0 [] := by
  have hb : Below wr.heap.size wr (wr.alloc (.cells #[] 2)) := (Below.refl _ _).alloc (Nat.le_refl _) _
  refine ⟨hs.alloc _, only_alloc hq _, (hb.cell (by simpa using hp)).trans h3, fun o => (hb.frozen (by simpa using hp)).trans (h4 o), (hb.cell (by simp; omega)).trans h5, fun o => (hb.frozen (by simp; omega)).trans (h6 o), (ho.ints (Nat.le_refl _)).below hb, own_empty rfl (Nat.le_refl _), hr, hgp, hp, by simp, hw, fun b off hb => ?_⟩
  rcases ho.form with ⟨e, _, _⟩ | ⟨g2, e, l1, l2⟩
  · rw [hb] at e; cases e
  · rw [hb] at e; injection e with e; injection e with e; subst e; omega
theorem LiSt.draw (h : LiSt w wr g r p Q A n c K L m d zs E k e ys) (hs : Src w1 g A n c K1) (hq : wr.grownBy w1 (some g)) : LiSt w w1 g r p Q A n c K1 L m d zs E k e ys := by
  obtain ⟨h1, h2, h3, h4, h5, h6, h7, h8, h9, ha, hb, hc, hw, hd⟩ := h
  refine ⟨hs, h2.trans hq, hq.cell h3 (by simp; omega), frozen_only hq (by omega) (by omega) h4, hq.cell h5 (by simp; omega), frozen_only hq (by omega) (by omega) h6, ⟨h7.1, fun hn => ?_⟩, h8.only hq (by omega), h9, ha, hb, Nat.le_trans hc hq.size, hw, hd⟩
  obtain ⟨b, off, e, hbl, hcc⟩ := h7.2 hn
  exact ⟨b, off, e, hbl, fun j hj => hq.cell (hcc j hj) (by simpa using (hd b off e).1)⟩
theorem LiSt.more (h : LiSt w wr g r p Q A n c K L m d zs E k e ys) (hK : K ≤ K1) : LiSt w wr g r p Q A n c K1 L m d zs E k e ys := ⟨h.1.more hK, h.2⟩
/-- behind what changes nothing below Q but may change the list -/
theorem LiSt.app (h : LiSt w wr g r p Q A n c K L m d zs E k e ys) (hb2 : Below Q wr w1) (ho : Own w1 Q E' k' e' ys') : LiSt w w1 g r p Q A n c K L m d zs E' k' e' ys' := by
  obtain ⟨h1, h2, h3, h4, h5, h6, h7, h8, h9, ha, hb, hc, hw, hd⟩ := h
  exact ⟨h1.belowB hb2 (by omega), only_belowB h2 (hb2.mono (by omega)), (hb2.cell (by simp; omega)).trans h3, fun o => (hb2.frozen (by simp; omega)).trans (h4 o), (hb2.cell (by simp; omega)).trans h5, fun o => (hb2.frozen (by simp; omega)).trans (h6 o), h7.below hb2, ho, h9, ha, hb, Nat.le_trans hc hb2.size, hw, hd⟩
theorem LiSt.app1 (h : LiSt w wr g r p Q A n c K L m d zs E k e ys) (o : Obj) (hb2 : Below Q (wr.alloc o) w1) (ho : Own w1 Q E' k' e' ys') : LiSt w w1 g r p Q A n c K L m d zs E' k' e' ys' :=
  h.app (((Below.refl _ _).alloc (by obtain ⟨h1, h2, h3, h4, h5, h6, h7, h8, h9, ha, hb, hc, hw, hd⟩ := h; exact hc) o).trans hb2) ho
theorem LiSt.call (h : LiSt w wr g r p Q A n c K L m d zs E k e ys) (hb2 : Below wr.heap.size wr w1) : LiSt w w1 g r p Q A n c K L m d zs E k e ys := by
  have ho := h.2.2.2.2.2.2.2.1.call hb2
  exact h.app (hb2.mono (by obtain ⟨h1, h2, h3, h4, h5, h6, h7, h8, h9, ha, hb, hc, hw, hd⟩ := h; exact hc)) ho
theorem LiSt.alloc (h : LiSt w wr g r p Q A n c K L m d zs E k e ys) (o : Obj) : LiSt w (wr.alloc o) g r p Q A n c K L m d zs E k e ys := h.call ((Below.refl _ _).alloc (Nat.le_refl _) _)
theorem LiSt.drewN (h : LiSt w wr g r p Q A n c K L m d zs E k e ys) (j : Nat) : LiSt w (wr.drewN j) g r p Q A n c K L m d zs E k e ys := h.call (below_drewN (Below.refl _ _) j)
theorem LiSt.box (h : LiSt w wr g r p Q A n c K L m d zs E k e ys) : wr.cell? ⟨p, 0, none⟩ = some (.slice L m d) ∧ wr.frozen? ⟨p, 0, none⟩ = false ∧ wr.cell? ⟨r, 0, none⟩ = some (.slice none 0 0) ∧ wr.frozen? ⟨r, 0, none⟩ = false ∧ p < wr.heap.size ∧ Q ≤ wr.heap.size := by
  obtain ⟨h1, h2, h3, h4, h5, h6, h7, h8, h9, ha, hb, hc, hw, hd⟩ := h
  exact ⟨h3, h4 0, h5, h6 0, by omega, hc⟩
theorem LiSt.done (h : LiSt w wr g r p Q A n c K L m d zs E k e ys) : Ints (wr.setCell ⟨r, 0, none⟩ (.slice L m d)) (wr.setCell ⟨r, 0, none⟩ (.slice L m d)).heap.size L m zs ∧ Ints (wr.setCell ⟨r, 0, none⟩ (.slice L m d)) (wr.setCell ⟨r, 0, none⟩ (.slice L m d)).heap.size E k ys ∧ w.grownBy (wr.setCell ⟨r, 0, none⟩ (.slice L m d)) (some g) := by
  obtain ⟨h1, h2, h3, h4, h5, h6, h7, h8, h9, ha, hb, hc, hw, hd⟩ := h
  have hz : (wr.setCell ⟨r, 0, none⟩ (.slice L m d)).heap.size = wr.heap.size := by simp
  refine ⟨⟨h7.1, fun hn => ?_⟩, (h8.far (p := ⟨r, 0, none⟩) (by simp; omega) _).ints (Nat.le_refl _), only_setCell h2 (.inr (by simpa using hw)) _⟩
  obtain ⟨b, off, e, hbl, hcc⟩ := h7.2 hn
  refine ⟨b, off, e, by rw [hz]; omega, fun j hj => ?_⟩
  have hne := (hd b off e).2
  rw [World.cell?_setCell_other wr _ _ _ (fun e2 => hne (congrArg Addr.block e2).symm)]
  exact hcc j hj
end
end Go.Proofs.Ytlnoolnbpohjhaa
