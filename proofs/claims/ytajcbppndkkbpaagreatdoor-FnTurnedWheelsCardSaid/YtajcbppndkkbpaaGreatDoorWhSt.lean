/- What is known on the way of a draw of a slice in a struct's box: the source, the boxes, the slice so far. No conditions. -/
import Derived.Test.YtajcbppndkkbpaaGreatDoorSrcOwn
namespace Go.Proofs.YtajcbppndkkbpaaGreatDoor
open Go.RowKit
set_option linter.unusedVariables false
set_option linter.unusedSimpArgs false
theorem Own.cap {w : World} {base n c : Nat} {A : Option Addr} {zs : List Int} (h : Own w base A n c zs) : n ≤ c ∧ c ≤ 9223372036854775807 := by
  rcases h.2 with ⟨e, h0⟩ | ⟨g, cap, cur, e, hb, hh, h1, h2, h3, h4⟩
  · injection e with e1 e2 e3; omega
  · injection e with e1 e2 e3
    subst e3
    exact ⟨h1, by unfold maxLen at h2; omega⟩
/-- only the own row's block counts -/
theorem Own.one {w w' : World} {base n c : Nat} {A : Option Addr} {zs : List Int} (h : Own w base A n c zs) (hk : ∀ b, A = some ⟨b, 0, none⟩ → b < w.heap.size → w'.heap[b]? = w.heap[b]?) : Own w' base A n c zs := by
  refine ⟨h.1, ?_⟩
  rcases h.2 with h0 | ⟨g, cap, cur, e, hb, hh, hr⟩
  · exact .inl h0
  · refine .inr ⟨g, cap, cur, e, hb, ?_, hr⟩
    injection e with e1
    rw [hk g e1 (Array.getElem?_eq_some_iff.1 hh).1]; exact hh
/-- the own row's block is not b -/
def NotAt (A : Option Addr) (p : Nat) : Prop := ∀ b, A = some ⟨b, 0, none⟩ → b ≠ p
theorem Own.setOut {w : World} {base n c : Nat} {A : Option Addr} {zs : List Int} (h : Own w base A n c zs) {p : Addr} (hp : NotAt A p.block) (u : Value) : Own (w.setCell p u) base A n c zs :=
  h.one fun b hb _ => Below.heap_setCell w p u b (hp b hb)
theorem Own.notAt {w : World} {base n c p : Nat} {A : Option Addr} {zs : List Int} (h : Own w base A n c zs) (hp : w.heap.size ≤ p ∨ p < base) : NotAt A p := by
  intro b hb
  rcases h.form with ⟨e, _, _⟩ | ⟨g, e, h1, h2⟩
  · rw [hb] at e; cases e
  · rw [hb] at e; injection e with e; injection e with e; subst e; omega
/-- what is known on the way: the source in g, the box p of the struct, the result's box, the slice of the call's own -/
def WhSt (w wr : World) (g p q : Nat) (A : Option Addr) (n c : Nat) (K : Int) (L : Option Addr) (m d : Nat) (zs : List Int) : Prop :=
  Src wr g A n c K ∧ w.grownBy wr (some g) ∧ wr.cell? ⟨p, 0, none⟩ = some (.slice L m d) ∧ (∀ o, wr.frozen? ⟨p, o, none⟩ = false) ∧
    wr.cell? ⟨w.heap.size, 0, none⟩ = some (.slice none 0 0) ∧ (∀ o, wr.frozen? ⟨w.heap.size, o, none⟩ = false) ∧ Own wr q L m d zs ∧ p < wr.heap.size ∧ NotAt L p ∧ w.heap.size < p ∧ w.heap.size < q
section
variable {w wr w1 : World} {g p q n c m d m' d' : Nat} {A L L' : Option Addr} {K K1 : Int} {zs zs' : List Int}
theorem WhSt.new (hs : Src wr g A n c K) (hq : w.grownBy wr (some g)) (h5 : wr.cell? ⟨w.heap.size, 0, none⟩ = some (.slice none 0 0)) (h6 : ∀ o, wr.frozen? ⟨w.heap.size, o, none⟩ = false) (ho : Own wr q L m d zs) (hlt : w.heap.size < wr.heap.size) (hwq : w.heap.size < q) (T : TypeId) :
    WhSt w (wr.alloc (.cells #[.slice L m d] T)) g wr.heap.size q A n c K L m d zs := by
  have hb : Below wr.heap.size wr (wr.alloc (.cells #[.slice L m d] T)) := (Below.refl _ _).alloc (Nat.le_refl _) _
  exact ⟨hs.alloc _, only_alloc hq _, by simp, fun o => by simp, (hb.cell (by simpa using hlt)).trans h5, fun o => (hb.frozen (by simpa using hlt)).trans (h6 o), ho.alloc _, by simp, ho.notAt (.inl (Nat.le_refl _)), hlt, hwq⟩
theorem WhSt.draw (h : WhSt w wr g p q A n c K L m d zs) (hg : g < w.heap.size) (hs : Src w1 g A n c K1) (hq : wr.grownBy w1 (some g)) : WhSt w w1 g p q A n c K1 L m d zs := by
  obtain ⟨h1, h2, h3, h4, h5, h6, h7, h8, h9, ha, hb⟩ := h
  exact ⟨hs, h2.trans hq, hq.cell h3 (by simp; omega), frozen_only hq h8 (by omega) h4, hq.cell h5 (by simp; omega), frozen_only hq (by omega) (by omega) h6, h7.only hq (by omega), Nat.lt_of_lt_of_le h8 hq.size, h9, ha, hb⟩
theorem WhSt.more (h : WhSt w wr g p q A n c K L m d zs) (hK : K ≤ K1) : WhSt w wr g p q A n c K1 L m d zs := ⟨h.1.more hK, h.2⟩
theorem WhSt.drewN (h : WhSt w wr g p q A n c K L m d zs) (k : Nat) : WhSt w (wr.drewN k) g p q A n c K L m d zs := by
  obtain ⟨h1, h2, h3, h4, h5, h6, h7, h8, h9, ha, hb⟩ := h
  exact ⟨Src.drewN h1 k, only_drewN h2 k, h3, h4, h5, h6, h7.drewN k, h8, h9, ha, hb⟩
theorem WhSt.drew (h : WhSt w wr g p q A n c K L m d zs) : WhSt w wr.drew g p q A n c K L m d zs := by
  obtain ⟨h1, h2, h3, h4, h5, h6, h7, h8, h9, ha, hb⟩ := h
  exact ⟨h1, only_drew h2, h3, h4, h5, h6, h7.drew, h8, h9, ha, hb⟩
theorem WhSt.alloc (h : WhSt w wr g p q A n c K L m d zs) (o : Obj) : WhSt w (wr.alloc o) g p q A n c K L m d zs := by
  obtain ⟨h1, h2, h3, h4, h5, h6, h7, h8, h9, ha, hb⟩ := h
  have hb2 : Below wr.heap.size wr (wr.alloc o) := (Below.refl _ _).alloc (Nat.le_refl _) o
  exact ⟨h1.alloc _, only_alloc h2 _, (hb2.cell h8).trans h3, fun o => (hb2.frozen h8).trans (h4 o), (hb2.cell (by simp; omega)).trans h5, fun o => (hb2.frozen (by simp; omega)).trans (h6 o), h7.alloc _, by simp; omega, h9, ha, hb⟩
/-- behind an append whose new element was laid in a box of its own -/
theorem WhSt.app0 (h : WhSt w wr g p q A n c K L m d zs) {o : Obj} (hb : Below (p + 1) (wr.alloc o) w1) :
    w1.cell? ⟨p, 0, none⟩ = some (.slice L m d) ∧ w1.frozen? ⟨p, 0, none⟩ = false ∧ w1.cell? ⟨w.heap.size, 0, none⟩ = some (.slice none 0 0) ∧ w1.frozen? ⟨w.heap.size, 0, none⟩ = false := by
  obtain ⟨h1, h2, h3, h4, h5, h6, h7, h8, h9, ha, hb'⟩ := h.alloc o
  exact ⟨(hb.cell (by simp)).trans h3, (hb.frozen (by simp)).trans (h4 0), (hb.cell (by simp; omega)).trans h5, (hb.frozen (by simp; omega)).trans (h6 0)⟩
/-- and the store of the new slice -/
theorem WhSt.app (h : WhSt w wr g p (p + 1) A n c K L m d zs) (hg : g < w.heap.size) (o : Obj) (hb : Below (p + 1) (wr.alloc o) w1) (ho : Own w1 (p + 1) L' m' d' zs') :
    WhSt w (w1.setCell ⟨p, 0, none⟩ (.slice L' m' d')) g p (p + 1) A n c K L' m' d' zs' := by
  obtain ⟨h1, h2, h3, h4, h5, h6, h7, h8, h9, ha, hq⟩ := h
  have hb2 : Below (p + 1) wr w1 := ((Below.refl _ _).alloc (by omega) o).trans hb
  have hz := hb2.size
  have hne : p ≠ w.heap.size := by omega
  have c3 : w1.cell? ⟨p, 0, none⟩ = some (.slice L m d) := (hb2.cell (by simp)).trans h3
  have c5 : w1.cell? ⟨w.heap.size, 0, none⟩ = some (.slice none 0 0) := (hb2.cell (by simp; omega)).trans h5
  have f3 : ∀ o, w1.frozen? ⟨p, o, none⟩ = false := fun o => (hb2.frozen (by simp)).trans (h4 o)
  have f5 : ∀ o, w1.frozen? ⟨w.heap.size, o, none⟩ = false := fun o => (hb2.frozen (by simp; omega)).trans (h6 o)
  refine ⟨Src.set (h1.belowB hb2 (by omega)) (by simp; omega) _, only_setCell (only_belowB h2 (hb2.mono (by omega))) (.inr (by simp; omega)) _, by simp [go_sem, c3], fun o => by simp [go_sem, f3 o], by simp [go_sem, c5, hne, hne.symm], fun o => by simp [go_sem, f5 o], ho.far (by simp) _, by simp; omega, ho.notAt (.inr (by omega)), ha, hq⟩
/-- behind the store of another slice -/
theorem WhSt.put {q' : Nat} (h : WhSt w wr g p q A n c K L m d zs) (hg : g < w.heap.size) (ho : Own wr q' L' m' d' zs') (hp : NotAt L' p) (hwq : w.heap.size < q') :
    WhSt w (wr.setCell ⟨p, 0, none⟩ (.slice L' m' d')) g p q' A n c K L' m' d' zs' := by
  obtain ⟨h1, h2, h3, h4, h5, h6, h7, h8, h9, ha, hq⟩ := h
  have hne : p ≠ w.heap.size := by omega
  exact ⟨Src.set h1 (by simp; omega) _, only_setCell h2 (.inr (by simp; omega)) _, by simp [go_sem, h3], fun o => by simp [go_sem, h4 o], by simp [go_sem, h5, hne, hne.symm], fun o => by simp [go_sem, h6 o], ho.setOut hp _, by simp; omega, hp, ha, hwq⟩
theorem notAt_nil {p : Nat} : NotAt none p := fun b h => by cases h
/-- behind the store of an element -/
theorem WhSt.setK {b k : Nat} (h : WhSt w wr g p q A n c K (some ⟨b, 0, none⟩) m d zs) (hg : g < w.heap.size) (x : Int) :
    WhSt w (wr.setCell ⟨b, k, none⟩ (.int .i64 x)) g p q A n c K (some ⟨b, 0, none⟩) m d (zs.set k x) := by
  obtain ⟨h1, h2, h3, h4, h5, h6, h7, h8, h9, ha, hq⟩ := h
  have hst := (World.ownsRow.stored h7 k (.int .i64 x)).1
  rw [← List.map_set] at hst
  have hb : q ≤ b := by
    rcases h7.form with ⟨e, _, _⟩ | ⟨g2, e, l1, l2⟩
    · cases e
    · injection e with e; injection e with e; omega
  have d1 : p ≠ b := (h9 b rfl).symm
  have d2 : w.heap.size ≠ b := by omega
  exact ⟨Src.set h1 (by simp; omega) _, only_setCell h2 (.inr (by simp; omega)) _, by simp [go_sem, h3, d1, d1.symm], fun o => by simp [go_sem, h4 o], by simp [go_sem, h5, d2, d2.symm], fun o => by simp [go_sem, h6 o], hst, by simp; omega, h9, ha, hq⟩
/-- a draw of a struct of one slice, of at least lo elements -/
def DrawnRow (lo : Nat) (w : World) (g : Nat) (A : Option Addr) (n c : Nat) (K : Int) (e : Ending) (w' : World) : Prop :=
  ∃ (L : Option Addr) (m d : Nat) (zs : List Int), e = .returned (.agg #[.slice L m d]) ∧ lo ≤ m ∧ m ≤ 100 ∧ Own w' w.heap.size L m d zs ∧ Src w' g A n c K ∧ w.grownBy w' (some g)
theorem WhSt.done {lo : Nat} (h : WhSt w wr g p q A n c K L m d zs) (hg : g < w.heap.size) (hlo : lo ≤ m) (hm : m ≤ 100) (hK : K ≤ K1) : DrawnRow lo w g A n c K1 (.returned (.agg #[.slice L m d])) (wr.setCell ⟨w.heap.size, 0, none⟩ (.slice L m d)) := by
  obtain ⟨h1, h2, h3, h4, h5, h6, h7, h8, h9, ha, hq⟩ := h
  exact ⟨L, m, d, zs, rfl, hlo, hm, (h7.far (p := ⟨w.heap.size, 0, none⟩) (by simpa using hq) _).low (by omega), Src.set (h1.more hK) (by simp; omega) _, only_setCell h2 (.inr (by simp)) _⟩
end
theorem own_cell {w : World} {base b n c k : Nat} {zs : List Int} (h : Own w base (some ⟨b, 0, none⟩) n c zs) (hn : k < n) : w.cell? ⟨b, k, none⟩ = some (.int .i64 (zs.getD k 0)) := by
  have hl := h.len
  have := World.ownsRow.cellAt h k (by omega)
  rw [this, List.getElem?_map, List.getElem?_eq_getElem (by omega), getD_of (by omega)]; rfl
def lenAt (w : World) (p : Addr) : Nat := match w.cell? p with
  | some (.slice _ m _) => m
  | _ => 0
theorem lenAt_of {w : World} {p : Addr} {L : Option Addr} {m d : Nat} (h : w.cell? p = some (.slice L m d)) : lenAt w p = m := by simp [lenAt, h]
end Go.Proofs.YtajcbppndkkbpaaGreatDoor
