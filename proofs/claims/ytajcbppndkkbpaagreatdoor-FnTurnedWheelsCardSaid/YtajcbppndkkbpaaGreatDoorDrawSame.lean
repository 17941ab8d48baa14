/- The draw of two wheels that are often of the same cycle. No conditions but that there are at most 4096 bytes. -/
import Derived.Test.YtajcbppndkkbpaaGreatDoorDrawBentB
import Derived.Test.YtajcbppndkkbpaaGreatDoorTurn2
import Derived.Deep.DeepCutAuto
namespace Go.Proofs.YtajcbppndkkbpaaGreatDoor
open Go.RowKit
set_option linter.unusedVariables false
set_option linter.unusedSimpArgs false
set_option maxRecDepth 8000
/-- what is known behind the first wheel: the source, the boxes, its gaps -/
def Sc (w wr : World) (g p Q : Nat) (A : Option Addr) (n c : Nat) (K : Int) (L : Option Addr) (m d : Nat) (zs : List Int) : Prop :=
  Src wr g A n c K ∧ w.grownBy wr (some g) ∧ wr.cell? ⟨p, 0, none⟩ = some (.slice L m d) ∧ (∀ o, wr.frozen? ⟨p, o, none⟩ = false) ∧
    wr.cell? ⟨w.heap.size, 0, none⟩ = some (.slice none 0 0) ∧ (∀ o, wr.frozen? ⟨w.heap.size, o, none⟩ = false) ∧
    wr.cell? ⟨w.heap.size + 1, 0, none⟩ = some (.slice none 0 0) ∧ (∀ o, wr.frozen? ⟨w.heap.size + 1, o, none⟩ = false) ∧ Ints wr Q L m zs ∧
    w.heap.size + 1 < g ∧ g < p ∧ p < Q ∧ Q ≤ wr.heap.size ∧ (∀ b off, L = some ⟨b, off, none⟩ → g < b)
/-- what the draw gives -/
def TwoW (w : World) (e : Ending) (w' : World) : Prop := (∃ (L : Option Addr) (m d : Nat) (zs : List Int) (L2 : Option Addr) (m2 d2 : Nat) (ys : List Int), e = .returned (.tuple #[.agg #[.slice L m d], .agg #[.slice L2 m2 d2]]) ∧ m ≤ 100 ∧ m2 ≤ 100 ∧ (m ≤ d ∧ d ≤ 9223372036854775807) ∧ (m2 ≤ d2 ∧ d2 ≤ 9223372036854775807) ∧ Ints w' w'.heap.size L m zs ∧ Ints w' w'.heap.size L2 m2 ys) ∧ Below w.heap.size w w'
section
variable {w wr w1 : World} {g p Q q n c m d m2 d2 : Nat} {A L L2 : Option Addr} {K K1 : Int} {zs ys : List Int}
theorem Sc.new (hs : Src wr g A n c K) (hq : w.grownBy wr (some g)) (h5 : wr.cell? ⟨w.heap.size, 0, none⟩ = some (.slice none 0 0)) (h6 : ∀ o, wr.frozen? ⟨w.heap.size, o, none⟩ = false) (h7 : wr.cell? ⟨w.heap.size + 1, 0, none⟩ = some (.slice none 0 0)) (h8 : ∀ o, wr.frozen? ⟨w.heap.size + 1, o, none⟩ = false)
    (ho : Own wr (g + 1) L m d zs) (hr : w.heap.size + 1 < g) (hg : g < wr.heap.size) : Sc w (wr.alloc (.cells #[.slice L m d] 26)) g wr.heap.size (wr.heap.size + 1) A n c K L m d zs := by
  have hb : Below wr.heap.size wr (wr.alloc (.cells #[.slice L m d] 26)) := (Below.refl _ _).alloc (Nat.le_refl _) _
  refine ⟨hs.alloc _, only_alloc hq _, by simp, fun o => by simp, (hb.cell (by simp; omega)).trans h5, fun o => (hb.frozen (by simp; omega)).trans (h6 o), (hb.cell (by simp; omega)).trans h7, fun o => (hb.frozen (by simp; omega)).trans (h8 o), ((ho.ints (Nat.le_refl _)).below hb).more (by omega), hr, hg, by omega, by simp, fun b off hb => ?_⟩
  rcases ho.form with ⟨e, _, _⟩ | ⟨g2, e, l1, l2⟩
  · rw [hb] at e; cases e
  · rw [hb] at e; injection e with e; injection e with e; subst e; omega
theorem Sc.draw (h : Sc w wr g p Q A n c K L m d zs) (hs : Src w1 g A n c K1) (hq : wr.grownBy w1 (some g)) : Sc w w1 g p Q A n c K1 L m d zs := by
  obtain ⟨h1, h2, h3, h4, h5, h6, h7, h8, h9, ha, hb, hc, hd, he⟩ := h
  refine ⟨hs, h2.trans hq, hq.cell h3 (by simp; omega), frozen_only hq (by omega) (by omega) h4, hq.cell h5 (by simp; omega), frozen_only hq (by omega) (by omega) h6, hq.cell h7 (by simp; omega), frozen_only hq (by omega) (by omega) h8, ⟨h9.1, fun hn => ?_⟩, ha, hb, hc, Nat.le_trans hd hq.size, he⟩
  obtain ⟨b, off, e, hbl, hcc⟩ := h9.2 hn
  exact ⟨b, off, e, hbl, fun j hj => hq.cell (hcc j hj) (by have := he b off e; simp; omega)⟩
theorem Sc.more (h : Sc w wr g p Q A n c K L m d zs) (hK : K ≤ K1) : Sc w wr g p Q A n c K1 L m d zs := ⟨h.1.more hK, h.2⟩
/-- behind what changes nothing below Q -/
theorem Sc.low (h : Sc w wr g p Q A n c K L m d zs) (hb2 : Below Q wr w1) : Sc w w1 g p Q A n c K L m d zs := by
  obtain ⟨h1, h2, h3, h4, h5, h6, h7, h8, h9, ha, hb, hc, hd, he⟩ := h
  exact ⟨h1.belowB hb2 (by omega), only_belowB h2 (hb2.mono (by omega)), (hb2.cell (by simp; omega)).trans h3, fun o => (hb2.frozen (by simp; omega)).trans (h4 o), (hb2.cell (by simp; omega)).trans h5, fun o => (hb2.frozen (by simp; omega)).trans (h6 o), (hb2.cell (by simp; omega)).trans h7, fun o => (hb2.frozen (by simp; omega)).trans (h8 o), h9.below hb2, ha, hb, hc, Nat.le_trans hd hb2.size, he⟩
theorem Sc.ql (h : Sc w wr g p Q A n c K L m d zs) : Q ≤ wr.heap.size := by
  obtain ⟨h1, h2, h3, h4, h5, h6, h7, h8, h9, ha, hb, hc, hd, he⟩ := h
  exact hd
theorem Sc.call (h : Sc w wr g p Q A n c K L m d zs) (hb2 : Below wr.heap.size wr w1) : Sc w w1 g p Q A n c K L m d zs := h.low (hb2.mono h.ql)
theorem Sc.alloc (h : Sc w wr g p Q A n c K L m d zs) (o : Obj) : Sc w (wr.alloc o) g p Q A n c K L m d zs := h.call ((Below.refl _ _).alloc (Nat.le_refl _) _)
theorem Sc.drewN (h : Sc w wr g p Q A n c K L m d zs) (j : Nat) : Sc w (wr.drewN j) g p Q A n c K L m d zs := h.call (below_drewN (Below.refl _ _) j)
theorem Sc.drew (h : Sc w wr g p Q A n c K L m d zs) : Sc w wr.drew g p Q A n c K L m d zs := h.call (Below.drew (Below.refl _ _))
theorem Sc.ints (h : Sc w wr g p Q A n c K L m d zs) : Ints wr Q L m zs := h.2.2.2.2.2.2.2.2.1
theorem Sc.box (h : Sc w wr g p Q A n c K L m d zs) : wr.cell? ⟨p, 0, none⟩ = some (.slice L m d) ∧ wr.frozen? ⟨p, 0, none⟩ = false ∧ wr.cell? ⟨w.heap.size, 0, none⟩ = some (.slice none 0 0) ∧ wr.frozen? ⟨w.heap.size, 0, none⟩ = false ∧
    wr.cell? ⟨w.heap.size + 1, 0, none⟩ = some (.slice none 0 0) ∧ wr.frozen? ⟨w.heap.size + 1, 0, none⟩ = false ∧ w.heap.size + 1 < g ∧ g < p ∧ p < Q ∧ Q ≤ wr.heap.size := by
  obtain ⟨h1, h2, h3, h4, h5, h6, h7, h8, h9, ha, hb, hc, hd, he⟩ := h
  exact ⟨h3, h4 0, h5, h6 0, h7, h8 0, ha, hb, hc, hd⟩
theorem Sc.done (h : Sc w wr g p Q A n c K L m d zs) (ho : Own wr Q L2 m2 d2 ys) (c1 : m ≤ d ∧ d ≤ 9223372036854775807) (c2 : m2 ≤ d2 ∧ d2 ≤ 9223372036854775807) (hm : m ≤ 100) (hm2 : m2 ≤ 100) :
    TwoW w (.returned (.tuple #[.agg #[.slice L m d], .agg #[.slice L2 m2 d2]])) ((wr.setCell ⟨w.heap.size, 0, none⟩ (.slice L m d)).setCell ⟨w.heap.size + 1, 0, none⟩ (.slice L2 m2 d2)) := by
  obtain ⟨h1, h2, h3, h4, h5, h6, h7, h8, h9, ha, hb, hc, hd, he⟩ := h
  refine ⟨⟨L, m, d, zs, L2, m2, d2, ys, rfl, hm, hm2, c1, c2, ⟨h9.1, fun hn => ?_⟩, ((ho.far (p := ⟨w.heap.size, 0, none⟩) (by simp; omega) _).far (p := ⟨w.heap.size + 1, 0, none⟩) (by simp; omega) _).ints (Nat.le_refl _)⟩, below_set (below_set (below_only (Below.refl _ _) h2 (Nat.le_refl _) (by omega)) (by simp) _) (by simp) _⟩
  obtain ⟨b, off, e, hbl, hcc⟩ := h9.2 hn
  have hgb := he b off e
  refine ⟨b, off, e, by simp; omega, fun j hj => ?_⟩
  rw [World.cell?_setCell_other _ _ _ _ (fun e2 => absurd (congrArg Addr.block e2) (by show w.heap.size + 1 ≠ b; omega)), World.cell?_setCell_other _ _ _ _ (fun e2 => absurd (congrArg Addr.block e2) (by show w.heap.size ≠ b; omega))]
  exact hcc j hj
/-- and behind the second wheel, in its box q -/
def Sd (w wr : World) (g p Q q : Nat) (A : Option Addr) (n c : Nat) (K : Int) (L : Option Addr) (m d : Nat) (zs : List Int) (L2 : Option Addr) (m2 d2 : Nat) (ys : List Int) : Prop :=
  Sc w wr g p Q A n c K L m d zs ∧ wr.cell? ⟨q, 0, none⟩ = some (.slice L2 m2 d2) ∧ (∀ o, wr.frozen? ⟨q, o, none⟩ = false) ∧ Own wr Q L2 m2 d2 ys ∧ Q ≤ q ∧ q < wr.heap.size ∧ NotAt L2 q
theorem Sd.draw (h : Sd w wr g p Q q A n c K L m d zs L2 m2 d2 ys) (hs : Src w1 g A n c K1) (hq : wr.grownBy w1 (some g)) : Sd w w1 g p Q q A n c K1 L m d zs L2 m2 d2 ys := by
  obtain ⟨h1, h2, h3, h4, h5, h6, h7⟩ := h
  have hb := h1.box
  exact ⟨h1.draw hs hq, hq.cell h2 (by simp; omega), frozen_only hq h6 (by omega) h3, h4.only hq (by omega), h5, Nat.lt_of_lt_of_le h6 hq.size, h7⟩
theorem Sd.more (h : Sd w wr g p Q q A n c K L m d zs L2 m2 d2 ys) (hK : K ≤ K1) : Sd w wr g p Q q A n c K1 L m d zs L2 m2 d2 ys := ⟨h.1.more hK, h.2⟩
theorem Sd.drew (h : Sd w wr g p Q q A n c K L m d zs L2 m2 d2 ys) : Sd w wr.drew g p Q q A n c K L m d zs L2 m2 d2 ys := by
  obtain ⟨h1, h2, h3, h4, h5, h6, h7⟩ := h
  exact ⟨h1.drew, h2, h3, h4.drew, h5, h6, h7⟩
theorem Sd.setK {b k : Nat} (h : Sd w wr g p Q q A n c K L m d zs (some ⟨b, 0, none⟩) m2 d2 ys) (x : Int) : Sd w (wr.setCell ⟨b, k, none⟩ (.int .i64 x)) g p Q q A n c K L m d zs (some ⟨b, 0, none⟩) m2 d2 (ys.set k x) := by
  obtain ⟨h1, h2, h3, h4, h5, h6, h7⟩ := h
  have hst := (World.ownsRow.stored h4 k (.int .i64 x)).1
  rw [← List.map_set] at hst
  have hb : Q ≤ b := by
    rcases h4.form with ⟨e, _, _⟩ | ⟨g2, e, l1, l2⟩
    · cases e
    · injection e with e; injection e with e; omega
  have d1 : q ≠ b := (h7 b rfl).symm
  exact ⟨h1.low ((Below.refl _ _).setCell hb _), by simp [go_sem, h2, d1, d1.symm], fun o => by simp [go_sem, h3 o], hst, h5, by simp; omega, h7⟩
end
/-- an empty box at b -/
def NB (w : World) (b : Nat) : Prop := w.cell? ⟨b, 0, none⟩ = some (.slice none 0 0) ∧ (∀ o, w.frozen? ⟨b, o, none⟩ = false) ∧ b < w.heap.size
theorem nb_alloc (W : World) (T : TypeId) : NB (W.alloc (.cells #[.slice none 0 0] T)) W.heap.size := ⟨by simp, fun o => by simp, by simp⟩
theorem nb_drew {W : World} {b : Nat} (h : NB W b) : NB W.drew b := h
theorem nb_call {W w1 : World} {b : Nat} (hb : Below W.heap.size W w1) (h : NB W b) : NB w1 b := ⟨(hb.cell h.2.2).trans h.1, fun o => (hb.frozen h.2.2).trans (h.2.1 o), Nat.lt_of_lt_of_le h.2.2 hb.size⟩
theorem nb_draw {W w1 : World} {b g : Nat} (hq : W.grownBy w1 (some g)) (h : NB W b) (hne : b ≠ g) : NB w1 b := ⟨hq.cell h.1 (by simpa using hne), frozen_only hq h.2.2 hne h.2.1, Nat.lt_of_lt_of_le h.2.2 hq.size⟩
theorem Sd.put {w wr : World} {g p Q q n c m d m2 d2 : Nat} {A L L2 : Option Addr} {K : Int} {zs ys : List Int} (h : Sc w wr g p Q A n c K L m d zs) (b1 : wr.cell? ⟨q, 0, none⟩ = some (.slice none 0 0)) (b2 : ∀ o, wr.frozen? ⟨q, o, none⟩ = false) (ho : Own wr Q L2 m2 d2 ys) (hQ : Q ≤ q) (hq : q < wr.heap.size) (hn : NotAt L2 q) :
    Sd w (wr.setCell ⟨q, 0, none⟩ (.slice L2 m2 d2)) g p Q q A n c K L m d zs L2 m2 d2 ys :=
  ⟨h.low ((Below.refl _ _).setCell hQ _), by simp [go_sem, b1], fun o => by simp [go_sem, b2 o], ho.setOut hn _, hQ, by simpa using hq, hn⟩
set_option maxHeartbeats 8000000 in
theorem DrawSameCycle_any (A : Option Addr) (n c : Nat) (w : World) (hb : Byts w w.heap.size A n) (hn : n ≤ 4096) :
    Calls Tryz.prog 13 #[.slice A n c] w (TwoW w) := by
  have HB0 := Lib.hid hb
  clear hb
  go_enter Tryz.func13, Tryz.ntmps13
  go_wp2_with fail
  go_at_call 28
  refine (l00From_any A n c _).mono ?_
  rintro e w1 ⟨rfl, hs1, hb1⟩
  have hlt1 := hb1.size
  (try simp at hlt1)
  have x5 : w1.cell? ⟨w.heap.size, 0, none⟩ = some (.slice none 0 0) := cell_call hb1 (by simp; try omega) (by simp [go_sem])
  have f5 : ∀ o, w1.frozen? ⟨w.heap.size, o, none⟩ = false := fun o => (hb1.frozen (by simp; try omega)).trans (by simp [go_sem])
  have x7 : w1.cell? ⟨w.heap.size + 1, 0, none⟩ = some (.slice none 0 0) := cell_call hb1 (by simp; try omega) (by simp [go_sem])
  have f7 : ∀ o, w1.frozen? ⟨w.heap.size + 1, o, none⟩ = false := fun o => (hb1.frozen (by simp; try omega)).trans (by simp [go_sem])
  have S1 : Hid (Src w1 (w.heap.size + 1 + 1) A n c 0) := Lib.hid (by simpa using hs1)
  have l1 : w.heap.size + 1 + 1 < w1.heap.size := S1.out.lt
  have hBel1 : Below w.heap.size w w1 := by (repeat (first | with_reducible exact Below.refl _ _ | with_reducible refine below_alloc ?_ _ | with_reducible refine below_drewN ?_ _ | with_reducible refine Below.drew ?_ | ((with_reducible refine below_set ?_ ?_ _); rotate_left; (focus (first | (simp; done) | (simp; omega) | omega))) | with_reducible refine below_call ?_ (by assumption)))
  have G1 : Hid (w.grownBy w1 (some (w.heap.size + 1 + 1))) := Lib.hid (only_of_below hBel1)
  clear hs1 hb1 hBel1
  go_wp2_with fail
  obtain ⟨g, hg⟩ : ∃ g, w.heap.size + 1 + 1 = g := ⟨_, rfl⟩
  (try rw [hg])
  rw [hg] at S1 l1 G1
  have hwg : w.heap.size + 1 < g := by omega
  have hBg : w.heap.size ≤ g := by omega
  have HBY := Lib.hid (fun (W : World) (h : w.grownBy W (some g)) => HB0.out.only (Nat.le_refl _) h hBg)
  have HG := Lib.hid hg
  clear hg
  go_wp2_with fail
  go_at_call 31
  refine (l20Bent_bnd A n c w.heap.size g 0 _ S1.out (HBY.out _ G1.out) hBg (by omega) hn (by omega)).mono ?_
  rintro e w2 ⟨L, m, d, zs, rfl, ml, m0, ho2, hs2, hq2, hz2⟩
  have z2 := hq2.size
  have cp := ho2.cap
  have C3 := Lib.hid (Sc.new hs2 (G1.out.trans hq2) (hq2.cell x5 (by simp; omega)) (frozen_only hq2 (by omega) (by omega) f5) (hq2.cell x7 (by simp; omega)) (frozen_only hq2 (by omega) (by omega) f7) (ho2.low (b0 := g + 1) (by omega)) hwg hs2.lt)
  clear hs2 hq2 ho2 hz2 x5 f5 x7 f7 S1 G1 ml
  go_wp2_with fail
  obtain ⟨p, hp⟩ : ∃ p, w2.heap.size = p := ⟨_, rfl⟩
  obtain ⟨w3, hw3⟩ : ∃ W, w2.alloc (.cells #[.slice L m d] 26) = W := ⟨_, rfl⟩
  rw [hw3, hp] at C3
  rw [hw3]
  (try rw [hp])
  clear hw3 hp z2
  go_at_call 35
  refine (one_any A n c w.heap.size g (0 + 80) 3 _ C3.out.1 (HBY.out _ C3.out.2.1) hBg hn (by omega) (by omega)).mono ?_
  rintro e w4 ⟨v, ⟨b, rfl⟩, rfl, hs4, hq4⟩
  have C4 := Lib.hid ((C3.out.draw hs4 hq4).more (K1 := 90) (by omega))
  clear hs4 hq4 C3 l1 hlt1
  cases b
  · obtain ⟨s1, s2, s3, s4, s5, s6, s7, s8, s9, sa⟩ := C4.out.box
    go_wp2_with fail
    go_at_call 34
    refine (l20Ok_any L m d (p + 1) zs _ C4.out.ints (by omega) (by omega)).mono ?_
    rintro e w5 ⟨rfl, hb5⟩
    have hl := C4.out.ints.len
    have C5 := Lib.hid (C4.out.call hb5)
    clear hb5 C4 s1 s2 s3 s4 s5 s6 s7 s8 s9 sa
    cases hv : vWheel zs
    · skip
      obtain ⟨s1, s2, s3, s4, s5, s6, s7, s8, s9, sa⟩ := C5.out.box
      have C5d := Lib.hid C5.out.drew
      have hsz : w.heap.size ≤ w5.drew.heap.size := by have := C5d.out.box.2.2.2.2.2.2.2.2.2; omega
      go_wp2
      go_region_with ((go_at_call 31); (refine (l20Bent_bnd A n c w.heap.size g 90 _ C5d.out.1 (HBY.out _ C5d.out.2.1) hBg hsz hn (by omega)).mono ?_); (rintro e w6 ⟨L2, m2, d2, ys, rfl, ml2, m02, ho6, hs6, hq6, hz6⟩); (have cp2 := ho6.cap); (have O6 := Lib.hid (ho6.low (b0 := p + 1) C5d.out.ql)); (have C6 := Lib.hid (C5d.out.draw hs6 hq6)); (obtain ⟨t1, t2, t3, t4, t5, t6, t7, t8, t9, ta⟩ := C6.out.box); (clear hs6 hq6 ho6 hz6 ml2))
      all_goals
        go_wp2
        (try simp only [Exit.inBlock, Exit.then])
        refine bodyPost_ret (v := .tuple #[.agg #[.slice L m d], .agg #[.slice L2 m2 d2]]) ?_ rfl (C6.out.done O6.out cp cp2 m0 m02)
        simp [results, Tryz.results13, go_sem, *]
    · skip
      obtain ⟨-, hv1, hv2⟩ := vWheel_yes hv
      obtain ⟨s1, s2, s3, s4, s5, s6, s7, s8, s9, sa⟩ := C5.out.box
      have C5d := Lib.hid C5.out.drew
      have zp : p < w5.heap.size := by omega
      go_upto_region 5 with fail
      go_cut [6] (fun t wx => ∃ (qb : Nat) (L2 : Option Addr) (d2 : Nat) (ys : List Int), t = .pointer (some ⟨qb, 0, none⟩) ∧ Hid (Sd w wx g p (p + 1) qb A n c 92 L m d zs L2 m d2 ys) ∧ m ≤ d2 ∧ d2 ≤ 9223372036854775807)
      case first =>
        refine wp_region_held_drew (S := (fun w' => w'.cell? ⟨p, 0, none⟩ = some (.slice L m d) ∧ p < w'.heap.size)) (by kernel_rfl) ?_ (fun hHeld => ?_)
        · (try dsimp only); (first | ((try go_split_ands); (try dsimp only); refine ⟨?_, ?_⟩ <;> first | (exact cell_call (by assumption) (by assumption) (by assumption)) | (exact lt_call (by assumption) (by assumption)) | (exact below_call' (by assumption) (by assumption)) | (exact Below.drew (by assumption)) | (with_reducible assumption) | (simp; done) | (simp [*]; done) | ((repeat (first | with_reducible exact Below.refl _ _ | with_reducible refine below_alloc ?_ _ | with_reducible refine below_drewN ?_ _ | with_reducible refine Below.drew ?_ | ((with_reducible refine below_set ?_ ?_ _); rotate_left; (focus (first | (simp; done) | (simp; omega) | omega))) | with_reducible refine below_call ?_ (by assumption))); done) | omega | (simp; omega) | (simp [go_sem]; done) | (simp [go_sem, *]; done)))
        (refine wpAnyH_take (i := 0) (v := ?_) rfl (by kernel_rfl) (by kernel_rfl) (by kernel_rfl) (fun _ _ _ h => h) (Or.inl ⟨by kernel_rfl, ?_⟩) (by assumption) ?_; rotate_left; (focus (intro w hSw; (try dsimp only at hSw); go_simp; (try with_reducible rfl))); (try simp only [Act.put, List.getElem_toArray, List.getElem_cons_zero, List.getElem_cons_succ, List.setIfInBounds_toArray, List.set_cons_zero, List.set_cons_succ]))
        (refine wpAnyH_take (i := 1) (v := ?_) rfl (by kernel_rfl) (by kernel_rfl) (by kernel_rfl) (fun _ _ _ h => h) (Or.inl ⟨by kernel_rfl, ?_⟩) (by assumption) ?_; rotate_left; (focus (intro w hSw; (try dsimp only at hSw); go_simp; (try with_reducible rfl))); (try simp only [Act.put, List.getElem_toArray, List.getElem_cons_zero, List.getElem_cons_succ, List.setIfInBounds_toArray, List.set_cons_zero, List.set_cons_succ]))
        (refine wpAnyH_take (i := 2) (v := ?_) rfl (by kernel_rfl) (by kernel_rfl) (by kernel_rfl) (fun _ _ _ h => h) (Or.inl ⟨by kernel_rfl, ?_⟩) (by assumption) ?_; rotate_left; (focus (intro w hSw; (try dsimp only at hSw); go_simp; (try with_reducible rfl))); (try simp only [Act.put, List.getElem_toArray, List.getElem_cons_zero, List.getElem_cons_succ, List.setIfInBounds_toArray, List.set_cons_zero, List.set_cons_succ]))
        (refine wpAnyH_take (i := 3) (v := ?_) rfl (by kernel_rfl) (by kernel_rfl) (by kernel_rfl) (fun _ _ _ h => h) (Or.inl ⟨by kernel_rfl, ?_⟩) (by assumption) ?_; rotate_left; (focus (intro w hSw; (try dsimp only at hSw); go_simp; (try with_reducible rfl))); (try simp only [Act.put, List.getElem_toArray, List.getElem_cons_zero, List.getElem_cons_succ, List.setIfInBounds_toArray, List.set_cons_zero, List.set_cons_succ]))
        (refine wpAnyH_take (i := 4) (v := ?_) rfl (by kernel_rfl) (by kernel_rfl) (by kernel_rfl) (fun _ _ _ h => h) (Or.inl ⟨by kernel_rfl, ?_⟩) (by assumption) ?_; rotate_left; (focus (intro w hSw; (try dsimp only at hSw); go_simp; (try with_reducible rfl))); (try simp only [Act.put, List.getElem_toArray, List.getElem_cons_zero, List.getElem_cons_succ, List.setIfInBounds_toArray, List.set_cons_zero, List.set_cons_succ]))
        clear C5 s1 s2 s3 s4 s5 s6 zp s9 sa
        generalize w5.drew = w8 at *
        have C8 := C5d
        clear C5d
        obtain ⟨s1, -, -, -, -, -, -, -, t9, ta⟩ := C8.out.box
        have zp : p < w8.heap.size := by omega
        clear t9 ta
        refine wpAnyH_ready (rs := [5, 7]) (by kernel_rfl) (by simp) ?_
        refine AllReadyH.cons rfl (fun K hK => ?_) (AllReadyH.cons rfl (fun K hK => ?_) (AllReadyH.nil))
        · skip
          (try simp only [List.getElem_toArray, List.getElem_cons_zero, List.getElem_cons_succ])
          (try rw [if_pos (by kernel_rfl)])
          go_simp
          go_at_call 36
          refine (pick_any A n c w.heap.size g 90 (m : Int) _ C8.out.1 (HBY.out _ C8.out.2.1) hBg hn (by omega) (by omega)).mono ?_
          rintro e6 w9 ⟨v, ⟨x, rfl, x0, x1⟩, rfl, hs, hq⟩
          have hx : x < m := by split at x1 <;> omega
          obtain ⟨k, rfl⟩ := Int.eq_ofNat_of_zero_le x0
          have hk : k < m := by omega
          have C9 := Lib.hid ((C8.out.draw hs hq).more (K1 := 92) (by omega))
          clear s1 zp
          clear hs hq x1 hx x0
          obtain ⟨s1, -, -, -, -, -, -, -, t9, ta⟩ := C9.out.box
          have zp : p < w9.heap.size := by omega
          clear t9 ta
          (try dsimp only)
          refine hK.out _ _ ?_ (fun hHeld => ?_)
          · exact ⟨s1, zp⟩
          clear hK K
          (try simp only [Act.put, List.getElem_toArray, List.getElem_cons_zero, List.getElem_cons_succ, List.setIfInBounds_toArray, List.set_cons_zero, List.set_cons_succ])
          refine wpAnyH_ready (rs := [6, 7]) (by kernel_rfl) (by simp) ?_
          refine AllReadyH.cons rfl (fun K hK => ?_) (AllReadyH.cons rfl (fun K hK => ?_) (AllReadyH.nil))
          · skip
            (try simp only [List.getElem_toArray, List.getElem_cons_zero, List.getElem_cons_succ])
            (try rw [if_pos (by kernel_rfl)])
            go_simp
            go_at_call 23
            refine (l20Turn_any L m d (p + 1) k zs _ C9.out.ints C9.out.ql hk (by omega)).mono ?_
            rintro e7 w10 ⟨L2, d2, rfl, ho, hb⟩
            have cp2 := ho.cap
            have C10 := Lib.hid (C9.out.call hb)
            have O10 : Hid (Own w10 (p + 1) L2 m d2 (zs.drop k ++ zs.take k)) := Lib.hid (ho.low C9.out.ql)
            have M10 := Lib.hid (ho.notAt (p := w10.heap.size) (.inl (Nat.le_refl _)))
            clear s1 zp
            clear ho hb
            obtain ⟨s1, -, -, -, -, -, -, -, t9, ta⟩ := C10.out.box
            have zp : p < w10.heap.size := by omega
            clear t9 ta
            (try dsimp only)
            refine hK.out _ _ ?_ (fun hHeld => ?_)
            · exact ⟨s1, zp⟩
            clear hK K
            (try simp only [Act.put, List.getElem_toArray, List.getElem_cons_zero, List.getElem_cons_succ, List.setIfInBounds_toArray, List.set_cons_zero, List.set_cons_succ])
            refine wpAnyH_ready (rs := [7]) (by kernel_rfl) (by simp) ?_
            refine AllReadyH.cons rfl (fun K hK => ?_) (AllReadyH.nil)
            (try simp only [List.getElem_toArray, List.getElem_cons_zero, List.getElem_cons_succ])
            (try rw [if_pos (by kernel_rfl)])
            go_simp
            have O11 := Lib.hid (O10.out.alloc (.cells #[.slice none 0 0] 26))
            have M11 := M10
            clear O10 M10
            have C11 := Lib.hid (C10.out.alloc (.cells #[.slice none 0 0] 26))
            have N11 := Lib.hid (nb_alloc w10 26)
            have hqb : p + 1 ≤ w10.heap.size := C10.out.ql
            obtain ⟨w11, hw11⟩ : ∃ W, w10.alloc (.cells #[.slice none 0 0] 26) = W := ⟨_, rfl⟩
            obtain ⟨qb, hqe⟩ : ∃ q, w10.heap.size = q := ⟨_, rfl⟩
            rw [hw11] at C11 N11 O11
            rw [hqe] at N11 hqb M11
            clear s1 zp
            obtain ⟨s1, -, -, -, -, -, -, -, t9, ta⟩ := C11.out.box
            have zp : p < w11.heap.size := by omega
            clear t9 ta
            (try dsimp only)
            refine hK.out _ _ (by rw [hw11]; exact ⟨s1, zp⟩) (fun hHeld => ?_)
            clear hK K
            (try simp only [Act.put, List.getElem_toArray, List.getElem_cons_zero, List.getElem_cons_succ, List.setIfInBounds_toArray, List.set_cons_zero, List.set_cons_succ])
            rw [hw11]
            (try rw [hqe])
            clear hw11 hqe
            skip
            skip
            obtain ⟨b1, b2, b3⟩ := N11.out
            have b4 := b2 0
            refine wpAnyH_ready (rs := [8]) (by kernel_rfl) (by simp) ?_
            refine AllReadyH.cons rfl (fun K hK => ?_) (AllReadyH.nil)
            (try simp only [List.getElem_toArray, List.getElem_cons_zero, List.getElem_cons_succ])
            (try rw [if_pos (by kernel_rfl)])
            go_simp
            (try dsimp only)
            refine hK.out _ _ ?_ (fun hHeld => ?_)
            · exact ⟨by simp [go_sem, s1, show p ≠ qb by omega, show qb ≠ p by omega], by simpa using zp⟩
            clear hK K
            (try simp only [Act.put, List.getElem_toArray, List.getElem_cons_zero, List.getElem_cons_succ, List.setIfInBounds_toArray, List.set_cons_zero, List.set_cons_succ])
            refine wpAnyH_done (by kernel_rfl) ?_ _
            go_wp2_with fail
            go_meet
            exact ⟨qb, L2, d2, _, rfl, Lib.hid (Sd.put C11.out b1 b2 O11.out hqb b3 M11.out), cp2⟩
          · skip
            (try simp only [List.getElem_toArray, List.getElem_cons_zero, List.getElem_cons_succ])
            (try rw [if_pos (by kernel_rfl)])
            go_simp
            have C10 := Lib.hid (C9.out.alloc (.cells #[.slice none 0 0] 26))
            have N10 := Lib.hid (nb_alloc w9 26)
            have hqb : p + 1 ≤ w9.heap.size := C9.out.ql
            obtain ⟨w10, hw10⟩ : ∃ W, w9.alloc (.cells #[.slice none 0 0] 26) = W := ⟨_, rfl⟩
            obtain ⟨qb, hqe⟩ : ∃ q, w9.heap.size = q := ⟨_, rfl⟩
            rw [hw10] at C10 N10
            rw [hqe] at N10 hqb
            clear s1 zp
            obtain ⟨s1, -, -, -, -, -, -, -, t9, ta⟩ := C10.out.box
            have zp : p < w10.heap.size := by omega
            clear t9 ta
            (try dsimp only)
            refine hK.out _ _ (by rw [hw10]; exact ⟨s1, zp⟩) (fun hHeld => ?_)
            clear hK K
            (try simp only [Act.put, List.getElem_toArray, List.getElem_cons_zero, List.getElem_cons_succ, List.setIfInBounds_toArray, List.set_cons_zero, List.set_cons_succ])
            rw [hw10]
            (try rw [hqe])
            clear hw10 hqe
            refine wpAnyH_ready (rs := [6]) (by kernel_rfl) (by simp) ?_
            refine AllReadyH.cons rfl (fun K hK => ?_) (AllReadyH.nil)
            (try simp only [List.getElem_toArray, List.getElem_cons_zero, List.getElem_cons_succ])
            (try rw [if_pos (by kernel_rfl)])
            go_simp
            go_at_call 23
            refine (l20Turn_any L m d (p + 1) k zs _ C10.out.ints C10.out.ql hk (by omega)).mono ?_
            rintro e7 w11 ⟨L2, d2, rfl, ho, hb⟩
            have cp2 := ho.cap
            have C11 := Lib.hid (C10.out.call hb)
            have O11 : Hid (Own w11 (p + 1) L2 m d2 (zs.drop k ++ zs.take k)) := Lib.hid (ho.low C10.out.ql)
            have N11 := Lib.hid (nb_call hb N10.out)
            have M11 := Lib.hid (ho.notAt (p := qb) (.inr N10.out.2.2))
            clear s1 zp
            clear ho hb
            obtain ⟨s1, -, -, -, -, -, -, -, t9, ta⟩ := C11.out.box
            have zp : p < w11.heap.size := by omega
            clear t9 ta
            (try dsimp only)
            refine hK.out _ _ ?_ (fun hHeld => ?_)
            · exact ⟨s1, zp⟩
            clear hK K
            (try simp only [Act.put, List.getElem_toArray, List.getElem_cons_zero, List.getElem_cons_succ, List.setIfInBounds_toArray, List.set_cons_zero, List.set_cons_succ])
            obtain ⟨b1, b2, b3⟩ := N11.out
            have b4 := b2 0
            refine wpAnyH_ready (rs := [8]) (by kernel_rfl) (by simp) ?_
            refine AllReadyH.cons rfl (fun K hK => ?_) (AllReadyH.nil)
            (try simp only [List.getElem_toArray, List.getElem_cons_zero, List.getElem_cons_succ])
            (try rw [if_pos (by kernel_rfl)])
            go_simp
            (try dsimp only)
            refine hK.out _ _ ?_ (fun hHeld => ?_)
            · exact ⟨by simp [go_sem, s1, show p ≠ qb by omega, show qb ≠ p by omega], by simpa using zp⟩
            clear hK K
            (try simp only [Act.put, List.getElem_toArray, List.getElem_cons_zero, List.getElem_cons_succ, List.setIfInBounds_toArray, List.set_cons_zero, List.set_cons_succ])
            refine wpAnyH_done (by kernel_rfl) ?_ _
            go_wp2_with fail
            go_meet
            exact ⟨qb, L2, d2, _, rfl, Lib.hid (Sd.put C11.out b1 b2 O11.out hqb b3 M11.out), cp2⟩
        · skip
          (try simp only [List.getElem_toArray, List.getElem_cons_zero, List.getElem_cons_succ])
          (try rw [if_pos (by kernel_rfl)])
          go_simp
          have C9 := Lib.hid (C8.out.alloc (.cells #[.slice none 0 0] 26))
          have N9 := Lib.hid (nb_alloc w8 26)
          have hqb : p + 1 ≤ w8.heap.size := C8.out.ql
          obtain ⟨w9, hw9⟩ : ∃ W, w8.alloc (.cells #[.slice none 0 0] 26) = W := ⟨_, rfl⟩
          obtain ⟨qb, hqe⟩ : ∃ q, w8.heap.size = q := ⟨_, rfl⟩
          rw [hw9] at C9 N9
          rw [hqe] at N9 hqb
          clear s1 zp
          obtain ⟨s1, -, -, -, -, -, -, -, t9, ta⟩ := C9.out.box
          have zp : p < w9.heap.size := by omega
          clear t9 ta
          (try dsimp only)
          refine hK.out _ _ (by rw [hw9]; exact ⟨s1, zp⟩) (fun hHeld => ?_)
          clear hK K
          (try simp only [Act.put, List.getElem_toArray, List.getElem_cons_zero, List.getElem_cons_succ, List.setIfInBounds_toArray, List.set_cons_zero, List.set_cons_succ])
          rw [hw9]
          (try rw [hqe])
          clear hw9 hqe
          refine wpAnyH_ready (rs := [5]) (by kernel_rfl) (by simp) ?_
          refine AllReadyH.cons rfl (fun K hK => ?_) (AllReadyH.nil)
          (try simp only [List.getElem_toArray, List.getElem_cons_zero, List.getElem_cons_succ])
          (try rw [if_pos (by kernel_rfl)])
          go_simp
          go_at_call 36
          refine (pick_any A n c w.heap.size g 90 (m : Int) _ C9.out.1 (HBY.out _ C9.out.2.1) hBg hn (by omega) (by omega)).mono ?_
          rintro e6 w10 ⟨v, ⟨x, rfl, x0, x1⟩, rfl, hs, hq⟩
          have hx : x < m := by split at x1 <;> omega
          obtain ⟨k, rfl⟩ := Int.eq_ofNat_of_zero_le x0
          have hk : k < m := by omega
          have C10 := Lib.hid ((C9.out.draw hs hq).more (K1 := 92) (by omega))
          have N10 := Lib.hid (nb_draw hq N9.out (by omega))
          clear s1 zp
          clear hs hq x1 hx x0
          obtain ⟨s1, -, -, -, -, -, -, -, t9, ta⟩ := C10.out.box
          have zp : p < w10.heap.size := by omega
          clear t9 ta
          (try dsimp only)
          refine hK.out _ _ ?_ (fun hHeld => ?_)
          · exact ⟨s1, zp⟩
          clear hK K
          (try simp only [Act.put, List.getElem_toArray, List.getElem_cons_zero, List.getElem_cons_succ, List.setIfInBounds_toArray, List.set_cons_zero, List.set_cons_succ])
          refine wpAnyH_ready (rs := [6]) (by kernel_rfl) (by simp) ?_
          refine AllReadyH.cons rfl (fun K hK => ?_) (AllReadyH.nil)
          (try simp only [List.getElem_toArray, List.getElem_cons_zero, List.getElem_cons_succ])
          (try rw [if_pos (by kernel_rfl)])
          go_simp
          go_at_call 23
          refine (l20Turn_any L m d (p + 1) k zs _ C10.out.ints C10.out.ql hk (by omega)).mono ?_
          rintro e7 w11 ⟨L2, d2, rfl, ho, hb⟩
          have cp2 := ho.cap
          have C11 := Lib.hid (C10.out.call hb)
          have O11 : Hid (Own w11 (p + 1) L2 m d2 (zs.drop k ++ zs.take k)) := Lib.hid (ho.low C10.out.ql)
          have N11 := Lib.hid (nb_call hb N10.out)
          have M11 := Lib.hid (ho.notAt (p := qb) (.inr N10.out.2.2))
          clear s1 zp
          clear ho hb
          obtain ⟨s1, -, -, -, -, -, -, -, t9, ta⟩ := C11.out.box
          have zp : p < w11.heap.size := by omega
          clear t9 ta
          (try dsimp only)
          refine hK.out _ _ ?_ (fun hHeld => ?_)
          · exact ⟨s1, zp⟩
          clear hK K
          (try simp only [Act.put, List.getElem_toArray, List.getElem_cons_zero, List.getElem_cons_succ, List.setIfInBounds_toArray, List.set_cons_zero, List.set_cons_succ])
          obtain ⟨b1, b2, b3⟩ := N11.out
          have b4 := b2 0
          refine wpAnyH_ready (rs := [8]) (by kernel_rfl) (by simp) ?_
          refine AllReadyH.cons rfl (fun K hK => ?_) (AllReadyH.nil)
          (try simp only [List.getElem_toArray, List.getElem_cons_zero, List.getElem_cons_succ])
          (try rw [if_pos (by kernel_rfl)])
          go_simp
          (try dsimp only)
          refine hK.out _ _ ?_ (fun hHeld => ?_)
          · exact ⟨by simp [go_sem, s1, show p ≠ qb by omega, show qb ≠ p by omega], by simpa using zp⟩
          clear hK K
          (try simp only [Act.put, List.getElem_toArray, List.getElem_cons_zero, List.getElem_cons_succ, List.setIfInBounds_toArray, List.set_cons_zero, List.set_cons_succ])
          refine wpAnyH_done (by kernel_rfl) ?_ _
          go_wp2_with fail
          go_meet
          exact ⟨qb, L2, d2, _, rfl, Lib.hid (Sd.put C11.out b1 b2 O11.out hqb b3 M11.out), cp2⟩
      case rest =>
        obtain ⟨qb, L2, d2, ys, rfl, hD, cp2⟩ := hcut
        revert hD
        generalize wc = w9
        intro hD
        have D9 := hD
        clear hD
        clear s1 s2 s3 s4 s5 s6 s7 s8 s9 sa zp C5d C5
        obtain ⟨s1, s2, s3, s4, s5, s6, s7, s8, s9, sa⟩ := D9.out.1.box
        go_wp2_with fail
        go_at_call 35
        refine (one_any A n c w.heap.size g 92 3 _ D9.out.1.1 (HBY.out _ D9.out.1.2.1) hBg hn (by omega) (by omega)).mono ?_
        rintro e w10 ⟨v, ⟨b, rfl⟩, rfl, hs, hq⟩
        have D10 := Lib.hid (D9.out.draw hs hq)
        clear hs hq D9 s1 s2 s3 s4 s5 s6 s7 s8 s9 sa
        cases b
        · obtain ⟨w15, hw15⟩ : ∃ W, w10 = W := ⟨_, rfl⟩
          have D15 := D10
          rw [hw15] at D15
          rw [hw15]
          clear D10 hw15
          obtain ⟨s1, s2, s3, s4, s5, s6, s7, s8, s9, sa⟩ := D15.out.1.box
          have q1 := D15.out.2.1
          have q2 := D15.out.2.2.1 0
          have q3 := D15.out.2.2.2.2.1
          have q4 := D15.out.2.2.2.2.2.1
          have D15d := Lib.hid D15.out.drew
          have n1 : p ≠ w.heap.size := by omega
          have n2 : qb ≠ w.heap.size := by omega
          have n3 : p ≠ w.heap.size + 1 := by omega
          have n4 : qb ≠ w.heap.size + 1 := by omega
          have n5 := n1.symm
          have n6 := n2.symm
          have n7 := n3.symm
          have n8 := n4.symm
          go_wp2
          go_region
          all_goals
            go_wp2
            (try simp only [Exit.inBlock, Exit.then])
            refine bodyPost_ret (v := .tuple #[.agg #[.slice L m d], .agg #[.slice L2 m d2]]) ?_ rfl (D15d.out.1.done D15d.out.2.2.2.1 cp cp2 m0 m0)
            simp [results, Tryz.results13, go_sem, *]
        · obtain ⟨s1, s2, s3, s4, s5, s6, s7, s8, s9, sa⟩ := D10.out.1.box
          have q1 := D10.out.2.1
          have q2 := D10.out.2.2.1 0
          go_wp2_with fail
          go_at_call 36
          refine (pick_any A n c w.heap.size g (92 + 2) (m : Int) _ D10.out.1.1 (HBY.out _ D10.out.1.2.1) hBg hn (by omega) (by omega)).mono ?_
          rintro e w11 ⟨v, ⟨x, rfl, x0, x1⟩, rfl, hs, hq⟩
          have hx : x < m := by split at x1 <;> omega
          obtain ⟨k, rfl⟩ := Int.eq_ofNat_of_zero_le x0
          have hk : k < m := by omega
          have D11 := Lib.hid (D10.out.draw hs hq)
          clear hs hq x1 D10 s1 s2 s3 s4 s5 s6 s7 s8 s9 sa q1 q2
          obtain ⟨s1, s2, s3, s4, s5, s6, s7, s8, s9, sa⟩ := D11.out.1.box
          have q1 := D11.out.2.1
          have q2 := D11.out.2.2.1 0
          have q3 := D11.out.2.2.2.2.1
          have D11d := Lib.hid D11.out.drew
          rcases D11.out.2.2.2.1.form with ⟨_, hm0, _⟩ | ⟨gl, rfl, gl1, gl2⟩
          · omega
          have hkd : k < d2 := by omega
          have r2 : (k : Int) < (m : Int) := by omega
          have n1 : ¬ (gl = qb) := D11.out.2.2.2.2.2.2 gl rfl
          have n2 : ¬ (qb = gl) := fun e => n1 e.symm
          go_wp2
          go_region_with ((go_at_call 36); (refine (pick_any A n c w.heap.size g (92 + 2 + 2) 3 _ D11d.out.1.1 (HBY.out _ D11d.out.1.2.1) hBg hn (by omega) (by omega)).mono ?_); (rintro e w12 ⟨v, ⟨y, rfl, y0, y1⟩, rfl, hs, hq⟩); (rw [if_neg (by omega)] at y1); (have yw : IntKind.i64.wrap (1 + y) = 1 + y := IntWalk.i64_in _ (by omega)); (have D12 := Lib.hid (D11d.out.draw hs hq)); (have tc := own_cell D12.out.2.2.2.1 hk); (have tf : w12.frozen? ⟨gl, k, none⟩ = false := World.ownsRow.frozenAt D12.out.2.2.2.1 k); (have t1 := D12.out.2.1); (have t2 := D12.out.2.2.1 0); (clear hs hq))
          all_goals
            go_wp2
            have D13 := Lib.hid (D12.out.setK (k := k) (1 + y))
            generalize w12.setCell ⟨gl, k, none⟩ (.int .i64 (1 + y)) = w15 at *
            have D15 := D13
            clear D13 D12 D11 D11d tc tf t1 t2 s1 s2 s3 s4 s5 s6 s7 s8 s9 sa q1 q2 q3 n1 n2
            obtain ⟨s1, s2, s3, s4, s5, s6, s7, s8, s9, sa⟩ := D15.out.1.box
            have q1 := D15.out.2.1
            have q2 := D15.out.2.2.1 0
            have q3 := D15.out.2.2.2.2.1
            have q4 := D15.out.2.2.2.2.2.1
            have D15d := Lib.hid D15.out.drew
            have n1 : p ≠ w.heap.size := by omega
            have n2 : qb ≠ w.heap.size := by omega
            have n3 : p ≠ w.heap.size + 1 := by omega
            have n4 : qb ≠ w.heap.size + 1 := by omega
            have n5 := n1.symm
            have n6 := n2.symm
            have n7 := n3.symm
            have n8 := n4.symm
            go_wp2
            go_region
            all_goals
              go_wp2
              (try simp only [Exit.inBlock, Exit.then])
              refine bodyPost_ret (v := .tuple #[.agg #[.slice L m d], .agg #[.slice (some ⟨gl, 0, none⟩) m d2]]) ?_ rfl (D15d.out.1.done D15d.out.2.2.2.1 cp cp2 m0 m0)
              simp [results, Tryz.results13, go_sem, *]
  · obtain ⟨w5, hw5⟩ : ∃ W, w4 = W := ⟨_, rfl⟩
    have C5 := C4
    rw [hw5] at C5
    rw [hw5]
    clear C4 hw5
    obtain ⟨s1, s2, s3, s4, s5, s6, s7, s8, s9, sa⟩ := C5.out.box
    have C5d := Lib.hid C5.out.drew
    have hsz : w.heap.size ≤ w5.drew.heap.size := by have := C5d.out.box.2.2.2.2.2.2.2.2.2; omega
    go_wp2
    go_region_with ((go_at_call 31); (refine (l20Bent_bnd A n c w.heap.size g 90 _ C5d.out.1 (HBY.out _ C5d.out.2.1) hBg hsz hn (by omega)).mono ?_); (rintro e w6 ⟨L2, m2, d2, ys, rfl, ml2, m02, ho6, hs6, hq6, hz6⟩); (have cp2 := ho6.cap); (have O6 := Lib.hid (ho6.low (b0 := p + 1) C5d.out.ql)); (have C6 := Lib.hid (C5d.out.draw hs6 hq6)); (obtain ⟨t1, t2, t3, t4, t5, t6, t7, t8, t9, ta⟩ := C6.out.box); (clear hs6 hq6 ho6 hz6 ml2))
    all_goals
      go_wp2
      (try simp only [Exit.inBlock, Exit.then])
      refine bodyPost_ret (v := .tuple #[.agg #[.slice L m d], .agg #[.slice L2 m2 d2]]) ?_ rfl (C6.out.done O6.out cp cp2 m0 m02)
      simp [results, Tryz.results13, go_sem, *]
end Go.Proofs.YtajcbppndkkbpaaGreatDoor
