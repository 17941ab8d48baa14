/- The draws of ratios, of moon works and of days. No conditions but that the bytes lie apart from the source. -/
import Derived.Test.YtanfccdeacohfaaSrc
import Derived.Test.YtanfccdeacohfaaMake2
namespace Go.Proofs.Ytanfccdeacohfaa
open Go.RowKit
set_option linter.unusedVariables false
set_option linter.unusedSimpArgs false
theorem Src.set {w : World} {g n c : Nat} {A : Option Addr} {K : Int} (h : Src w g A n c K) {p : Addr} (hp : p.block ≠ g) (u : Value) : Src (w.setCell p u) g A n c K := h.keep (Below.heap_setCell w p u g (Ne.symm hp))
theorem Byts.set {w : World} {B n : Nat} {A : Option Addr} (h : Byts w B A n) {p : Addr} (hp : B ≤ p.block) (u : Value) : Byts (w.setCell p u) B A n := h.below ((Below.refl _ _).setCell hp u)
theorem Byts.alloc {w : World} {B n : Nat} {A : Option Addr} (h : Byts w B A n) (hB : B ≤ w.heap.size) (o : Obj) : Byts (w.alloc o) B A n := h.below ((Below.refl _ _).alloc hB o)
theorem Byts.drewN {w : World} {B n : Nat} {A : Option Addr} (h : Byts w B A n) (k : Nat) : Byts (w.drewN k) B A n := h
theorem frozen_only {w w' : World} {g b : Nat} (hg : w.grownBy w' (some g)) (hb : b < w.heap.size) (hne : b ≠ g) (h : ∀ o, w.frozen? ⟨b, o, none⟩ = false) : ∀ o, w'.frozen? ⟨b, o, none⟩ = false :=
  fun o => (World.frozen?_of_block (w := w) (hg.block b hb (by intro e; exact hne (by injection e)))).trans (h o)
/-- what is known of a moon work's draw behind its first switch -/
def MoonCut (w wx : World) (g : Nat) (A : Option Addr) (n c : Nat) (K : Int) : Prop := ∃ a b : Int, Src wx g A n c K ∧ w.grownBy wx (some g) ∧
  wx.cell? ⟨w.heap.size + 1, 0, none⟩ = some (.int .i64 a) ∧ wx.cell? ⟨w.heap.size + 1, 1, none⟩ = some (.int .i64 b) ∧
  wx.cell? ⟨w.heap.size, 0, none⟩ = some (.int .i64 0) ∧ wx.cell? ⟨w.heap.size, 1, none⟩ = some (.int .i64 0) ∧ wx.cell? ⟨w.heap.size, 2, none⟩ = some (.int .i64 0) ∧
  (∀ o, wx.frozen? ⟨w.heap.size + 1, o, none⟩ = false) ∧ ∀ o, wx.frozen? ⟨w.heap.size, o, none⟩ = false
def IsRatio (v : Value) : Prop := ∃ a b : Int, v = .agg #[.int .i64 a, .int .i64 b]
def IsMoon (v : Value) : Prop := ∃ a b z : Int, v = .agg #[.int .i64 a, .int .i64 b, .int .i64 z]
set_option maxHeartbeats 4000000 in
theorem l02Draw_any (A : Option Addr) (n c B g : Nat) (K : Int) (w : World) (h : Src w g A n c K) (hb : Byts w B A n) (hBg : B ≤ g) (hBw : B ≤ w.heap.size) (hn : n ≤ 4096) (hK : K ≤ 800000000) :
    Calls Try.prog 85 #[.pointer (some ⟨g, 0, none⟩)] w (Drawn IsRatio w g A n c (K + 10)) := by
  have hS0 := h
  have S0 := Lib.hid h
  have HB0 := Lib.hid hb
  have hg0 : w.grownBy w (some g) := World.grownBy.refl _ _
  have l0 := h.lt
  have zz0 : w.heap.size ≤ w.heap.size := Nat.le_refl _
  clear h hb hS0
  go_enter Try.func85, Try.ntmps85
  have hS0 := S0.out
  have hB0 := HB0.out
  go_wp2_with fail
  go_at_call 62
  refine (pick_any A n c B g K 100 _ (by (repeat (first | with_reducible exact hS0 | with_reducible refine Src.alloc ?_ _ | with_reducible refine Src.drewN ?_ _ | ((with_reducible refine Src.set ?_ ?_ _); rotate_left; (focus (first | (simp; done) | (simp; omega))))))) (by (repeat (first | with_reducible exact hB0 | ((with_reducible refine Byts.alloc ?_ ?_ _); rotate_left; (focus (first | omega | (simp; done) | (simp; omega)))) | with_reducible refine Byts.drewN ?_ _ | ((with_reducible refine Byts.set ?_ ?_ _); rotate_left; (focus (first | omega | (simp; done) | (simp; omega))))))) hBg hn (by omega) (by omega)).mono ?_
  rintro e w1 ⟨v, ⟨a, rfl, a0, a1⟩, rfl, hs1, hq1⟩
  have S1 := Lib.hid (Src.more (L := K + 2) hs1 (by omega))
  have l1 := hs1.lt
  have hg1 : w.grownBy w1 (some g) := by (repeat (first | with_reducible exact World.grownBy.refl _ _ | with_reducible refine only_alloc ?_ _ | with_reducible refine only_drewN ?_ _ | with_reducible refine only_drew ?_ | ((with_reducible refine only_setCell ?_ ?_ _); rotate_left; (focus (first | exact .inl rfl | (left; simp; done) | (right; simp; done) | (right; simp; omega)))) | with_reducible refine World.grownBy.trans ?_ (by assumption) | with_reducible refine only_below ?_ (by assumption)))
  have zz1 := hg1.size
  have HB1 := Lib.hid (HB0.out.only (by omega) hg1 hBg)
  have xR0_1 : w1.cell? ⟨w.heap.size, 0, none⟩ = some (.int .i64 0) := hq1.cell (by simp [go_sem, *]) (by first | omega | (simp; done) | (simp; omega))
  have xR1_1 : w1.cell? ⟨w.heap.size, 1, none⟩ = some (.int .i64 0) := hq1.cell (by simp [go_sem, *]) (by first | omega | (simp; done) | (simp; omega))
  have fR_1 : ∀ o, w1.frozen? ⟨w.heap.size, o, none⟩ = false := frozen_only hq1 (by first | omega | (simp; done) | (simp; omega)) (by first | omega | (simp; done) | (simp; omega)) (fun o => by simp [go_sem, *])
  have yR_1 : w.heap.size < w1.heap.size := by have := hq1.size; (try simp at this); omega
  clear hS0 hB0 hs1 hq1
  (try clear xR0_0 xR1_0 fR_0 yR_0)
  rw [if_neg (by omega)] at a1
  have hS1 := S1.out
  have hB1 := HB1.out
  go_wp2_with fail
  go_at_call 62
  refine (pick_any A n c B g (K + 2) 30 _ (by (repeat (first | with_reducible exact hS1 | with_reducible refine Src.alloc ?_ _ | with_reducible refine Src.drewN ?_ _ | ((with_reducible refine Src.set ?_ ?_ _); rotate_left; (focus (first | (simp; done) | (simp; omega))))))) (by (repeat (first | with_reducible exact hB1 | ((with_reducible refine Byts.alloc ?_ ?_ _); rotate_left; (focus (first | omega | (simp; done) | (simp; omega)))) | with_reducible refine Byts.drewN ?_ _ | ((with_reducible refine Byts.set ?_ ?_ _); rotate_left; (focus (first | omega | (simp; done) | (simp; omega))))))) hBg hn (by omega) (by omega)).mono ?_
  rintro e w2 ⟨v, ⟨b, rfl, b0, b1⟩, rfl, hs2, hq2⟩
  have S2 := Lib.hid (Src.more (L := K + 4) hs2 (by omega))
  have l2 := hs2.lt
  have hg2 : w.grownBy w2 (some g) := by (repeat (first | with_reducible exact World.grownBy.refl _ _ | with_reducible refine only_alloc ?_ _ | with_reducible refine only_drewN ?_ _ | with_reducible refine only_drew ?_ | ((with_reducible refine only_setCell ?_ ?_ _); rotate_left; (focus (first | exact .inl rfl | (left; simp; done) | (right; simp; done) | (right; simp; omega)))) | with_reducible refine World.grownBy.trans ?_ (by assumption) | with_reducible refine only_below ?_ (by assumption)))
  have zz2 := hg2.size
  have HB2 := Lib.hid (HB0.out.only (by omega) hg2 hBg)
  have xR0_2 : w2.cell? ⟨w.heap.size, 0, none⟩ = some (.int .i64 0) := hq2.cell (by simp [go_sem, *]) (by first | omega | (simp; done) | (simp; omega))
  have xR1_2 : w2.cell? ⟨w.heap.size, 1, none⟩ = some (.int .i64 0) := hq2.cell (by simp [go_sem, *]) (by first | omega | (simp; done) | (simp; omega))
  have fR_2 : ∀ o, w2.frozen? ⟨w.heap.size, o, none⟩ = false := frozen_only hq2 (by first | omega | (simp; done) | (simp; omega)) (by first | omega | (simp; done) | (simp; omega)) (fun o => by simp [go_sem, *])
  have yR_2 : w.heap.size < w2.heap.size := by have := hq2.size; (try simp at this); omega
  clear hS1 hB1 hs2 hq2
  (try clear xR0_1 xR1_1 fR_1 yR_1)
  rw [if_neg (by omega)] at b1
  have hS2 := S2.out
  have hB2 := HB2.out
  go_wp2_with fail
  go_at_call 62
  refine (pick_any A n c B g (K + 4) 8 _ (by (repeat (first | with_reducible exact hS2 | with_reducible refine Src.alloc ?_ _ | with_reducible refine Src.drewN ?_ _ | ((with_reducible refine Src.set ?_ ?_ _); rotate_left; (focus (first | (simp; done) | (simp; omega))))))) (by (repeat (first | with_reducible exact hB2 | ((with_reducible refine Byts.alloc ?_ ?_ _); rotate_left; (focus (first | omega | (simp; done) | (simp; omega)))) | with_reducible refine Byts.drewN ?_ _ | ((with_reducible refine Byts.set ?_ ?_ _); rotate_left; (focus (first | omega | (simp; done) | (simp; omega))))))) hBg hn (by omega) (by omega)).mono ?_
  rintro e w3 ⟨v, ⟨x, rfl, x0, x1⟩, rfl, hs3, hq3⟩
  have S3 := Lib.hid (Src.more (L := K + 6) hs3 (by omega))
  have l3 := hs3.lt
  have hg3 : w.grownBy w3 (some g) := by (repeat (first | with_reducible exact World.grownBy.refl _ _ | with_reducible refine only_alloc ?_ _ | with_reducible refine only_drewN ?_ _ | with_reducible refine only_drew ?_ | ((with_reducible refine only_setCell ?_ ?_ _); rotate_left; (focus (first | exact .inl rfl | (left; simp; done) | (right; simp; done) | (right; simp; omega)))) | with_reducible refine World.grownBy.trans ?_ (by assumption) | with_reducible refine only_below ?_ (by assumption)))
  have zz3 := hg3.size
  have HB3 := Lib.hid (HB0.out.only (by omega) hg3 hBg)
  have xR0_3 : w3.cell? ⟨w.heap.size, 0, none⟩ = some (.int .i64 0) := hq3.cell (by simp [go_sem, *]) (by first | omega | (simp; done) | (simp; omega))
  have xR1_3 : w3.cell? ⟨w.heap.size, 1, none⟩ = some (.int .i64 0) := hq3.cell (by simp [go_sem, *]) (by first | omega | (simp; done) | (simp; omega))
  have fR_3 : ∀ o, w3.frozen? ⟨w.heap.size, o, none⟩ = false := frozen_only hq3 (by first | omega | (simp; done) | (simp; omega)) (by first | omega | (simp; done) | (simp; omega)) (fun o => by simp [go_sem, *])
  have yR_3 : w.heap.size < w3.heap.size := by have := hq3.size; (try simp at this); omega
  clear hS2 hB2 hs3 hq3
  (try clear xR0_2 xR1_2 fR_2 yR_2)
  rw [if_neg (by omega)] at x1
  by_cases ex0 : x = 0
  · subst ex0
    have hS3 := S3.out
    have hB3 := HB3.out
    go_wp2_with fail
    go_at_call 61
    refine (among_any A _ n c B g 6 6 [1000000000, -1000000000, 999999937, 0, 1461, 29530589] (K + 6) _ (by (repeat (first | with_reducible exact hS3 | with_reducible refine Src.alloc ?_ _ | with_reducible refine Src.drewN ?_ _ | ((with_reducible refine Src.set ?_ ?_ _); rotate_left; (focus (first | (simp; done) | (simp; omega))))))) (by (repeat (first | with_reducible exact hB3 | ((with_reducible refine Byts.alloc ?_ ?_ _); rotate_left; (focus (first | omega | (simp; done) | (simp; omega)))) | with_reducible refine Byts.drewN ?_ _ | ((with_reducible refine Byts.set ?_ ?_ _); rotate_left; (focus (first | omega | (simp; done) | (simp; omega))))))) hBg hn (by omega)
      ⟨rfl, fun _ => ⟨_, 0, rfl, by simp, fun j hj => by
        match j, hj with
        | 0, _ => simp
        | 1, _ => simp
        | 2, _ => simp
        | 3, _ => simp
        | 4, _ => simp
        | 5, _ => simp⟩⟩ (by intro ad h; cases h; first | (simp; done) | (simp; omega)) (by omega) (by omega)).mono ?_
    rintro e w4 ⟨v, ⟨y, rfl, hy⟩, rfl, hs4, hq4⟩
    have S4 := Lib.hid (Src.more (L := K + 8) hs4 (by omega))
    have l4 := hs4.lt
    have hg4 : w.grownBy w4 (some g) := by (repeat (first | with_reducible exact World.grownBy.refl _ _ | with_reducible refine only_alloc ?_ _ | with_reducible refine only_drewN ?_ _ | with_reducible refine only_drew ?_ | ((with_reducible refine only_setCell ?_ ?_ _); rotate_left; (focus (first | exact .inl rfl | (left; simp; done) | (right; simp; done) | (right; simp; omega)))) | with_reducible refine World.grownBy.trans ?_ (by assumption) | with_reducible refine only_below ?_ (by assumption)))
    have zz4 := hg4.size
    have HB4 := Lib.hid (HB0.out.only (by omega) hg4 hBg)
    have xR0_4 : w4.cell? ⟨w.heap.size, 0, none⟩ = some (.int .i64 0) := hq4.cell (by simp [go_sem, *]) (by first | omega | (simp; done) | (simp; omega))
    have xR1_4 : w4.cell? ⟨w.heap.size, 1, none⟩ = some (.int .i64 0) := hq4.cell (by simp [go_sem, *]) (by first | omega | (simp; done) | (simp; omega))
    have fR_4 : ∀ o, w4.frozen? ⟨w.heap.size, o, none⟩ = false := frozen_only hq4 (by first | omega | (simp; done) | (simp; omega)) (by first | omega | (simp; done) | (simp; omega)) (fun o => by simp [go_sem, *])
    have yR_4 : w.heap.size < w4.heap.size := by have := hq4.size; (try simp at this); omega
    clear hS3 hB3 hs4 hq4
    (try clear xR0_3 xR1_3 fR_3 yR_3)
    have yr : -1000000000 ≤ y ∧ y ≤ 1000000000 := by simp at hy; omega
    clear hy
    have hS4 := S4.out
    go_wp2_with fail
    go_at_call 71
    refine (l02Make_any (y) (1 + b) _ (by omega) (by omega) (by omega) (by omega) (by omega)).mono ?_
    rintro e w9 ⟨rfl, hb9⟩
    have hS9 := Src.call (by (repeat (first | with_reducible exact hS4 | with_reducible refine Src.alloc ?_ _ | with_reducible refine Src.drewN ?_ _ | ((with_reducible refine Src.set ?_ ?_ _); rotate_left; (focus (first | (simp; done) | (simp; omega))))))) hb9
    have S9 := Lib.hid hS9
    have xR0 : w9.cell? ⟨w.heap.size, 0, none⟩ = some (.int .i64 0) := cell_call hb9 (by first | omega | (simp; done) | (simp; omega)) (by simp [go_sem, *])
    have xR1 : w9.cell? ⟨w.heap.size, 1, none⟩ = some (.int .i64 0) := cell_call hb9 (by first | omega | (simp; done) | (simp; omega)) (by simp [go_sem, *])
    have fR : ∀ o, w9.frozen? ⟨w.heap.size, o, none⟩ = false := fun o => (hb9.frozen (by first | omega | (simp; done) | (simp; omega))).trans (by simp [go_sem, *])
    have hg9 : w.grownBy w9 (some g) := by (repeat (first | with_reducible exact World.grownBy.refl _ _ | with_reducible refine only_alloc ?_ _ | with_reducible refine only_drewN ?_ _ | with_reducible refine only_drew ?_ | ((with_reducible refine only_setCell ?_ ?_ _); rotate_left; (focus (first | exact .inl rfl | (left; simp; done) | (right; simp; done) | (right; simp; omega)))) | with_reducible refine World.grownBy.trans ?_ (by assumption) | with_reducible refine only_below ?_ (by assumption)))
    have y9 : w.heap.size < w9.heap.size := by have := hb9.size; (try simp at this); omega
    clear hb9 hS9 hS4
    (try clear xR0_4 xR1_4 fR_4 yR_4)
    go_wp2
    refine bodyPost_ret (v := .agg #[.int .i64 (rN (y) (1 + b)), .int .i64 (rD (y) (1 + b))]) ?_ rfl ⟨_, ⟨_, _, rfl⟩, rfl, ?_, ?_⟩
    · simp [results, Try.results85, go_sem, *]
    · have hS9 := S9.out
      refine Src.more (K := K + 8) ?_ (by omega)
      exact (by (repeat (first | with_reducible exact hS9 | with_reducible refine Src.alloc ?_ _ | with_reducible refine Src.drewN ?_ _ | ((with_reducible refine Src.set ?_ ?_ _); rotate_left; (focus (first | (simp; done) | (simp; omega)))))))
    · (repeat (first | with_reducible exact World.grownBy.refl _ _ | with_reducible refine only_alloc ?_ _ | with_reducible refine only_drewN ?_ _ | with_reducible refine only_drew ?_ | ((with_reducible refine only_setCell ?_ ?_ _); rotate_left; (focus (first | exact .inl rfl | (left; simp; done) | (right; simp; done) | (right; simp; omega)))) | with_reducible refine World.grownBy.trans ?_ (by assumption) | with_reducible refine only_below ?_ (by assumption)))
  · have nx0 : (x == 0) = false := by simpa using ex0
    by_cases ex1 : x = 1
    · subst ex1
      have hS3 := S3.out
      have hB3 := HB3.out
      go_wp2_with fail
      go_at_call 61
      refine (among_any A _ n c B g 4 4 [1000000000, 999999937, 4, 1000000] (K + 6) _ (by (repeat (first | with_reducible exact hS3 | with_reducible refine Src.alloc ?_ _ | with_reducible refine Src.drewN ?_ _ | ((with_reducible refine Src.set ?_ ?_ _); rotate_left; (focus (first | (simp; done) | (simp; omega))))))) (by (repeat (first | with_reducible exact hB3 | ((with_reducible refine Byts.alloc ?_ ?_ _); rotate_left; (focus (first | omega | (simp; done) | (simp; omega)))) | with_reducible refine Byts.drewN ?_ _ | ((with_reducible refine Byts.set ?_ ?_ _); rotate_left; (focus (first | omega | (simp; done) | (simp; omega))))))) hBg hn (by omega)
        ⟨rfl, fun _ => ⟨_, 0, rfl, by simp, fun j hj => by
          match j, hj with
          | 0, _ => simp
          | 1, _ => simp
          | 2, _ => simp
          | 3, _ => simp⟩⟩ (by intro ad h; cases h; first | (simp; done) | (simp; omega)) (by omega) (by omega)).mono ?_
      rintro e w5 ⟨v, ⟨y, rfl, hy⟩, rfl, hs5, hq5⟩
      have S5 := Lib.hid (Src.more (L := K + 8) hs5 (by omega))
      have l5 := hs5.lt
      have hg5 : w.grownBy w5 (some g) := by (repeat (first | with_reducible exact World.grownBy.refl _ _ | with_reducible refine only_alloc ?_ _ | with_reducible refine only_drewN ?_ _ | with_reducible refine only_drew ?_ | ((with_reducible refine only_setCell ?_ ?_ _); rotate_left; (focus (first | exact .inl rfl | (left; simp; done) | (right; simp; done) | (right; simp; omega)))) | with_reducible refine World.grownBy.trans ?_ (by assumption) | with_reducible refine only_below ?_ (by assumption)))
      have zz5 := hg5.size
      have HB5 := Lib.hid (HB0.out.only (by omega) hg5 hBg)
      have xR0_5 : w5.cell? ⟨w.heap.size, 0, none⟩ = some (.int .i64 0) := hq5.cell (by simp [go_sem, *]) (by first | omega | (simp; done) | (simp; omega))
      have xR1_5 : w5.cell? ⟨w.heap.size, 1, none⟩ = some (.int .i64 0) := hq5.cell (by simp [go_sem, *]) (by first | omega | (simp; done) | (simp; omega))
      have fR_5 : ∀ o, w5.frozen? ⟨w.heap.size, o, none⟩ = false := frozen_only hq5 (by first | omega | (simp; done) | (simp; omega)) (by first | omega | (simp; done) | (simp; omega)) (fun o => by simp [go_sem, *])
      have yR_5 : w.heap.size < w5.heap.size := by have := hq5.size; (try simp at this); omega
      clear hS3 hB3 hs5 hq5
      (try clear xR0_3 xR1_3 fR_3 yR_3)
      have yr : 1 ≤ y ∧ y ≤ 1000000000 := by simp at hy; omega
      clear hy
      have hS5 := S5.out
      go_wp2_with fail
      go_at_call 71
      refine (l02Make_any (a - 40) (y) _ (by omega) (by omega) (by omega) (by omega) (by omega)).mono ?_
      rintro e w9 ⟨rfl, hb9⟩
      have hS9 := Src.call (by (repeat (first | with_reducible exact hS5 | with_reducible refine Src.alloc ?_ _ | with_reducible refine Src.drewN ?_ _ | ((with_reducible refine Src.set ?_ ?_ _); rotate_left; (focus (first | (simp; done) | (simp; omega))))))) hb9
      have S9 := Lib.hid hS9
      have xR0 : w9.cell? ⟨w.heap.size, 0, none⟩ = some (.int .i64 0) := cell_call hb9 (by first | omega | (simp; done) | (simp; omega)) (by simp [go_sem, *])
      have xR1 : w9.cell? ⟨w.heap.size, 1, none⟩ = some (.int .i64 0) := cell_call hb9 (by first | omega | (simp; done) | (simp; omega)) (by simp [go_sem, *])
      have fR : ∀ o, w9.frozen? ⟨w.heap.size, o, none⟩ = false := fun o => (hb9.frozen (by first | omega | (simp; done) | (simp; omega))).trans (by simp [go_sem, *])
      have hg9 : w.grownBy w9 (some g) := by (repeat (first | with_reducible exact World.grownBy.refl _ _ | with_reducible refine only_alloc ?_ _ | with_reducible refine only_drewN ?_ _ | with_reducible refine only_drew ?_ | ((with_reducible refine only_setCell ?_ ?_ _); rotate_left; (focus (first | exact .inl rfl | (left; simp; done) | (right; simp; done) | (right; simp; omega)))) | with_reducible refine World.grownBy.trans ?_ (by assumption) | with_reducible refine only_below ?_ (by assumption)))
      have y9 : w.heap.size < w9.heap.size := by have := hb9.size; (try simp at this); omega
      clear hb9 hS9 hS5
      (try clear xR0_5 xR1_5 fR_5 yR_5)
      go_wp2
      refine bodyPost_ret (v := .agg #[.int .i64 (rN (a - 40) (y)), .int .i64 (rD (a - 40) (y))]) ?_ rfl ⟨_, ⟨_, _, rfl⟩, rfl, ?_, ?_⟩
      · simp [results, Try.results85, go_sem, *]
      · have hS9 := S9.out
        refine Src.more (K := K + 8) ?_ (by omega)
        exact (by (repeat (first | with_reducible exact hS9 | with_reducible refine Src.alloc ?_ _ | with_reducible refine Src.drewN ?_ _ | ((with_reducible refine Src.set ?_ ?_ _); rotate_left; (focus (first | (simp; done) | (simp; omega)))))))
      · (repeat (first | with_reducible exact World.grownBy.refl _ _ | with_reducible refine only_alloc ?_ _ | with_reducible refine only_drewN ?_ _ | with_reducible refine only_drew ?_ | ((with_reducible refine only_setCell ?_ ?_ _); rotate_left; (focus (first | exact .inl rfl | (left; simp; done) | (right; simp; done) | (right; simp; omega)))) | with_reducible refine World.grownBy.trans ?_ (by assumption) | with_reducible refine only_below ?_ (by assumption)))
    · have nx1 : (x == 1) = false := by simpa using ex1
      have hS3 := S3.out
      go_wp2_with fail
      go_at_call 71
      refine (l02Make_any (a - 40) (1 + b) _ (by omega) (by omega) (by omega) (by omega) (by omega)).mono ?_
      rintro e w9 ⟨rfl, hb9⟩
      have hS9 := Src.call (by (repeat (first | with_reducible exact hS3 | with_reducible refine Src.alloc ?_ _ | with_reducible refine Src.drewN ?_ _ | ((with_reducible refine Src.set ?_ ?_ _); rotate_left; (focus (first | (simp; done) | (simp; omega))))))) hb9
      have S9 := Lib.hid hS9
      have xR0 : w9.cell? ⟨w.heap.size, 0, none⟩ = some (.int .i64 0) := cell_call hb9 (by first | omega | (simp; done) | (simp; omega)) (by simp [go_sem, *])
      have xR1 : w9.cell? ⟨w.heap.size, 1, none⟩ = some (.int .i64 0) := cell_call hb9 (by first | omega | (simp; done) | (simp; omega)) (by simp [go_sem, *])
      have fR : ∀ o, w9.frozen? ⟨w.heap.size, o, none⟩ = false := fun o => (hb9.frozen (by first | omega | (simp; done) | (simp; omega))).trans (by simp [go_sem, *])
      have hg9 : w.grownBy w9 (some g) := by (repeat (first | with_reducible exact World.grownBy.refl _ _ | with_reducible refine only_alloc ?_ _ | with_reducible refine only_drewN ?_ _ | with_reducible refine only_drew ?_ | ((with_reducible refine only_setCell ?_ ?_ _); rotate_left; (focus (first | exact .inl rfl | (left; simp; done) | (right; simp; done) | (right; simp; omega)))) | with_reducible refine World.grownBy.trans ?_ (by assumption) | with_reducible refine only_below ?_ (by assumption)))
      have y9 : w.heap.size < w9.heap.size := by have := hb9.size; (try simp at this); omega
      clear hb9 hS9 hS3
      (try clear xR0_3 xR1_3 fR_3 yR_3)
      go_wp2
      refine bodyPost_ret (v := .agg #[.int .i64 (rN (a - 40) (1 + b)), .int .i64 (rD (a - 40) (1 + b))]) ?_ rfl ⟨_, ⟨_, _, rfl⟩, rfl, ?_, ?_⟩
      · simp [results, Try.results85, go_sem, *]
      · have hS9 := S9.out
        refine Src.more (K := K + 6) ?_ (by omega)
        exact (by (repeat (first | with_reducible exact hS9 | with_reducible refine Src.alloc ?_ _ | with_reducible refine Src.drewN ?_ _ | ((with_reducible refine Src.set ?_ ?_ _); rotate_left; (focus (first | (simp; done) | (simp; omega)))))))
      · (repeat (first | with_reducible exact World.grownBy.refl _ _ | with_reducible refine only_alloc ?_ _ | with_reducible refine only_drewN ?_ _ | with_reducible refine only_drew ?_ | ((with_reducible refine only_setCell ?_ ?_ _); rotate_left; (focus (first | exact .inl rfl | (left; simp; done) | (right; simp; done) | (right; simp; omega)))) | with_reducible refine World.grownBy.trans ?_ (by assumption) | with_reducible refine only_below ?_ (by assumption)))
set_option maxHeartbeats 4000000 in
theorem l02Bent_any (A : Option Addr) (n c B g : Nat) (K : Int) (w : World) (h : Src w g A n c K) (hb : Byts w B A n) (hBg : B ≤ g) (hBw : B ≤ w.heap.size) (hn : n ≤ 4096) (hK : K ≤ 800000000) :
    Calls Try.prog 83 #[.pointer (some ⟨g, 0, none⟩)] w (Drawn IsRatio w g A n c (K + 20)) := by
  have hS0 := h
  have S0 := Lib.hid h
  have HB0 := Lib.hid hb
  have hg0 : w.grownBy w (some g) := World.grownBy.refl _ _
  have l0 := h.lt
  have zz0 : w.heap.size ≤ w.heap.size := Nat.le_refl _
  clear h hb hS0
  go_enter Try.func83, Try.ntmps83
  have hS0 := S0.out
  have hB0 := HB0.out
  go_wp2_with fail
  go_at_call 85
  refine (l02Draw_any A n c B g K _ (by (repeat (first | with_reducible exact hS0 | with_reducible refine Src.alloc ?_ _ | with_reducible refine Src.drewN ?_ _ | ((with_reducible refine Src.set ?_ ?_ _); rotate_left; (focus (first | (simp; done) | (simp; omega))))))) (by (repeat (first | with_reducible exact hB0 | ((with_reducible refine Byts.alloc ?_ ?_ _); rotate_left; (focus (first | omega | (simp; done) | (simp; omega)))) | with_reducible refine Byts.drewN ?_ _ | ((with_reducible refine Byts.set ?_ ?_ _); rotate_left; (focus (first | omega | (simp; done) | (simp; omega))))))) hBg (by first | omega | (simp; done) | (simp; omega)) hn (by omega)).mono ?_
  rintro e w1 ⟨v, ⟨a, b, rfl⟩, rfl, hs1, hq1⟩
  have S1 := Lib.hid (Src.more (L := K + 10) hs1 (by omega))
  have l1 := hs1.lt
  have hg1 : w.grownBy w1 (some g) := by (repeat (first | with_reducible exact World.grownBy.refl _ _ | with_reducible refine only_alloc ?_ _ | with_reducible refine only_drewN ?_ _ | with_reducible refine only_drew ?_ | ((with_reducible refine only_setCell ?_ ?_ _); rotate_left; (focus (first | exact .inl rfl | (left; simp; done) | (right; simp; done) | (right; simp; omega)))) | with_reducible refine World.grownBy.trans ?_ (by assumption) | with_reducible refine only_below ?_ (by assumption)))
  have zz1 := hg1.size
  have HB1 := Lib.hid (HB0.out.only (by omega) hg1 hBg)
  have xR0_1 : w1.cell? ⟨w.heap.size, 0, none⟩ = some (.int .i64 0) := hq1.cell (by simp [go_sem, *]) (by first | omega | (simp; done) | (simp; omega))
  have xR1_1 : w1.cell? ⟨w.heap.size, 1, none⟩ = some (.int .i64 0) := hq1.cell (by simp [go_sem, *]) (by first | omega | (simp; done) | (simp; omega))
  have fR_1 : ∀ o, w1.frozen? ⟨w.heap.size, o, none⟩ = false := frozen_only hq1 (by first | omega | (simp; done) | (simp; omega)) (by first | omega | (simp; done) | (simp; omega)) (fun o => by simp [go_sem, *])
  have yR_1 : w.heap.size < w1.heap.size := by have := hq1.size; (try simp at this); omega
  clear hS0 hB0 hs1 hq1
  (try clear xR0_0 xR1_0 fR_0 yR_0)
  have dRP : w.heap.size ≠ w1.heap.size := by omega
  have dPR : w1.heap.size ≠ w.heap.size := by omega
  have hS1 := S1.out
  have hB1 := HB1.out
  go_wp2_with fail
  go_at_call 62
  refine (pick_any A n c B g (K + 10) 24 _ (by (repeat (first | with_reducible exact hS1 | with_reducible refine Src.alloc ?_ _ | with_reducible refine Src.drewN ?_ _ | ((with_reducible refine Src.set ?_ ?_ _); rotate_left; (focus (first | (simp; done) | (simp; omega))))))) (by (repeat (first | with_reducible exact hB1 | ((with_reducible refine Byts.alloc ?_ ?_ _); rotate_left; (focus (first | omega | (simp; done) | (simp; omega)))) | with_reducible refine Byts.drewN ?_ _ | ((with_reducible refine Byts.set ?_ ?_ _); rotate_left; (focus (first | omega | (simp; done) | (simp; omega))))))) hBg hn (by omega) (by omega)).mono ?_
  rintro e w2 ⟨v, ⟨x, rfl, x0, x1⟩, rfl, hs2, hq2⟩
  have S2 := Lib.hid (Src.more (L := K + 12) hs2 (by omega))
  have l2 := hs2.lt
  have hg2 : w.grownBy w2 (some g) := by (repeat (first | with_reducible exact World.grownBy.refl _ _ | with_reducible refine only_alloc ?_ _ | with_reducible refine only_drewN ?_ _ | with_reducible refine only_drew ?_ | ((with_reducible refine only_setCell ?_ ?_ _); rotate_left; (focus (first | exact .inl rfl | (left; simp; done) | (right; simp; done) | (right; simp; omega)))) | with_reducible refine World.grownBy.trans ?_ (by assumption) | with_reducible refine only_below ?_ (by assumption)))
  have zz2 := hg2.size
  have HB2 := Lib.hid (HB0.out.only (by omega) hg2 hBg)
  have xR0_2 : w2.cell? ⟨w.heap.size, 0, none⟩ = some (.int .i64 0) := hq2.cell (by simp [go_sem, *]) (by first | omega | (simp; done) | (simp; omega))
  have xR1_2 : w2.cell? ⟨w.heap.size, 1, none⟩ = some (.int .i64 0) := hq2.cell (by simp [go_sem, *]) (by first | omega | (simp; done) | (simp; omega))
  have fR_2 : ∀ o, w2.frozen? ⟨w.heap.size, o, none⟩ = false := frozen_only hq2 (by first | omega | (simp; done) | (simp; omega)) (by first | omega | (simp; done) | (simp; omega)) (fun o => by simp [go_sem, *])
  have yR_2 : w.heap.size < w2.heap.size := by have := hq2.size; (try simp at this); omega
  have xP0_2 : w2.cell? ⟨w1.heap.size, 0, none⟩ = some (.int .i64 a) := hq2.cell (by simp [go_sem, *]) (by first | omega | (simp; done) | (simp; omega))
  have xP1_2 : w2.cell? ⟨w1.heap.size, 1, none⟩ = some (.int .i64 b) := hq2.cell (by simp [go_sem, *]) (by first | omega | (simp; done) | (simp; omega))
  have fP_2 : ∀ o, w2.frozen? ⟨w1.heap.size, o, none⟩ = false := frozen_only hq2 (by first | omega | (simp; done) | (simp; omega)) (by first | omega | (simp; done) | (simp; omega)) (fun o => by simp [go_sem, *])
  have yP_2 : w1.heap.size < w2.heap.size := by have := hq2.size; (try simp at this); omega
  clear hS1 hB1 hs2 hq2
  (try clear xR0_1 xR1_1 fR_1 yR_1)
  (try clear xP0_1 xP1_1 fP_1 yP_1)
  rw [if_neg (by omega)] at x1
  by_cases ex0 : x = 0
  · subst ex0
    have hS2 := S2.out
    have hB2 := HB2.out
    go_wp2_with fail
    go_at_call 61
    refine (among_any A _ n c B g 3 3 [0, -1, 1000000001] (K + 12) _ (by (repeat (first | with_reducible exact hS2 | with_reducible refine Src.alloc ?_ _ | with_reducible refine Src.drewN ?_ _ | ((with_reducible refine Src.set ?_ ?_ _); rotate_left; (focus (first | (simp; done) | (simp; omega))))))) (by (repeat (first | with_reducible exact hB2 | ((with_reducible refine Byts.alloc ?_ ?_ _); rotate_left; (focus (first | omega | (simp; done) | (simp; omega)))) | with_reducible refine Byts.drewN ?_ _ | ((with_reducible refine Byts.set ?_ ?_ _); rotate_left; (focus (first | omega | (simp; done) | (simp; omega))))))) hBg hn (by omega)
      ⟨rfl, fun _ => ⟨_, 0, rfl, by simp, fun j hj => by
        match j, hj with
        | 0, _ => simp
        | 1, _ => simp
        | 2, _ => simp⟩⟩ (by intro ad h; cases h; first | (simp; done) | (simp; omega)) (by omega) (by omega)).mono ?_
    rintro e w3 ⟨v, ⟨y, rfl, hy⟩, rfl, hs3, hq3⟩
    have S3 := Lib.hid (Src.more (L := K + 14) hs3 (by omega))
    have l3 := hs3.lt
    have hg3 : w.grownBy w3 (some g) := by (repeat (first | with_reducible exact World.grownBy.refl _ _ | with_reducible refine only_alloc ?_ _ | with_reducible refine only_drewN ?_ _ | with_reducible refine only_drew ?_ | ((with_reducible refine only_setCell ?_ ?_ _); rotate_left; (focus (first | exact .inl rfl | (left; simp; done) | (right; simp; done) | (right; simp; omega)))) | with_reducible refine World.grownBy.trans ?_ (by assumption) | with_reducible refine only_below ?_ (by assumption)))
    have zz3 := hg3.size
    have HB3 := Lib.hid (HB0.out.only (by omega) hg3 hBg)
    have xR0_3 : w3.cell? ⟨w.heap.size, 0, none⟩ = some (.int .i64 0) := hq3.cell (by simp [go_sem, *]) (by first | omega | (simp; done) | (simp; omega))
    have xR1_3 : w3.cell? ⟨w.heap.size, 1, none⟩ = some (.int .i64 0) := hq3.cell (by simp [go_sem, *]) (by first | omega | (simp; done) | (simp; omega))
    have fR_3 : ∀ o, w3.frozen? ⟨w.heap.size, o, none⟩ = false := frozen_only hq3 (by first | omega | (simp; done) | (simp; omega)) (by first | omega | (simp; done) | (simp; omega)) (fun o => by simp [go_sem, *])
    have yR_3 : w.heap.size < w3.heap.size := by have := hq3.size; (try simp at this); omega
    have xP0_3 : w3.cell? ⟨w1.heap.size, 0, none⟩ = some (.int .i64 a) := hq3.cell (by simp [go_sem, *]) (by first | omega | (simp; done) | (simp; omega))
    have xP1_3 : w3.cell? ⟨w1.heap.size, 1, none⟩ = some (.int .i64 b) := hq3.cell (by simp [go_sem, *]) (by first | omega | (simp; done) | (simp; omega))
    have fP_3 : ∀ o, w3.frozen? ⟨w1.heap.size, o, none⟩ = false := frozen_only hq3 (by first | omega | (simp; done) | (simp; omega)) (by first | omega | (simp; done) | (simp; omega)) (fun o => by simp [go_sem, *])
    have yP_3 : w1.heap.size < w3.heap.size := by have := hq3.size; (try simp at this); omega
    clear hS2 hB2 hs3 hq3
    (try clear xR0_2 xR1_2 fR_2 yR_2)
    (try clear xP0_2 xP1_2 fP_2 yP_2)
    clear hy
    go_wp2
    refine bodyPost_ret (v := .agg #[.int .i64 (a), .int .i64 (y)]) ?_ rfl ⟨_, ⟨_, _, rfl⟩, rfl, ?_, ?_⟩
    · simp [results, Try.results83, go_sem, *]
    · have hS3 := S3.out
      refine Src.more (K := K + 14) ?_ (by omega)
      exact (by (repeat (first | with_reducible exact hS3 | with_reducible refine Src.alloc ?_ _ | with_reducible refine Src.drewN ?_ _ | ((with_reducible refine Src.set ?_ ?_ _); rotate_left; (focus (first | (simp; done) | (simp; omega)))))))
    · (repeat (first | with_reducible exact World.grownBy.refl _ _ | with_reducible refine only_alloc ?_ _ | with_reducible refine only_drewN ?_ _ | with_reducible refine only_drew ?_ | ((with_reducible refine only_setCell ?_ ?_ _); rotate_left; (focus (first | exact .inl rfl | (left; simp; done) | (right; simp; done) | (right; simp; omega)))) | with_reducible refine World.grownBy.trans ?_ (by assumption) | with_reducible refine only_below ?_ (by assumption)))
  · have nx0 : (x == 0) = false := by simpa using ex0
    by_cases ex1 : x = 1
    · subst ex1
      have hS2 := S2.out
      have hB2 := HB2.out
      go_wp2_with fail
      go_at_call 61
      refine (among_any A _ n c B g 3 3 [1000000001, -1000000001, -9223372036854775808] (K + 12) _ (by (repeat (first | with_reducible exact hS2 | with_reducible refine Src.alloc ?_ _ | with_reducible refine Src.drewN ?_ _ | ((with_reducible refine Src.set ?_ ?_ _); rotate_left; (focus (first | (simp; done) | (simp; omega))))))) (by (repeat (first | with_reducible exact hB2 | ((with_reducible refine Byts.alloc ?_ ?_ _); rotate_left; (focus (first | omega | (simp; done) | (simp; omega)))) | with_reducible refine Byts.drewN ?_ _ | ((with_reducible refine Byts.set ?_ ?_ _); rotate_left; (focus (first | omega | (simp; done) | (simp; omega))))))) hBg hn (by omega)
        ⟨rfl, fun _ => ⟨_, 0, rfl, by simp, fun j hj => by
          match j, hj with
          | 0, _ => simp
          | 1, _ => simp
          | 2, _ => simp⟩⟩ (by intro ad h; cases h; first | (simp; done) | (simp; omega)) (by omega) (by omega)).mono ?_
      rintro e w4 ⟨v, ⟨y, rfl, hy⟩, rfl, hs4, hq4⟩
      have S4 := Lib.hid (Src.more (L := K + 14) hs4 (by omega))
      have l4 := hs4.lt
      have hg4 : w.grownBy w4 (some g) := by (repeat (first | with_reducible exact World.grownBy.refl _ _ | with_reducible refine only_alloc ?_ _ | with_reducible refine only_drewN ?_ _ | with_reducible refine only_drew ?_ | ((with_reducible refine only_setCell ?_ ?_ _); rotate_left; (focus (first | exact .inl rfl | (left; simp; done) | (right; simp; done) | (right; simp; omega)))) | with_reducible refine World.grownBy.trans ?_ (by assumption) | with_reducible refine only_below ?_ (by assumption)))
      have zz4 := hg4.size
      have HB4 := Lib.hid (HB0.out.only (by omega) hg4 hBg)
      have xR0_4 : w4.cell? ⟨w.heap.size, 0, none⟩ = some (.int .i64 0) := hq4.cell (by simp [go_sem, *]) (by first | omega | (simp; done) | (simp; omega))
      have xR1_4 : w4.cell? ⟨w.heap.size, 1, none⟩ = some (.int .i64 0) := hq4.cell (by simp [go_sem, *]) (by first | omega | (simp; done) | (simp; omega))
      have fR_4 : ∀ o, w4.frozen? ⟨w.heap.size, o, none⟩ = false := frozen_only hq4 (by first | omega | (simp; done) | (simp; omega)) (by first | omega | (simp; done) | (simp; omega)) (fun o => by simp [go_sem, *])
      have yR_4 : w.heap.size < w4.heap.size := by have := hq4.size; (try simp at this); omega
      have xP0_4 : w4.cell? ⟨w1.heap.size, 0, none⟩ = some (.int .i64 a) := hq4.cell (by simp [go_sem, *]) (by first | omega | (simp; done) | (simp; omega))
      have xP1_4 : w4.cell? ⟨w1.heap.size, 1, none⟩ = some (.int .i64 b) := hq4.cell (by simp [go_sem, *]) (by first | omega | (simp; done) | (simp; omega))
      have fP_4 : ∀ o, w4.frozen? ⟨w1.heap.size, o, none⟩ = false := frozen_only hq4 (by first | omega | (simp; done) | (simp; omega)) (by first | omega | (simp; done) | (simp; omega)) (fun o => by simp [go_sem, *])
      have yP_4 : w1.heap.size < w4.heap.size := by have := hq4.size; (try simp at this); omega
      clear hS2 hB2 hs4 hq4
      (try clear xR0_2 xR1_2 fR_2 yR_2)
      (try clear xP0_2 xP1_2 fP_2 yP_2)
      clear hy
      go_wp2
      refine bodyPost_ret (v := .agg #[.int .i64 (y), .int .i64 (b)]) ?_ rfl ⟨_, ⟨_, _, rfl⟩, rfl, ?_, ?_⟩
      · simp [results, Try.results83, go_sem, *]
      · have hS4 := S4.out
        refine Src.more (K := K + 14) ?_ (by omega)
        exact (by (repeat (first | with_reducible exact hS4 | with_reducible refine Src.alloc ?_ _ | with_reducible refine Src.drewN ?_ _ | ((with_reducible refine Src.set ?_ ?_ _); rotate_left; (focus (first | (simp; done) | (simp; omega)))))))
      · (repeat (first | with_reducible exact World.grownBy.refl _ _ | with_reducible refine only_alloc ?_ _ | with_reducible refine only_drewN ?_ _ | with_reducible refine only_drew ?_ | ((with_reducible refine only_setCell ?_ ?_ _); rotate_left; (focus (first | exact .inl rfl | (left; simp; done) | (right; simp; done) | (right; simp; omega)))) | with_reducible refine World.grownBy.trans ?_ (by assumption) | with_reducible refine only_below ?_ (by assumption)))
    · have nx1 : (x == 1) = false := by simpa using ex1
      by_cases ex2 : x = 2
      · subst ex2
        go_wp2
        refine bodyPost_ret (v := .agg #[.int .i64 (2), .int .i64 (4)]) ?_ rfl ⟨_, ⟨_, _, rfl⟩, rfl, ?_, ?_⟩
        · simp [results, Try.results83, go_sem, *]
        · have hS2 := S2.out
          refine Src.more (K := K + 12) ?_ (by omega)
          exact (by (repeat (first | with_reducible exact hS2 | with_reducible refine Src.alloc ?_ _ | with_reducible refine Src.drewN ?_ _ | ((with_reducible refine Src.set ?_ ?_ _); rotate_left; (focus (first | (simp; done) | (simp; omega)))))))
        · (repeat (first | with_reducible exact World.grownBy.refl _ _ | with_reducible refine only_alloc ?_ _ | with_reducible refine only_drewN ?_ _ | with_reducible refine only_drew ?_ | ((with_reducible refine only_setCell ?_ ?_ _); rotate_left; (focus (first | exact .inl rfl | (left; simp; done) | (right; simp; done) | (right; simp; omega)))) | with_reducible refine World.grownBy.trans ?_ (by assumption) | with_reducible refine only_below ?_ (by assumption)))
      · have nx2 : (x == 2) = false := by simpa using ex2
        by_cases ex3 : x = 3
        · subst ex3
          have hS2 := S2.out
          have hB2 := HB2.out
          go_wp2_with fail
          go_at_call 61
          refine (among_any A _ n c B g 2 2 [1, 2] (K + 12) _ (by (repeat (first | with_reducible exact hS2 | with_reducible refine Src.alloc ?_ _ | with_reducible refine Src.drewN ?_ _ | ((with_reducible refine Src.set ?_ ?_ _); rotate_left; (focus (first | (simp; done) | (simp; omega))))))) (by (repeat (first | with_reducible exact hB2 | ((with_reducible refine Byts.alloc ?_ ?_ _); rotate_left; (focus (first | omega | (simp; done) | (simp; omega)))) | with_reducible refine Byts.drewN ?_ _ | ((with_reducible refine Byts.set ?_ ?_ _); rotate_left; (focus (first | omega | (simp; done) | (simp; omega))))))) hBg hn (by omega)
            ⟨rfl, fun _ => ⟨_, 0, rfl, by simp, fun j hj => by
              match j, hj with
              | 0, _ => simp
              | 1, _ => simp⟩⟩ (by intro ad h; cases h; first | (simp; done) | (simp; omega)) (by omega) (by omega)).mono ?_
          rintro e w5 ⟨v, ⟨y, rfl, hy⟩, rfl, hs5, hq5⟩
          have S5 := Lib.hid (Src.more (L := K + 14) hs5 (by omega))
          have l5 := hs5.lt
          have hg5 : w.grownBy w5 (some g) := by (repeat (first | with_reducible exact World.grownBy.refl _ _ | with_reducible refine only_alloc ?_ _ | with_reducible refine only_drewN ?_ _ | with_reducible refine only_drew ?_ | ((with_reducible refine only_setCell ?_ ?_ _); rotate_left; (focus (first | exact .inl rfl | (left; simp; done) | (right; simp; done) | (right; simp; omega)))) | with_reducible refine World.grownBy.trans ?_ (by assumption) | with_reducible refine only_below ?_ (by assumption)))
          have zz5 := hg5.size
          have HB5 := Lib.hid (HB0.out.only (by omega) hg5 hBg)
          have xR0_5 : w5.cell? ⟨w.heap.size, 0, none⟩ = some (.int .i64 0) := hq5.cell (by simp [go_sem, *]) (by first | omega | (simp; done) | (simp; omega))
          have xR1_5 : w5.cell? ⟨w.heap.size, 1, none⟩ = some (.int .i64 0) := hq5.cell (by simp [go_sem, *]) (by first | omega | (simp; done) | (simp; omega))
          have fR_5 : ∀ o, w5.frozen? ⟨w.heap.size, o, none⟩ = false := frozen_only hq5 (by first | omega | (simp; done) | (simp; omega)) (by first | omega | (simp; done) | (simp; omega)) (fun o => by simp [go_sem, *])
          have yR_5 : w.heap.size < w5.heap.size := by have := hq5.size; (try simp at this); omega
          have xP0_5 : w5.cell? ⟨w1.heap.size, 0, none⟩ = some (.int .i64 a) := hq5.cell (by simp [go_sem, *]) (by first | omega | (simp; done) | (simp; omega))
          have xP1_5 : w5.cell? ⟨w1.heap.size, 1, none⟩ = some (.int .i64 b) := hq5.cell (by simp [go_sem, *]) (by first | omega | (simp; done) | (simp; omega))
          have fP_5 : ∀ o, w5.frozen? ⟨w1.heap.size, o, none⟩ = false := frozen_only hq5 (by first | omega | (simp; done) | (simp; omega)) (by first | omega | (simp; done) | (simp; omega)) (fun o => by simp [go_sem, *])
          have yP_5 : w1.heap.size < w5.heap.size := by have := hq5.size; (try simp at this); omega
          clear hS2 hB2 hs5 hq5
          (try clear xR0_2 xR1_2 fR_2 yR_2)
          (try clear xP0_2 xP1_2 fP_2 yP_2)
          clear hy
          go_wp2
          refine bodyPost_ret (v := .agg #[.int .i64 (0), .int .i64 (y)]) ?_ rfl ⟨_, ⟨_, _, rfl⟩, rfl, ?_, ?_⟩
          · simp [results, Try.results83, go_sem, *]
          · have hS5 := S5.out
            refine Src.more (K := K + 14) ?_ (by omega)
            exact (by (repeat (first | with_reducible exact hS5 | with_reducible refine Src.alloc ?_ _ | with_reducible refine Src.drewN ?_ _ | ((with_reducible refine Src.set ?_ ?_ _); rotate_left; (focus (first | (simp; done) | (simp; omega)))))))
          · (repeat (first | with_reducible exact World.grownBy.refl _ _ | with_reducible refine only_alloc ?_ _ | with_reducible refine only_drewN ?_ _ | with_reducible refine only_drew ?_ | ((with_reducible refine only_setCell ?_ ?_ _); rotate_left; (focus (first | exact .inl rfl | (left; simp; done) | (right; simp; done) | (right; simp; omega)))) | with_reducible refine World.grownBy.trans ?_ (by assumption) | with_reducible refine only_below ?_ (by assumption)))
        · have nx3 : (x == 3) = false := by simpa using ex3
          go_wp2
          refine bodyPost_ret (v := .agg #[.int .i64 (a), .int .i64 (b)]) ?_ rfl ⟨_, ⟨_, _, rfl⟩, rfl, ?_, ?_⟩
          · simp [results, Try.results83, go_sem, *]
          · have hS2 := S2.out
            refine Src.more (K := K + 12) ?_ (by omega)
            exact (by (repeat (first | with_reducible exact hS2 | with_reducible refine Src.alloc ?_ _ | with_reducible refine Src.drewN ?_ _ | ((with_reducible refine Src.set ?_ ?_ _); rotate_left; (focus (first | (simp; done) | (simp; omega)))))))
          · (repeat (first | with_reducible exact World.grownBy.refl _ _ | with_reducible refine only_alloc ?_ _ | with_reducible refine only_drewN ?_ _ | with_reducible refine only_drew ?_ | ((with_reducible refine only_setCell ?_ ?_ _); rotate_left; (focus (first | exact .inl rfl | (left; simp; done) | (right; simp; done) | (right; simp; omega)))) | with_reducible refine World.grownBy.trans ?_ (by assumption) | with_reducible refine only_below ?_ (by assumption)))
end Go.Proofs.Ytanfccdeacohfaa
