/- The law FnExactWrongStrikes returns true: the program's WrongStrikes is the reference's, its result is a new slice, and it leaves its arguments as they were. No conditions. -/
import Derived.Test.YtfgilbkhhjhfmaaWrong
import Derived.Test.YtfgilbkhhjhfmaaOpenInts
namespace Go.Proofs.Ytfgilbkhhjhfmaa.fnExactWrongStrikes
open Go.ChangeShapes Go.WideShapes Go.ChangeAt Go.RowKit
set_option linter.unusedVariables false
set_option linter.unusedSimpArgs false
set_option maxHeartbeats 8000000 in
theorem walk (A : Option Addr) (n c : Nat) (zs : List Int) (x : Int) (E : Option Addr) (m ce : Nat) (ys : List Int) (w : World) (h : Came w A n c zs) (wx : (Lit.int .i64 x).wf = true) (h' : Came w E m ce ys) :
    Calls Try.prog 10 #[.agg #[.slice A n c], .int .i64 x, .slice E m ce] w fun e w' => e = .returned (.bool true) ∧ Below w.heap.size w w' := by
  obtain ⟨hI, hn, -⟩ := h
  obtain ⟨hE, hm, -⟩ := h'
  have hz := fun w => szCountWheel_any A n c 1048576 w (by omega) (by omega) hn
  by_cases hlm : (1048576 : Int) < m
  · clear hz hI hE
    go_enter Try.func10, Try.ntmps10
    go_wp2
    go_ret
    exact ⟨rfl, by (repeat (first | with_reducible exact Below.refl _ _ | with_reducible refine below_alloc ?_ _ | with_reducible refine below_drewN ?_ _ | with_reducible refine Below.drew ?_ | ((with_reducible refine below_set ?_ ?_ _); rotate_left; (focus (first | (simp; done) | (simp; omega) | omega))) | with_reducible refine below_call ?_ (by assumption)))⟩
  · by_cases hle : (1048576 : Int) < n
    · simp only [if_pos hle] at hz
      have HZ := Lib.hid hz
      clear hz hI hE
      go_enter Try.func10, Try.ntmps10
      go_wp2_with fail
      refine (HZ.out _).mono ?_
      rintro e w1 ⟨rfl, hb1⟩
      obtain ⟨hc1, hf1, hs1⟩ := bcell hb1
      (try (refine cut_ (p := w.heap.size < w1.heap.size) ?_ ?_; (focus (refine hs1 _ ?_; first | assumption | omega | (simp [go_sem]; done) | (simp [go_sem]; omega))); intro hl1a))
      (try (refine cut_ (p := w.heap.size + 1 < w1.heap.size) ?_ ?_; (focus (refine hs1 _ ?_; first | assumption | omega | (simp [go_sem]; done) | (simp [go_sem]; omega))); intro hl1b))
      (try (refine cut_ (p := w.heap.size + 1 + 1 < w1.heap.size) ?_ ?_; (focus (refine hs1 _ ?_; first | assumption | omega | (simp [go_sem]; done) | (simp [go_sem]; omega))); intro hl1c))
      go_wp2
      go_ret
      exact ⟨rfl, by (repeat (first | with_reducible exact Below.refl _ _ | with_reducible refine below_alloc ?_ _ | with_reducible refine below_drewN ?_ _ | with_reducible refine Below.drew ?_ | ((with_reducible refine below_set ?_ ?_ _); rotate_left; (focus (first | (simp; done) | (simp; omega) | omega))) | with_reducible refine below_call ?_ (by assumption)))⟩
    simp only [if_neg hle] at hz
    have hn' : n ≤ 1048576 := by omega
    have hm' : m ≤ 1048576 := by omega
    have hlen : (wrL zs ys n m x).length ≤ 1048576 := wrL_len zs ys n m x hm'
    have c1 := fun (A E : Option Addr) (c c' B B' : Nat) (w : World) (h : Ints w B A n zs) (hB : B ≤ w.heap.size) (h' : Ints w B' E m ys) (hB' : B' ≤ w.heap.size) => specWrongStrikes_any A E n c B m c' B' zs ys x w h hB h' hB' hn' hm'
    have c2 := fun (A E : Option Addr) (c c' B B' : Nat) (w : World) (h : Ints w B A n zs) (hB : B ≤ w.heap.size) (h' : Ints w B' E m ys) (hB' : B' ≤ w.heap.size) => WrongStrikes_any A E n c B m c' B' zs ys x w h hB h' hB' hn' hm'
    generalize wrL zs ys n m x = G at *
    generalize wrC zs ys n m x = cd at *
    have C1 := Lib.hid c1
    have C2 := Lib.hid c2
    have HZ := Lib.hid hz
    have HI := Lib.hid hI
    have HE := Lib.hid hE
    have HG := Lib.hid hlen
    clear hz hI hE c1 c2 hlen
    go_enter Try.func10, Try.ntmps10
    go_wp2_with fail
    refine (HZ.out _).mono ?_
    rintro e w1 ⟨rfl, hb1⟩
    obtain ⟨hc1, hf1, hs1⟩ := bcell hb1
    (try (refine cut_ (p := w.heap.size < w1.heap.size) ?_ ?_; (focus (refine hs1 _ ?_; first | assumption | omega | (simp [go_sem]; done) | (simp [go_sem]; omega))); intro hl1a))
    (try (refine cut_ (p := w.heap.size + 1 < w1.heap.size) ?_ ?_; (focus (refine hs1 _ ?_; first | assumption | omega | (simp [go_sem]; done) | (simp [go_sem]; omega))); intro hl1b))
    (try (refine cut_ (p := w.heap.size + 1 + 1 < w1.heap.size) ?_ ?_; (focus (refine hs1 _ ?_; first | assumption | omega | (simp [go_sem]; done) | (simp [go_sem]; omega))); intro hl1c))
    have l1 : w1.cell? ⟨w.heap.size, 0, none⟩ = some (.slice A n c) := by simp [go_sem, hc1]
    have B1 : Below w.heap.size w w1 := by (repeat (first | with_reducible exact Below.refl _ _ | with_reducible refine below_alloc ?_ _ | with_reducible refine below_drewN ?_ _ | with_reducible refine Below.drew ?_ | ((with_reducible refine below_set ?_ ?_ _); rotate_left; (focus (first | (simp; done) | (simp; omega) | omega))) | with_reducible refine below_call ?_ (by assumption)))
    have z1 : w.heap.size < w1.heap.size := by omega
    clear hc1 hf1 hs1 hb1
    go_wp2_with fail
    refine (toCountWheel_any A n c w.heap.size zs _ (by exact Ints.below HI.out (by (repeat (first | with_reducible exact Below.refl _ _ | with_reducible refine below_alloc ?_ _ | with_reducible refine below_drewN ?_ _ | with_reducible refine Below.drew ?_ | ((with_reducible refine below_set ?_ ?_ _); rotate_left; (focus (first | (simp; done) | (simp; omega) | omega))) | with_reducible refine below_call ?_ (by assumption))))) (by first | omega | (simp; omega)) hn').mono ?_
    rintro e w2 ⟨rfl, ho2, hb2⟩
    have b2 : Below w1.heap.size w1 w2 := by first | exact hb2 | (obtain ⟨mq, hq⟩ := hb2; rw [hq]; exact below_drewN (Below.refl _ _) _) | ((repeat (first | with_reducible exact Below.refl _ _ | with_reducible refine below_alloc ?_ _ | with_reducible refine below_drewN ?_ _ | with_reducible refine Below.drew ?_ | ((with_reducible refine below_set ?_ ?_ _); rotate_left; (focus (first | (simp; done) | (simp; omega) | omega))) | with_reducible refine below_call ?_ (by assumption))); done)
    have z2 : w1.heap.size ≤ w2.heap.size := b2.size
    have O2x2 : Hid (OwnIn w2 (w1.heap.size) w2.heap.size (some ⟨w1.heap.size + 1 + 1 + 1, 0, none⟩) n n zs) := Lib.hid (by simpa using OwnIn.of ho2)
    have l2 : w2.cell? ⟨w.heap.size, 0, none⟩ = some (.slice A n c) := cell_call b2 (p := ⟨w.heap.size, 0, none⟩) (by simp; omega) l1
    have B2 : Below w.heap.size w w2 := B1.trans (b2.mono (by omega))
    clear hb2 b2 ho2 l1 B1
    go_wp2_with fail
    refine (toInt64S_any E m ce w.heap.size ys _ (by exact Ints.below HE.out (by (repeat (first | with_reducible exact Below.refl _ _ | with_reducible refine below_alloc ?_ _ | with_reducible refine below_drewN ?_ _ | with_reducible refine Below.drew ?_ | ((with_reducible refine below_set ?_ ?_ _); rotate_left; (focus (first | (simp; done) | (simp; omega) | omega))) | with_reducible refine below_call ?_ (by assumption))))) (by first | omega | (simp; omega)) hm').mono ?_
    rintro e w3 ⟨rfl, ho3, hb3⟩
    have b3 : Below w2.heap.size w2 w3 := by first | exact hb3 | (obtain ⟨mq, hq⟩ := hb3; rw [hq]; exact below_drewN (Below.refl _ _) _) | ((repeat (first | with_reducible exact Below.refl _ _ | with_reducible refine below_alloc ?_ _ | with_reducible refine below_drewN ?_ _ | with_reducible refine Below.drew ?_ | ((with_reducible refine below_set ?_ ?_ _); rotate_left; (focus (first | (simp; done) | (simp; omega) | omega))) | with_reducible refine below_call ?_ (by assumption))); done)
    have z3 : w2.heap.size ≤ w3.heap.size := b3.size
    have O3x3 : Hid (OwnIn w3 (w2.heap.size) w3.heap.size (some ⟨w2.heap.size, 0, none⟩) m m ys) := Lib.hid (by simpa using OwnIn.of ho3)
    have l3 : w3.cell? ⟨w.heap.size, 0, none⟩ = some (.slice A n c) := cell_call b3 (p := ⟨w.heap.size, 0, none⟩) (by simp; omega) l2
    have O2x3 := Lib.hid (OwnIn.call O2x2.out b3 (by omega))
    have B3 : Below w.heap.size w w3 := B2.trans (b3.mono (by omega))
    clear hb3 b3 ho3 l2 O2x2 B2
    go_wp2_with fail
    refine (C1.out _ _ _ _ w3.heap.size w3.heap.size _ (OwnIn.ints O2x3.out (by omega)) (Nat.le_refl _) (OwnIn.ints O3x3.out (by omega)) (Nat.le_refl _)).mono ?_
    rintro e w4 ⟨L4, m4, c4, rfl, ho4, hb4⟩
    have b4 : Below w3.heap.size w3 w4 := by first | exact hb4 | (obtain ⟨mq, hq⟩ := hb4; rw [hq]; exact below_drewN (Below.refl _ _) _) | ((repeat (first | with_reducible exact Below.refl _ _ | with_reducible refine below_alloc ?_ _ | with_reducible refine below_drewN ?_ _ | with_reducible refine Below.drew ?_ | ((with_reducible refine below_set ?_ ?_ _); rotate_left; (focus (first | (simp; done) | (simp; omega) | omega))) | with_reducible refine below_call ?_ (by assumption))); done)
    have z4 : w3.heap.size ≤ w4.heap.size := b4.size
    have O4x4 : Hid (OwnIn w4 (w3.heap.size) w4.heap.size L4 m4 c4 G) := Lib.hid (by simpa using OwnIn.of ho4)
    have hm4 : m4 ≤ 1048576 := by have := ho4.len; have := HG.out; omega
    have l4 : w4.cell? ⟨w.heap.size, 0, none⟩ = some (.slice A n c) := cell_call b4 (p := ⟨w.heap.size, 0, none⟩) (by simp; omega) l3
    have O2x4 := Lib.hid (OwnIn.call O2x3.out b4 (by omega))
    have O3x4 := Lib.hid (OwnIn.call O3x3.out b4 (by omega))
    have B4 : Below w.heap.size w w4 := B3.trans (b4.mono (by omega))
    clear hb4 b4 ho4 l3 O2x3 O3x3 B3
    clear O2x4 O3x4
    go_wp2_with fail
    refine (toCountWheel_any A n c w.heap.size zs _ (by exact Ints.below HI.out (by (repeat (first | with_reducible exact Below.refl _ _ | with_reducible refine below_alloc ?_ _ | with_reducible refine below_drewN ?_ _ | with_reducible refine Below.drew ?_ | ((with_reducible refine below_set ?_ ?_ _); rotate_left; (focus (first | (simp; done) | (simp; omega) | omega))) | with_reducible refine below_call ?_ (by assumption))))) (by first | omega | (simp; omega)) hn').mono ?_
    rintro e w5 ⟨rfl, ho5, hb5⟩
    have b5 : Below w4.heap.size w4 w5 := by first | exact hb5 | (obtain ⟨mq, hq⟩ := hb5; rw [hq]; exact below_drewN (Below.refl _ _) _) | ((repeat (first | with_reducible exact Below.refl _ _ | with_reducible refine below_alloc ?_ _ | with_reducible refine below_drewN ?_ _ | with_reducible refine Below.drew ?_ | ((with_reducible refine below_set ?_ ?_ _); rotate_left; (focus (first | (simp; done) | (simp; omega) | omega))) | with_reducible refine below_call ?_ (by assumption))); done)
    have z5 : w4.heap.size ≤ w5.heap.size := b5.size
    have O5x5 : Hid (OwnIn w5 (w4.heap.size) w5.heap.size (some ⟨w4.heap.size + 1 + 1 + 1, 0, none⟩) n n zs) := Lib.hid (by simpa using OwnIn.of ho5)
    have l5 : w5.cell? ⟨w.heap.size, 0, none⟩ = some (.slice A n c) := cell_call b5 (p := ⟨w.heap.size, 0, none⟩) (by simp; omega) l4
    have O4x5 := Lib.hid (OwnIn.call O4x4.out b5 (by omega))
    have B5 : Below w.heap.size w w5 := B4.trans (b5.mono (by omega))
    clear hb5 b5 ho5 l4 O4x4 B4
    go_wp2_with fail
    refine (toInt64S_any E m ce w.heap.size ys _ (by exact Ints.below HE.out (by (repeat (first | with_reducible exact Below.refl _ _ | with_reducible refine below_alloc ?_ _ | with_reducible refine below_drewN ?_ _ | with_reducible refine Below.drew ?_ | ((with_reducible refine below_set ?_ ?_ _); rotate_left; (focus (first | (simp; done) | (simp; omega) | omega))) | with_reducible refine below_call ?_ (by assumption))))) (by first | omega | (simp; omega)) hm').mono ?_
    rintro e w6 ⟨rfl, ho6, hb6⟩
    have b6 : Below w5.heap.size w5 w6 := by (repeat (first | with_reducible exact Below.refl _ _ | with_reducible refine below_alloc ?_ _ | with_reducible refine below_drewN ?_ _ | with_reducible refine Below.drew ?_ | ((with_reducible refine below_set ?_ ?_ _); rotate_left; (focus (first | (simp; done) | (simp; omega) | omega))) | with_reducible refine below_call ?_ (by assumption)))
    have k6 : w6.cell? ⟨w5.heap.size, 0, none⟩ = some (.slice (some ⟨w4.heap.size + 1 + 1 + 1, 0, none⟩) n n) := by rw [hb6.cell (p := ⟨w5.heap.size, 0, none⟩) (by simp)]; simp
    have z6 : w5.heap.size + 1 ≤ w6.heap.size := by have := hb6.size; simpa using this
    have O6x6 : Hid (OwnIn w6 (w5.heap.size + 1) w6.heap.size (some ⟨w5.heap.size + 1, 0, none⟩) m m ys) := Lib.hid (by simpa using OwnIn.of ho6)
    have l6 : w6.cell? ⟨w.heap.size, 0, none⟩ = some (.slice A n c) := cell_call b6 (p := ⟨w.heap.size, 0, none⟩) (by simp; omega) l5
    have O4x6 := Lib.hid (OwnIn.call O4x5.out b6 (by omega))
    have O5x6 := Lib.hid (OwnIn.call O5x5.out b6 (by omega))
    have B6 : Below w.heap.size w w6 := B5.trans (b6.mono (by omega))
    clear hb6 b6 ho6 l5 O4x5 O5x5 B5
    go_wp2_with fail
    refine (C2.out _ _ _ _ w6.heap.size w6.heap.size _ (OwnIn.ints O5x6.out (by omega)) (Nat.le_refl _) (OwnIn.ints O6x6.out (by omega)) (Nat.le_refl _)).mono ?_
    rintro e w7 ⟨L7, m7, c7, rfl, ho7, hb7⟩
    have b7 : Below w6.heap.size w6 w7 := by first | exact hb7 | (obtain ⟨mq, hq⟩ := hb7; rw [hq]; exact below_drewN (Below.refl _ _) _) | ((repeat (first | with_reducible exact Below.refl _ _ | with_reducible refine below_alloc ?_ _ | with_reducible refine below_drewN ?_ _ | with_reducible refine Below.drew ?_ | ((with_reducible refine below_set ?_ ?_ _); rotate_left; (focus (first | (simp; done) | (simp; omega) | omega))) | with_reducible refine below_call ?_ (by assumption))); done)
    have z7 : w6.heap.size ≤ w7.heap.size := b7.size
    have O7x7 : Hid (OwnIn w7 (w6.heap.size) w7.heap.size L7 m7 c7 G) := Lib.hid (by simpa using OwnIn.of ho7)
    have hm7 : m7 ≤ 1048576 := by have := ho7.len; have := HG.out; omega
    have l7 : w7.cell? ⟨w.heap.size, 0, none⟩ = some (.slice A n c) := cell_call b7 (p := ⟨w.heap.size, 0, none⟩) (by simp; omega) l6
    have O4x7 := Lib.hid (OwnIn.call O4x6.out b7 (by omega))
    have O5x7 := Lib.hid (OwnIn.call O5x6.out b7 (by omega))
    have k7 : w7.cell? ⟨w5.heap.size, 0, none⟩ = some (.slice (some ⟨w4.heap.size + 1 + 1 + 1, 0, none⟩) n n) := cell_call b7 (p := ⟨w5.heap.size, 0, none⟩) (by simp; omega) k6
    have O6x7 := Lib.hid (OwnIn.call O6x6.out b7 (by omega))
    have B7 : Below w.heap.size w w7 := B6.trans (b7.mono (by omega))
    clear hb7 b7 ho7 l6 O4x6 O5x6 k6 O6x6 B6
    go_wp2_with fail
    refine (eqInt64S_same' _ (OwnIn.ints O7x7.out (by omega) (B := w7.heap.size)) (OwnIn.ints O4x7.out (by omega) (B := w7.heap.size)) (by omega) (by omega)).mono ?_
    rintro e w8 ⟨rfl, hb8⟩
    have b8 : Below w7.heap.size w7 w8 := by first | exact hb8 | (obtain ⟨mq, hq⟩ := hb8; rw [hq]; exact below_drewN (Below.refl _ _) _) | ((repeat (first | with_reducible exact Below.refl _ _ | with_reducible refine below_alloc ?_ _ | with_reducible refine below_drewN ?_ _ | with_reducible refine Below.drew ?_ | ((with_reducible refine below_set ?_ ?_ _); rotate_left; (focus (first | (simp; done) | (simp; omega) | omega))) | with_reducible refine below_call ?_ (by assumption))); done)
    have z8 : w7.heap.size ≤ w8.heap.size := b8.size
    have l8 : w8.cell? ⟨w.heap.size, 0, none⟩ = some (.slice A n c) := cell_call b8 (p := ⟨w.heap.size, 0, none⟩) (by simp; omega) l7
    have O4x8 := Lib.hid (OwnIn.call O4x7.out b8 (by omega))
    have O5x8 := Lib.hid (OwnIn.call O5x7.out b8 (by omega))
    have k8 : w8.cell? ⟨w5.heap.size, 0, none⟩ = some (.slice (some ⟨w4.heap.size + 1 + 1 + 1, 0, none⟩) n n) := cell_call b8 (p := ⟨w5.heap.size, 0, none⟩) (by simp; omega) k7
    have O6x8 := Lib.hid (OwnIn.call O6x7.out b8 (by omega))
    have O7x8 := Lib.hid (OwnIn.call O7x7.out b8 (by omega))
    have B8 : Below w.heap.size w w8 := B7.trans (b8.mono (by omega))
    clear hb8 b8 l7 O4x7 O5x7 k7 O6x7 O7x7 B7
    have yl8 : w.heap.size < w8.heap.size := by omega
    have yk8 : w5.heap.size < w8.heap.size := by omega
    have r8 := Below.refl w8.heap.size w8
    go_wp2
    go_region_held3 (fun w' => w'.cell? ⟨w.heap.size, 0, none⟩ = some (.slice A n c) ∧ w'.cell? ⟨w5.heap.size, 0, none⟩ = some (.slice (some ⟨w4.heap.size + 1 + 1 + 1, 0, none⟩) n n) ∧ w.heap.size < w'.heap.size ∧ w5.heap.size < w'.heap.size ∧ Below w.heap.size w w' ∧ Below w8.heap.size w8 w')
      (first | ((try go_split_ands); (try dsimp only); refine ⟨?_, ?_, ?_, ?_, ?_, ?_⟩ <;> first | (exact cell_call (by assumption) (by assumption) (by assumption)) | (exact lt_call (by assumption) (by assumption)) | (exact below_call' (by assumption) (by assumption)) | (exact Below.drew (by assumption)) | (with_reducible assumption) | (simp; done) | (simp [*]; done) | ((repeat (first | with_reducible exact Below.refl _ _ | with_reducible refine below_alloc ?_ _ | with_reducible refine below_drewN ?_ _ | with_reducible refine Below.drew ?_ | ((with_reducible refine below_set ?_ ?_ _); rotate_left; (focus (first | (simp; done) | (simp; omega) | omega))) | with_reducible refine below_call ?_ (by assumption))); done) | omega))
      (first
        | (go_at_call 21; go_split_ands; refine (toCountWheel_any _ _ _ w.heap.size zs _ (by exact Ints.below HI.out (by assumption)) (by exact Below.size (B := w.heap.size) (w := w) (by assumption)) hn').mono ?_; rintro e w9 ⟨rfl, ho9, hb9⟩; have Oc9 := Lib.hid ho9; clear ho9)
        | (go_at_call 16; go_split_ands; refine (eqCountWheel_same _ _ _ _ _ _ _ _ zs _ (by exact OwnIn.ints (OwnIn.call O5x8.out (by assumption) (by omega)) (Nat.le_refl _)) (by exact Own.ints Oc9.out (Nat.le_refl _)) (by have := Below.size (B := w8.heap.size) (w := w8) (by assumption); omega) (Nat.le_refl _) hn hn).mono ?_; rintro e w10 ⟨rfl, hb10⟩))
    go_split_ands
    have b10 : Below w8.heap.size w8 w10 := by assumption
    have z10 : w8.heap.size ≤ w10.heap.size := b10.size
    have l10 : w10.cell? ⟨w.heap.size, 0, none⟩ = some (.slice A n c) := cell_call b10 (p := ⟨w.heap.size, 0, none⟩) (by simp; omega) l8
    have O4x10 := Lib.hid (OwnIn.call O4x8.out b10 (by omega))
    have O5x10 := Lib.hid (OwnIn.call O5x8.out b10 (by omega))
    have k10 : w10.cell? ⟨w5.heap.size, 0, none⟩ = some (.slice (some ⟨w4.heap.size + 1 + 1 + 1, 0, none⟩) n n) := cell_call b10 (p := ⟨w5.heap.size, 0, none⟩) (by simp; omega) k8
    have O6x10 := Lib.hid (OwnIn.call O6x8.out b10 (by omega))
    have O7x10 := Lib.hid (OwnIn.call O7x8.out b10 (by omega))
    have B10 : Below w.heap.size w w10 := B8.trans (b10.mono (by omega))
    clear hb9 hb10 Oc9 b10 r8 l8 O4x8 O5x8 k8 O6x8 O7x8 B8
    go_wp2_with fail
    refine (toInt64S_any E m ce w.heap.size ys _ (by exact Ints.below HE.out (by (repeat (first | with_reducible exact Below.refl _ _ | with_reducible refine below_alloc ?_ _ | with_reducible refine below_drewN ?_ _ | with_reducible refine Below.drew ?_ | ((with_reducible refine below_set ?_ ?_ _); rotate_left; (focus (first | (simp; done) | (simp; omega) | omega))) | with_reducible refine below_call ?_ (by assumption))))) (by first | omega | (simp; omega)) hm').mono ?_
    rintro e w11 ⟨rfl, ho11, hb11⟩
    have b11 : Below w10.heap.size w10 w11 := by first | exact hb11 | (obtain ⟨mq, hq⟩ := hb11; rw [hq]; exact below_drewN (Below.refl _ _) _) | ((repeat (first | with_reducible exact Below.refl _ _ | with_reducible refine below_alloc ?_ _ | with_reducible refine below_drewN ?_ _ | with_reducible refine Below.drew ?_ | ((with_reducible refine below_set ?_ ?_ _); rotate_left; (focus (first | (simp; done) | (simp; omega) | omega))) | with_reducible refine below_call ?_ (by assumption))); done)
    have z11 : w10.heap.size ≤ w11.heap.size := b11.size
    have O11x11 : Hid (OwnIn w11 (w10.heap.size) w11.heap.size (some ⟨w10.heap.size, 0, none⟩) m m ys) := Lib.hid (by simpa using OwnIn.of ho11)
    have l11 : w11.cell? ⟨w.heap.size, 0, none⟩ = some (.slice A n c) := cell_call b11 (p := ⟨w.heap.size, 0, none⟩) (by simp; omega) l10
    have O4x11 := Lib.hid (OwnIn.call O4x10.out b11 (by omega))
    have O5x11 := Lib.hid (OwnIn.call O5x10.out b11 (by omega))
    have k11 : w11.cell? ⟨w5.heap.size, 0, none⟩ = some (.slice (some ⟨w4.heap.size + 1 + 1 + 1, 0, none⟩) n n) := cell_call b11 (p := ⟨w5.heap.size, 0, none⟩) (by simp; omega) k10
    have O6x11 := Lib.hid (OwnIn.call O6x10.out b11 (by omega))
    have O7x11 := Lib.hid (OwnIn.call O7x10.out b11 (by omega))
    have B11 : Below w.heap.size w w11 := B10.trans (b11.mono (by omega))
    clear hb11 b11 ho11 l10 O4x10 O5x10 k10 O6x10 O7x10 B10
    go_wp2_with fail
    refine (eqInt64S_same' _ (OwnIn.ints O6x11.out (by omega) (B := w11.heap.size)) (OwnIn.ints O11x11.out (by omega) (B := w11.heap.size)) (by omega) (by omega)).mono ?_
    rintro e w12 ⟨rfl, hb12⟩
    have b12 : Below w11.heap.size w11 w12 := by first | exact hb12 | (obtain ⟨mq, hq⟩ := hb12; rw [hq]; exact below_drewN (Below.refl _ _) _) | ((repeat (first | with_reducible exact Below.refl _ _ | with_reducible refine below_alloc ?_ _ | with_reducible refine below_drewN ?_ _ | with_reducible refine Below.drew ?_ | ((with_reducible refine below_set ?_ ?_ _); rotate_left; (focus (first | (simp; done) | (simp; omega) | omega))) | with_reducible refine below_call ?_ (by assumption))); done)
    have z12 : w11.heap.size ≤ w12.heap.size := b12.size
    have l12 : w12.cell? ⟨w.heap.size, 0, none⟩ = some (.slice A n c) := cell_call b12 (p := ⟨w.heap.size, 0, none⟩) (by simp; omega) l11
    have O4x12 := Lib.hid (OwnIn.call O4x11.out b12 (by omega))
    have O5x12 := Lib.hid (OwnIn.call O5x11.out b12 (by omega))
    have k12 : w12.cell? ⟨w5.heap.size, 0, none⟩ = some (.slice (some ⟨w4.heap.size + 1 + 1 + 1, 0, none⟩) n n) := cell_call b12 (p := ⟨w5.heap.size, 0, none⟩) (by simp; omega) k11
    have O6x12 := Lib.hid (OwnIn.call O6x11.out b12 (by omega))
    have O7x12 := Lib.hid (OwnIn.call O7x11.out b12 (by omega))
    have O11x12 := Lib.hid (OwnIn.call O11x11.out b12 (by omega))
    have B12 : Below w.heap.size w w12 := B11.trans (b12.mono (by omega))
    clear hb12 b12 l11 O4x11 O5x11 k11 O6x11 O7x11 O11x11 B11
    clear O11x12
    go_wp2_with fail
    refine (markCountWheel_any _ _ _ _ _ zs 1 _ O5x12.out (by omega) hn' (by omega) (by omega)).mono ?_
    rintro e w13 ⟨rfl, ho13, hg13⟩
    have z13 : w12.heap.size ≤ w13.heap.size := hg13.size
    have O5x13 := Lib.hid ho13
    have l13 : w13.cell? ⟨w.heap.size, 0, none⟩ = some (.slice A n c) := OwnIn.cell O5x12.out hg13 l12 (by omega)
    have O4x13 := Lib.hid (OwnIn.grown O4x12.out hg13 (fun g hg => by have := O5x12.out.blk g hg; omega) (by omega))
    have k13 : w13.cell? ⟨w5.heap.size, 0, none⟩ = some (.slice (some ⟨w4.heap.size + 1 + 1 + 1, 0, none⟩) n n) := OwnIn.cell O5x12.out hg13 k12 (by omega)
    have O6x13 := Lib.hid (OwnIn.grown O6x12.out hg13 (fun g hg => by have := O5x12.out.blk g hg; omega) (by omega))
    have O7x13 := Lib.hid (OwnIn.grown O7x12.out hg13 (fun g hg => by have := O5x12.out.blk g hg; omega) (by omega))
    have B13 : Below w.heap.size w w13 := OwnIn.below O5x12.out B12 hg13 (by omega)
    clear ho13 hg13 O5x12 l12 O4x12 k12 O6x12 O7x12 B12
    clear O5x13
    go_wp2_with fail
    refine (markInt64S_any _ _ _ _ ys (1 + (n : Int)) _ O6x13.out.1 hm' (by omega) (by omega)).mono ?_
    rintro e w14 ⟨rfl, ho14, hg14⟩
    have z14 : w13.heap.size ≤ w14.heap.size := hg14.size
    have O6x14 := Lib.hid (OwnIn.self O6x13.out ho14)
    have l14 : w14.cell? ⟨w.heap.size, 0, none⟩ = some (.slice A n c) := OwnIn.cell O6x13.out hg14 l13 (by omega)
    have O4x14 := Lib.hid (OwnIn.grown O4x13.out hg14 (fun g hg => by have := O6x13.out.blk g hg; omega) (by omega))
    have O7x14 := Lib.hid (OwnIn.grown O7x13.out hg14 (fun g hg => by have := O6x13.out.blk g hg; omega) (by omega))
    have B14 : Below w.heap.size w w14 := OwnIn.below O6x13.out B13 hg14 (by omega)
    clear ho14 hg14 O6x13 l13 O4x13 O7x13 B13
    clear O6x14
    go_wp2_with fail
    refine (eqInt64S_same' _ (OwnIn.ints O7x14.out (by omega) (B := w14.heap.size)) (OwnIn.ints O4x14.out (by omega) (B := w14.heap.size)) (by omega) (by omega)).mono ?_
    rintro e w15 ⟨rfl, hb15⟩
    have b15 : Below w14.heap.size w14 w15 := by first | exact hb15 | (obtain ⟨mq, hq⟩ := hb15; rw [hq]; exact below_drewN (Below.refl _ _) _) | ((repeat (first | with_reducible exact Below.refl _ _ | with_reducible refine below_alloc ?_ _ | with_reducible refine below_drewN ?_ _ | with_reducible refine Below.drew ?_ | ((with_reducible refine below_set ?_ ?_ _); rotate_left; (focus (first | (simp; done) | (simp; omega) | omega))) | with_reducible refine below_call ?_ (by assumption))); done)
    have z15 : w14.heap.size ≤ w15.heap.size := b15.size
    have l15 : w15.cell? ⟨w.heap.size, 0, none⟩ = some (.slice A n c) := cell_call b15 (p := ⟨w.heap.size, 0, none⟩) (by simp; omega) l14
    have O4x15 := Lib.hid (OwnIn.call O4x14.out b15 (by omega))
    have O7x15 := Lib.hid (OwnIn.call O7x14.out b15 (by omega))
    have B15 : Below w.heap.size w w15 := B14.trans (b15.mono (by omega))
    clear hb15 b15 l14 O4x14 O7x14 B14
    go_wp2_with fail
    refine (markInt64S_any _ _ _ _ G 1 _ O7x15.out.1 hm7 (by omega) (by omega)).mono ?_
    rintro e w16 ⟨rfl, ho16, hg16⟩
    have z16 : w15.heap.size ≤ w16.heap.size := hg16.size
    have O7x16 := Lib.hid (OwnIn.self O7x15.out ho16)
    have l16 : w16.cell? ⟨w.heap.size, 0, none⟩ = some (.slice A n c) := OwnIn.cell O7x15.out hg16 l15 (by omega)
    have O4x16 := Lib.hid (OwnIn.grown O4x15.out hg16 (fun g hg => by have := O7x15.out.blk g hg; omega) (by omega))
    have B16 : Below w.heap.size w w16 := OwnIn.below O7x15.out B15 hg16 (by omega)
    clear ho16 hg16 O7x15 l15 O4x15 B15
    go_wp2_with fail
    refine (heldInt64S_any _ _ _ w16.heap.size 1 _ (OwnIn.ints O7x16.out (by omega)) hm7 (by omega) (by omega)).mono ?_
    rintro e w' ⟨rfl, rfl⟩
    have yl16 : w.heap.size < w16.heap.size := by omega
    go_wp2_with fail
    refine (toCountWheel_any A n c w.heap.size zs _ (by exact Ints.below HI.out (by (repeat (first | with_reducible exact Below.refl _ _ | with_reducible refine below_alloc ?_ _ | with_reducible refine below_drewN ?_ _ | with_reducible refine Below.drew ?_ | ((with_reducible refine below_set ?_ ?_ _); rotate_left; (focus (first | (simp; done) | (simp; omega) | omega))) | with_reducible refine below_call ?_ (by assumption))))) (by first | omega | (simp; omega)) hn').mono ?_
    rintro e w17 ⟨rfl, ho17, hb17⟩
    have b17 : Below w16.heap.size w16 w17 := by first | exact hb17 | (obtain ⟨mq, hq⟩ := hb17; rw [hq]; exact below_drewN (Below.refl _ _) _) | ((repeat (first | with_reducible exact Below.refl _ _ | with_reducible refine below_alloc ?_ _ | with_reducible refine below_drewN ?_ _ | with_reducible refine Below.drew ?_ | ((with_reducible refine below_set ?_ ?_ _); rotate_left; (focus (first | (simp; done) | (simp; omega) | omega))) | with_reducible refine below_call ?_ (by assumption))); done)
    have z17 : w16.heap.size ≤ w17.heap.size := b17.size
    have O17x17 : Hid (OwnIn w17 (w16.heap.size) w17.heap.size (some ⟨w16.heap.size + 1 + 1 + 1, 0, none⟩) n n zs) := Lib.hid (by simpa using OwnIn.of ho17)
    have l17 : w17.cell? ⟨w.heap.size, 0, none⟩ = some (.slice A n c) := cell_call b17 (p := ⟨w.heap.size, 0, none⟩) (by simp; omega) l16
    have O4x17 := Lib.hid (OwnIn.call O4x16.out b17 (by omega))
    have O7x17 := Lib.hid (OwnIn.call O7x16.out b17 (by omega))
    have B17 : Below w.heap.size w w17 := B16.trans (b17.mono (by omega))
    clear hb17 b17 ho17 l16 O4x16 O7x16 B16
    go_wp2_with fail
    refine (toInt64S_any E m ce w.heap.size ys _ (by exact Ints.below HE.out (by (repeat (first | with_reducible exact Below.refl _ _ | with_reducible refine below_alloc ?_ _ | with_reducible refine below_drewN ?_ _ | with_reducible refine Below.drew ?_ | ((with_reducible refine below_set ?_ ?_ _); rotate_left; (focus (first | (simp; done) | (simp; omega) | omega))) | with_reducible refine below_call ?_ (by assumption))))) (by first | omega | (simp; omega)) hm').mono ?_
    rintro e w18 ⟨rfl, ho18, hb18⟩
    have b18 : Below w17.heap.size w17 w18 := by first | exact hb18 | (obtain ⟨mq, hq⟩ := hb18; rw [hq]; exact below_drewN (Below.refl _ _) _) | ((repeat (first | with_reducible exact Below.refl _ _ | with_reducible refine below_alloc ?_ _ | with_reducible refine below_drewN ?_ _ | with_reducible refine Below.drew ?_ | ((with_reducible refine below_set ?_ ?_ _); rotate_left; (focus (first | (simp; done) | (simp; omega) | omega))) | with_reducible refine below_call ?_ (by assumption))); done)
    have z18 : w17.heap.size ≤ w18.heap.size := b18.size
    have O18x18 : Hid (OwnIn w18 (w17.heap.size) w18.heap.size (some ⟨w17.heap.size, 0, none⟩) m m ys) := Lib.hid (by simpa using OwnIn.of ho18)
    have l18 : w18.cell? ⟨w.heap.size, 0, none⟩ = some (.slice A n c) := cell_call b18 (p := ⟨w.heap.size, 0, none⟩) (by simp; omega) l17
    have O4x18 := Lib.hid (OwnIn.call O4x17.out b18 (by omega))
    have O7x18 := Lib.hid (OwnIn.call O7x17.out b18 (by omega))
    have O17x18 := Lib.hid (OwnIn.call O17x17.out b18 (by omega))
    have B18 : Below w.heap.size w w18 := B17.trans (b18.mono (by omega))
    clear hb18 b18 ho18 l17 O4x17 O7x17 O17x17 B17
    go_wp2_with fail
    refine (C2.out _ _ _ _ w18.heap.size w18.heap.size _ (OwnIn.ints O17x18.out (by omega)) (Nat.le_refl _) (OwnIn.ints O18x18.out (by omega)) (Nat.le_refl _)).mono ?_
    rintro e w19 ⟨L19, m19, c19, rfl, ho19, hb19⟩
    have b19 : Below w18.heap.size w18 w19 := by first | exact hb19 | (obtain ⟨mq, hq⟩ := hb19; rw [hq]; exact below_drewN (Below.refl _ _) _) | ((repeat (first | with_reducible exact Below.refl _ _ | with_reducible refine below_alloc ?_ _ | with_reducible refine below_drewN ?_ _ | with_reducible refine Below.drew ?_ | ((with_reducible refine below_set ?_ ?_ _); rotate_left; (focus (first | (simp; done) | (simp; omega) | omega))) | with_reducible refine below_call ?_ (by assumption))); done)
    have z19 : w18.heap.size ≤ w19.heap.size := b19.size
    have O19x19 : Hid (OwnIn w19 (w18.heap.size) w19.heap.size L19 m19 c19 G) := Lib.hid (by simpa using OwnIn.of ho19)
    have hm19 : m19 ≤ 1048576 := by have := ho19.len; have := HG.out; omega
    have l19 : w19.cell? ⟨w.heap.size, 0, none⟩ = some (.slice A n c) := cell_call b19 (p := ⟨w.heap.size, 0, none⟩) (by simp; omega) l18
    have O4x19 := Lib.hid (OwnIn.call O4x18.out b19 (by omega))
    have O7x19 := Lib.hid (OwnIn.call O7x18.out b19 (by omega))
    have O17x19 := Lib.hid (OwnIn.call O17x18.out b19 (by omega))
    have O18x19 := Lib.hid (OwnIn.call O18x18.out b19 (by omega))
    have B19 : Below w.heap.size w w19 := B18.trans (b19.mono (by omega))
    clear hb19 b19 ho19 l18 O4x18 O7x18 O17x18 O18x18 B18
    go_wp2_with fail
    refine (eqInt64S_same' _ (OwnIn.ints O19x19.out (by omega) (B := w19.heap.size)) (OwnIn.ints O4x19.out (by omega) (B := w19.heap.size)) (by omega) (by omega)).mono ?_
    rintro e w20 ⟨rfl, hb20⟩
    have b20 : Below w19.heap.size w19 w20 := by first | exact hb20 | (obtain ⟨mq, hq⟩ := hb20; rw [hq]; exact below_drewN (Below.refl _ _) _) | ((repeat (first | with_reducible exact Below.refl _ _ | with_reducible refine below_alloc ?_ _ | with_reducible refine below_drewN ?_ _ | with_reducible refine Below.drew ?_ | ((with_reducible refine below_set ?_ ?_ _); rotate_left; (focus (first | (simp; done) | (simp; omega) | omega))) | with_reducible refine below_call ?_ (by assumption))); done)
    have z20 : w19.heap.size ≤ w20.heap.size := b20.size
    have l20 : w20.cell? ⟨w.heap.size, 0, none⟩ = some (.slice A n c) := cell_call b20 (p := ⟨w.heap.size, 0, none⟩) (by simp; omega) l19
    have O4x20 := Lib.hid (OwnIn.call O4x19.out b20 (by omega))
    have O7x20 := Lib.hid (OwnIn.call O7x19.out b20 (by omega))
    have O17x20 := Lib.hid (OwnIn.call O17x19.out b20 (by omega))
    have O18x20 := Lib.hid (OwnIn.call O18x19.out b20 (by omega))
    have O19x20 := Lib.hid (OwnIn.call O19x19.out b20 (by omega))
    have B20 : Below w.heap.size w w20 := B19.trans (b20.mono (by omega))
    clear hb20 b20 l19 O4x19 O7x19 O17x19 O18x19 O19x19 B19
    go_wp2_with fail
    refine (heldInt64S_any _ _ _ w20.heap.size 1 _ (OwnIn.ints O7x20.out (by omega)) hm7 (by omega) (by omega)).mono ?_
    rintro e w' ⟨rfl, rfl⟩
    go_wp2
    go_ret
    exact ⟨rfl, B20⟩

set_option maxRecDepth 100000 in
theorem lifted (os : Os) (started : os.Started) (H : Type) (enc : TypeId × Value → H) :
    ReturnsInHanded {} Try.checked os 10 .any (Rows.fnExactWrongStrikesSpec.pre6 enc Try.prog Try.f10 Rows.fnExactWrongStrikesRow.domain false) (Rows.fnExactWrongStrikesSpec.post enc Try.prog Try.f10 false true false false) := by
  refine returnsInHanded_of_change (C := Try.checked) own started (by kernel_rfl) Try.func10
    (ChangeSpec.witness6 (enc := enc) (C := Try.checked) false ⟨#[], #[.agg #[.slice none 0 0], .int .i64 0, .slice none 0 0], []⟩ 8 (by kernel_rfl) (by kernel_rfl) (by kernel_rfl) (by kernel_rfl)) ?_
  intro W base args ds gs before hval0 hW hcnd _
  have hval : ∀ (j : Nat) t v, Try.f10.params[j]? = some t → args[j]? = some v → Value.okWide Try.prog W .any base t v := hval0
  have hW' := hW
  obtain ⟨p, q, hA0, hV, rfl, hfz, hnd⟩ := hW
  have hA : DataW.TrodAll enc Try.prog W 0 (fun _ => true) true Try.f10.params.toList args.toList ds p := hA0
  rw [Try.params10] at hA hval
  obtain ⟨v0, vs0, d0, ds0, p0, q0, hargs, rfl, rfl, h0, r0⟩ := trodAll_cons hA
  obtain ⟨v1, vs1, d1, ds1, p1, q1, rfl, rfl, rfl, h1, r1⟩ := trodAll_cons r0
  obtain ⟨v2, vs2, d2, ds2, p2, q2, rfl, rfl, rfl, h2, r2⟩ := trodAll_cons r1
  obtain ⟨rfl, rfl, rfl⟩ := trodAll_nil r2
  obtain rfl : args = #[v0, v1, v2] := by cases args; simp_all
  obtain ⟨rfl, rfl⟩ := trodVars_none hV
  have k0 := h0
  have lt0 : ∀ x ∈ p0, x.block < W.heap.size := by obtain ⟨m, hm⟩ := k0; exact DataW.trod_lt m _ _ _ hm
  have k1 := h1
  have lt1 : ∀ x ∈ p1, x.block < W.heap.size := by obtain ⟨m, hm⟩ := k1; exact DataW.trod_lt m _ _ _ hm
  have k2 := h2
  have lt2 : ∀ x ∈ p2, x.block < W.heap.size := by obtain ⟨m, hm⟩ := k2; exact DataW.trod_lt m _ _ _ hm
  obtain ⟨A0, l0, c0, z0, rfl, R0⟩ := open_CountWheel (hval 0 29 v0 rfl rfl) h0
  obtain ⟨a1, rfl, _, _, wa1⟩ := open_int Try.underlying2 (hval 1 2 v1 rfl rfl) h1
  obtain ⟨A2, l2, c2, z2, rfl, R2⟩ := open_Ints (hval 2 22 v2 rfl rfl) h2
  clear hA0 hval0
  refine (walk A0 l0 c0 z0 a1 A2 l2 c2 z2 W R0 wa1 R2).mono fun e W' ⟨he, bel⟩ => ?_
  subst he
  exact ⟨_, rfl, _, _, _, [], _, [], hW', trodAll_mk1 (shut_bool Try.underlying4 _), (trodAll_cons_mk (Below.trod laidOut (by kernel_rfl) (of_decide_eq_true (by kernel_rfl)) k0 bel lt0) (trodAll_cons_mk (Below.trod laidOut (by kernel_rfl) (of_decide_eq_true (by kernel_rfl)) k1 bel lt1) (trodAll_cons_mk (Below.trod laidOut (by kernel_rfl) (of_decide_eq_true (by kernel_rfl)) k2 bel lt2) trodAll_mk0))), rfl, bel.frame _, fun h => by cases h⟩
theorem over : Rows.fnExactWrongStrikesRow.holds Try.pinned (OpenSpec.ofChange Rows.fnExactWrongStrikesSpec) :=
  OpenClaim.holds_of_wide 10 Try.f10 rfl rfl rfl rfl rfl rfl rfl ⟨rfl, rfl, rfl, rfl, rfl⟩ rfl rfl rfl rfl rfl (by kernel_rfl) Try.func10 (by kernel_rfl)
    (of_decide_eq_true (by kernel_rfl)) (by unfold Func.isWrapper; first | (rw [if_pos (by decide +kernel)]; kernel_rfl) | (rw [if_neg (by decide +kernel)]; exact ⟨rfl, rfl⟩))
    (fun os started H enc _ => lifted os started H enc)
theorem proved : Rows.FnExactWrongStrikesSaid := over
#print axioms proved
end Go.Proofs.Ytfgilbkhhjhfmaa.fnExactWrongStrikes
