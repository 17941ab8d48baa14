/- The law FnExactSameCycle returns true: the program's SameCycle is the reference's, and it leaves its arguments as they were. No conditions. -/
import Derived.Test.YtfgilbkhhjhfmaaCycle
import Derived.Test.YtfgilbkhhjhfmaaOpenInts
namespace Go.Proofs.Ytfgilbkhhjhfmaa.fnExactSameCycle
open Go.ChangeShapes Go.WideShapes Go.ChangeAt Go.RowKit
set_option linter.unusedVariables false
set_option linter.unusedSimpArgs false
set_option maxHeartbeats 8000000 in
theorem walk (A : Option Addr) (n c : Nat) (zs : List Int) (A' : Option Addr) (n' c' : Nat) (ys : List Int) (w : World) (h : Came w A n c zs) (h' : Came w A' n' c' ys) :
    Calls Try.prog 11 #[.agg #[.slice A n c], .agg #[.slice A' n' c']] w fun e w' => e = .returned (.bool true) ∧ Below w.heap.size w w' := by
  obtain ⟨hI, hn, -⟩ := h
  obtain ⟨hJ, hm, -⟩ := h'
  have hz := fun w => szCountWheel_any A n c 1048576 w (by omega) (by omega) hn
  by_cases hle : (1048576 : Int) < n
  · simp only [if_pos hle] at hz
    have HZ := Lib.hid hz
    clear hz hI hJ
    go_enter Try.func11, Try.ntmps11
    go_wp2_with fail
    refine (HZ.out _).mono ?_
    rintro e w1 ⟨rfl, hb1⟩
    obtain ⟨hc1, hf1, hs1⟩ := bcell hb1
    (try (refine cut_ (p := w.heap.size < w1.heap.size) ?_ ?_; (focus (refine hs1 _ ?_; first | assumption | omega | (simp [go_sem]; done) | (simp [go_sem]; omega))); intro hl1a))
    (try (refine cut_ (p := w.heap.size + 1 < w1.heap.size) ?_ ?_; (focus (refine hs1 _ ?_; first | assumption | omega | (simp [go_sem]; done) | (simp [go_sem]; omega))); intro hl1b))
    (try (refine cut_ (p := w.heap.size + 1 + 1 < w1.heap.size) ?_ ?_; (focus (refine hs1 _ ?_; first | assumption | omega | (simp [go_sem]; done) | (simp [go_sem]; omega))); intro hl1c))
    go_wp2
    go_ret
    exact ⟨rfl, by (repeat (first | with_reducible exact Below.refl _ _ | with_reducible refine below_alloc ?_ _ | with_reducible refine below_drewN ?_ _ | with_reducible refine Below.drew ?_ | ((with_reducible refine below_set ?_ ?_ _); rotate_left; (focus (first | (simp; done) | (simp; omega) | omega))) | with_reducible refine below_call ?_ (by assumption)))⟩
  simp only [if_neg hle] at hz
  have hn1 : n ≤ 1048576 := by omega
  have hy := fun w => szCountWheel_any A' n' c' (1048576 - n) w (by omega) (by omega) hm
  by_cases hle2 : (1048576 : Int) - n < n'
  · simp only [if_pos hle2] at hy
    have HZ := Lib.hid hz
    have HY := Lib.hid hy
    clear hz hI hJ hy
    go_enter Try.func11, Try.ntmps11
    go_wp2_with fail
    refine (HZ.out _).mono ?_
    rintro e w1 ⟨rfl, hb1⟩
    obtain ⟨hc1, hf1, hs1⟩ := bcell hb1
    (try (refine cut_ (p := w.heap.size < w1.heap.size) ?_ ?_; (focus (refine hs1 _ ?_; first | assumption | omega | (simp [go_sem]; done) | (simp [go_sem]; omega))); intro hl1a))
    (try (refine cut_ (p := w.heap.size + 1 < w1.heap.size) ?_ ?_; (focus (refine hs1 _ ?_; first | assumption | omega | (simp [go_sem]; done) | (simp [go_sem]; omega))); intro hl1b))
    (try (refine cut_ (p := w.heap.size + 1 + 1 < w1.heap.size) ?_ ?_; (focus (refine hs1 _ ?_; first | assumption | omega | (simp [go_sem]; done) | (simp [go_sem]; omega))); intro hl1c))
    go_wp2_with fail
    refine (HY.out _).mono ?_
    rintro e w2 ⟨rfl, hb2⟩
    obtain ⟨hc2, hf2, hs2⟩ := bcell hb2
    (try (refine cut_ (p := w.heap.size < w2.heap.size) ?_ ?_; (focus (refine hs2 _ ?_; first | assumption | omega | (simp [go_sem]; done) | (simp [go_sem]; omega))); intro hl2a))
    (try (refine cut_ (p := w.heap.size + 1 < w2.heap.size) ?_ ?_; (focus (refine hs2 _ ?_; first | assumption | omega | (simp [go_sem]; done) | (simp [go_sem]; omega))); intro hl2b))
    (try (refine cut_ (p := w.heap.size + 1 + 1 < w2.heap.size) ?_ ?_; (focus (refine hs2 _ ?_; first | assumption | omega | (simp [go_sem]; done) | (simp [go_sem]; omega))); intro hl2c))
    go_wp2
    go_ret
    exact ⟨rfl, by (repeat (first | with_reducible exact Below.refl _ _ | with_reducible refine below_alloc ?_ _ | with_reducible refine below_drewN ?_ _ | with_reducible refine Below.drew ?_ | ((with_reducible refine below_set ?_ ?_ _); rotate_left; (focus (first | (simp; done) | (simp; omega) | omega))) | with_reducible refine below_call ?_ (by assumption)))⟩
  simp only [if_neg hle2] at hy
  have hm1 : n' ≤ 1048576 := by omega
  have c1 := fun (A A' : Option Addr) (B B' : Nat) (w : World) (h : Ints w B A n zs) (h' : Ints w B' A' n' ys) (hB : B ≤ w.heap.size) (hB' : B' ≤ w.heap.size) => specSameCycle_any A A' n n n' n' B B' zs ys w h h' hB hB' hn1 hm1 (Nat.le_refl _) hn
  have c2 := fun (A A' : Option Addr) (B B' : Nat) (w : World) (h : Ints w B A n zs) (h' : Ints w B' A' n' ys) (hB : B ≤ w.heap.size) (hB' : B' ≤ w.heap.size) => SameCycle_any A A' n n n' n' B B' zs ys w h h' hB hB' hn1 hm1 (Nat.le_refl _) hn
  generalize cycB zs ys n = V at *
  have C1 := Lib.hid c1
  have C2 := Lib.hid c2
  have HZ := Lib.hid hz
  have HY := Lib.hid hy
  have HI := Lib.hid hI
  have HJ := Lib.hid hJ
  clear hz hy hI hJ c1 c2
  go_enter Try.func11, Try.ntmps11
  go_wp2_with fail
  refine (HZ.out _).mono ?_
  rintro e w1 ⟨rfl, hb1⟩
  obtain ⟨hc1, hf1, hs1⟩ := bcell hb1
  (try (refine cut_ (p := w.heap.size < w1.heap.size) ?_ ?_; (focus (refine hs1 _ ?_; first | assumption | omega | (simp [go_sem]; done) | (simp [go_sem]; omega))); intro hl1a))
  (try (refine cut_ (p := w.heap.size + 1 < w1.heap.size) ?_ ?_; (focus (refine hs1 _ ?_; first | assumption | omega | (simp [go_sem]; done) | (simp [go_sem]; omega))); intro hl1b))
  (try (refine cut_ (p := w.heap.size + 1 + 1 < w1.heap.size) ?_ ?_; (focus (refine hs1 _ ?_; first | assumption | omega | (simp [go_sem]; done) | (simp [go_sem]; omega))); intro hl1c))
  go_wp2_with fail
  refine (HY.out _).mono ?_
  rintro e w2 ⟨rfl, hb2⟩
  obtain ⟨hc2, hf2, hs2⟩ := bcell hb2
  (try (refine cut_ (p := w.heap.size < w2.heap.size) ?_ ?_; (focus (refine hs2 _ ?_; first | assumption | omega | (simp [go_sem]; done) | (simp [go_sem]; omega))); intro hl2a))
  (try (refine cut_ (p := w.heap.size + 1 < w2.heap.size) ?_ ?_; (focus (refine hs2 _ ?_; first | assumption | omega | (simp [go_sem]; done) | (simp [go_sem]; omega))); intro hl2b))
  (try (refine cut_ (p := w.heap.size + 1 + 1 < w2.heap.size) ?_ ?_; (focus (refine hs2 _ ?_; first | assumption | omega | (simp [go_sem]; done) | (simp [go_sem]; omega))); intro hl2c))
  have B2 : Below w.heap.size w w2 := by (repeat (first | with_reducible exact Below.refl _ _ | with_reducible refine below_alloc ?_ _ | with_reducible refine below_drewN ?_ _ | with_reducible refine Below.drew ?_ | ((with_reducible refine below_set ?_ ?_ _); rotate_left; (focus (first | (simp; done) | (simp; omega) | omega))) | with_reducible refine below_call ?_ (by assumption)))
  have b2 : Below (w.heap.size + 1 + 1) ((w.alloc (.cells #[.slice A n c] 29)).alloc (.cells #[.slice A' n' c'] 29)) w2 := (show Below (w.heap.size + 1 + 1) _ w1 by simpa using hb1).trans (hb2.mono (by have := hb1.size; simpa using this))
  have z2 : w.heap.size + 1 + 1 ≤ w2.heap.size := by have := b2.size; simpa using this
  have WL2 := Lib.hid (((work1_new w 29 (.slice A n c)).alloc (.cells #[.slice A' n' c'] 29)).call (by simpa using b2))
  have WK2 : Hid (Work1 w2 (w.heap.size + 1) (.slice A' n' c')) := Lib.hid (by have := (work1_new (w.alloc (.cells #[.slice A n c] 29)) 29 (.slice A' n' c')).call (by simpa using b2); simpa using this)
  clear b2 hb1 hb2 hc1 hc2 hf1 hf2 hs1 hs2
  have l0 := WL2.out.1
  have k0 := WK2.out.1
  have ya : w.heap.size < w2.heap.size := by omega
  have yb : w.heap.size + 1 < w2.heap.size := by omega
  have yr := Below.refl w2.heap.size w2
  go_wp2
  go_region_held3 (fun w' => w'.cell? ⟨w.heap.size, 0, none⟩ = some (.slice A n c) ∧ w'.cell? ⟨w.heap.size + 1, 0, none⟩ = some (.slice A' n' c') ∧ w.heap.size < w'.heap.size ∧ w.heap.size + 1 < w'.heap.size ∧ Below w.heap.size w w' ∧ Below w2.heap.size w2 w')
    (first | ((try go_split_ands); (try dsimp only); refine ⟨?_, ?_, ?_, ?_, ?_, ?_⟩ <;> first | (exact cell_call (by assumption) (by assumption) (by assumption)) | (exact lt_call (by assumption) (by assumption)) | (exact below_call' (by assumption) (by assumption)) | (exact Below.drew (by assumption)) | (with_reducible assumption) | (simp; done) | (simp [*]; done) | ((repeat (first | with_reducible exact Below.refl _ _ | with_reducible refine below_alloc ?_ _ | with_reducible refine below_drewN ?_ _ | with_reducible refine Below.drew ?_ | ((with_reducible refine below_set ?_ ?_ _); rotate_left; (focus (first | (simp; done) | (simp; omega) | omega))) | with_reducible refine below_call ?_ (by assumption))); done) | omega))
    (first
      | (go_at_call 21; go_split_ands; refine (toCountWheel_any _ _ _ w.heap.size _ _ (by first | exact Ints.below HI.out (by assumption) | exact Ints.below HJ.out (by assumption)) (by exact Below.size (B := w.heap.size) (w := w) (by assumption)) (by first | exact hn1 | exact hm1)).mono ?_; rintro e w4 ⟨rfl, ho4, hb4⟩)
      | (go_at_call 39; go_split_ands; refine (C1.out _ _ _ _ _ (by first | exact Own.ints (by assumption) (Nat.le_refl _) | exact Own.ints (Own.call (by assumption) (by assumption)) (Nat.le_refl _)) (by first | exact Own.ints (by assumption) (Nat.le_refl _) | exact Own.ints (Own.call (by assumption) (by assumption)) (Nat.le_refl _)) (Nat.le_refl _) (Nat.le_refl _)).mono ?_; rintro e w3 ⟨rfl, hb3⟩))
  all_goals
    go_split_ands
    have b3 : Below w2.heap.size w2 w3 := by assumption
    have z3 := b3.size
    have WL3 := Lib.hid (WL2.out.call b3)
    have WK3 := Lib.hid (WK2.out.call b3)
    have B3 : Below w.heap.size w w3 := B2.trans (b3.mono (by omega))
    clear hb3 hb4 ho4 b3 l0 k0 WL2 WK2 yr
    obtain ⟨l0, lf⟩ := WL3.out
    go_wp2_with fail
    refine (toCountWheel_any _ _ _ w.heap.size zs _ (by exact Ints.below HI.out (by (repeat (first | with_reducible exact B3 | with_reducible refine below_alloc ?_ _ | with_reducible refine below_drewN ?_ _ | with_reducible refine Below.drew ?_ | ((with_reducible refine below_set ?_ ?_ _); rotate_left; (focus (first | (simp; done) | (simp; omega) | omega))))))) (by first | omega | (simp; omega)) hn1).mono ?_
    rintro e w7 ⟨rfl, ho7, hb7⟩
    have b7 : Below w3.heap.size w3 w7 := hb7
    have z7 : w3.heap.size ≤ w7.heap.size := b7.size
    have WL7 := Lib.hid (WL3.out.call b7)
    have WK7 := Lib.hid (WK3.out.call b7)
    have O7x7 : Hid (OwnIn w7 (w3.heap.size) w7.heap.size (some ⟨w3.heap.size + 1 + 1 + 1, 0, none⟩) n n zs) := Lib.hid (by simpa using OwnIn.of ho7)
    have B7 : Below w.heap.size w w7 := B3.trans (b7.mono (by omega))
    clear hb7 b7 B3 ho7 WL3 WK3 l0 lf
    obtain ⟨k0, kf⟩ := WK7.out
    have yK7 := WK7.out.lt
    go_wp2_with fail
    refine (toCountWheel_any _ _ _ w.heap.size ys _ (by exact Ints.below HJ.out (by (repeat (first | with_reducible exact B7 | with_reducible refine below_alloc ?_ _ | with_reducible refine below_drewN ?_ _ | with_reducible refine Below.drew ?_ | ((with_reducible refine below_set ?_ ?_ _); rotate_left; (focus (first | (simp; done) | (simp; omega) | omega))))))) (by first | omega | (simp; omega)) hm1).mono ?_
    rintro e w8 ⟨rfl, ho8, hb8⟩
    have b8 : Below w7.heap.size w7 w8 := ((Below.refl _ _).alloc (Nat.le_refl _) _).trans (hb8.mono (by simp))
    have z8 : w7.heap.size + 1 ≤ w8.heap.size := by have := hb8.size; simpa using this
    have WL8 := Lib.hid (WL7.out.call b8)
    have WK8 := Lib.hid (WK7.out.call b8)
    have WX8 : Hid (Work1 w8 w7.heap.size (.slice (some ⟨w3.heap.size + 1 + 1 + 1, 0, none⟩) n n)) := Lib.hid ((work1_new w7 _ (.slice (some ⟨w3.heap.size + 1 + 1 + 1, 0, none⟩) n n)).call hb8)
    have O7x8 := Lib.hid (OwnIn.call O7x7.out b8 (by omega))
    have O8x8 : Hid (OwnIn w8 (w7.heap.size + 1) w8.heap.size (some ⟨w7.heap.size + 1 + 1 + 1 + 1, 0, none⟩) n' n' ys) := Lib.hid (by simpa using OwnIn.of ho8)
    have B8 : Below w.heap.size w w8 := B7.trans (b8.mono (by omega))
    clear hb8 b8 B7 ho8 WL7 WK7 O7x7 k0 kf
    obtain ⟨x0, xf⟩ := WX8.out
    have yX8 := WX8.out.lt
    go_wp2_with fail
    refine (C2.out _ _ w8.heap.size w8.heap.size _ (by exact Ints.alloc (OwnIn.ints O7x8.out (by omega)) (Nat.le_refl _) _) (by exact Ints.alloc (OwnIn.ints O8x8.out (by omega)) (Nat.le_refl _) _) (by simp) (by simp)).mono ?_
    rintro e w9 ⟨rfl, hb9⟩
    have b9 : Below w8.heap.size w8 w9 := ((Below.refl _ _).alloc (Nat.le_refl _) _).trans (hb9.mono (by simp))
    have z9 : w8.heap.size + 1 ≤ w9.heap.size := by have := hb9.size; simpa using this
    have WL9 := Lib.hid (WL8.out.call b9)
    have WK9 := Lib.hid (WK8.out.call b9)
    have WX9 := Lib.hid (WX8.out.call b9)
    have WY9 : Hid (Work1 w9 w8.heap.size (.slice (some ⟨w7.heap.size + 1 + 1 + 1 + 1, 0, none⟩) n' n')) := Lib.hid ((work1_new w8 _ (.slice (some ⟨w7.heap.size + 1 + 1 + 1 + 1, 0, none⟩) n' n')).call hb9)
    have O7x9 := Lib.hid (OwnIn.call O7x8.out b9 (by omega))
    have O8x9 := Lib.hid (OwnIn.call O8x8.out b9 (by omega))
    have B9 : Below w.heap.size w w9 := B8.trans (b9.mono (by omega))
    clear hb9 b9 B8  WL8 WK8 WX8 O7x8 O8x8 x0 xf
    obtain ⟨l0, lf⟩ := WL9.out
    obtain ⟨x0, xf⟩ := WX9.out
    have yl : w.heap.size < w9.heap.size := by omega
    have yx : w7.heap.size < w9.heap.size := by omega
    have yr := Below.refl w9.heap.size w9
    go_wp2
    go_region_held3 (fun w' => w'.cell? ⟨w.heap.size, 0, none⟩ = some (.slice A n c) ∧ w'.cell? ⟨w7.heap.size, 0, none⟩ = some (.slice (some ⟨w3.heap.size + 1 + 1 + 1, 0, none⟩) n n) ∧ w.heap.size < w'.heap.size ∧ w7.heap.size < w'.heap.size ∧ Below w.heap.size w w' ∧ Below w9.heap.size w9 w')
      (first | ((try go_split_ands); (try dsimp only); refine ⟨?_, ?_, ?_, ?_, ?_, ?_⟩ <;> first | (exact cell_call (by assumption) (by assumption) (by assumption)) | (exact lt_call (by assumption) (by assumption)) | (exact below_call' (by assumption) (by assumption)) | (exact Below.drew (by assumption)) | (with_reducible assumption) | (simp; done) | (simp [*]; done) | ((repeat (first | with_reducible exact Below.refl _ _ | with_reducible refine below_alloc ?_ _ | with_reducible refine below_drewN ?_ _ | with_reducible refine Below.drew ?_ | ((with_reducible refine below_set ?_ ?_ _); rotate_left; (focus (first | (simp; done) | (simp; omega) | omega))) | with_reducible refine below_call ?_ (by assumption))); done) | omega))
      (first
        | (go_at_call 21; go_split_ands; refine (toCountWheel_any _ _ _ w.heap.size zs _ (by exact Ints.below HI.out (by assumption)) (by exact Below.size (B := w.heap.size) (w := w) (by assumption)) hn1).mono ?_; rintro e w10 ⟨rfl, ho10, hb10⟩; have Oc10 := Lib.hid ho10; clear ho10)
        | (go_at_call 16; go_split_ands; refine (eqCountWheel_same _ _ _ _ _ _ _ _ zs _ (by exact OwnIn.ints (OwnIn.call O7x9.out (by assumption) (by omega)) (Nat.le_refl _)) (by exact Own.ints Oc10.out (Nat.le_refl _)) (by have := Below.size (B := w9.heap.size) (w := w9) (by assumption); omega) (Nat.le_refl _) hn hn).mono ?_; rintro e w11 ⟨rfl, hb11⟩))
    go_split_ands
    have b11 : Below w9.heap.size w9 w11 := by assumption
    have z11 : w9.heap.size ≤ w11.heap.size := b11.size
    have WL11 := Lib.hid (WL9.out.call b11)
    have WK11 := Lib.hid (WK9.out.call b11)
    have WX11 := Lib.hid (WX9.out.call b11)
    have WY11 := Lib.hid (WY9.out.call b11)
    have O7x11 := Lib.hid (OwnIn.call O7x9.out b11 (by omega))
    have O8x11 := Lib.hid (OwnIn.call O8x9.out b11 (by omega))
    have B11 : Below w.heap.size w w11 := B9.trans (b11.mono (by omega))
    clear hb10 hb11 Oc10 yr b11 B9 yl yx l0 lf x0 xf WL9 WK9 WX9 WY9 O7x9 O8x9
    clear WL11
    clear WX11
    clear O7x11
    obtain ⟨k0, kf⟩ := WK11.out
    obtain ⟨y0, yf⟩ := WY11.out
    have yl : w.heap.size + 1 < w11.heap.size := by omega
    have yx : w8.heap.size < w11.heap.size := by omega
    have yr := Below.refl w11.heap.size w11
    go_wp2
    go_region_held3 (fun w' => w'.cell? ⟨w.heap.size + 1, 0, none⟩ = some (.slice A' n' c') ∧ w'.cell? ⟨w8.heap.size, 0, none⟩ = some (.slice (some ⟨w7.heap.size + 1 + 1 + 1 + 1, 0, none⟩) n' n') ∧ w.heap.size + 1 < w'.heap.size ∧ w8.heap.size < w'.heap.size ∧ Below w.heap.size w w' ∧ Below w11.heap.size w11 w')
      (first | ((try go_split_ands); (try dsimp only); refine ⟨?_, ?_, ?_, ?_, ?_, ?_⟩ <;> first | (exact cell_call (by assumption) (by assumption) (by assumption)) | (exact lt_call (by assumption) (by assumption)) | (exact below_call' (by assumption) (by assumption)) | (exact Below.drew (by assumption)) | (with_reducible assumption) | (simp; done) | (simp [*]; done) | ((repeat (first | with_reducible exact Below.refl _ _ | with_reducible refine below_alloc ?_ _ | with_reducible refine below_drewN ?_ _ | with_reducible refine Below.drew ?_ | ((with_reducible refine below_set ?_ ?_ _); rotate_left; (focus (first | (simp; done) | (simp; omega) | omega))) | with_reducible refine below_call ?_ (by assumption))); done) | omega))
      (first
        | (go_at_call 21; go_split_ands; refine (toCountWheel_any _ _ _ w.heap.size ys _ (by exact Ints.below HJ.out (by assumption)) (by exact Below.size (B := w.heap.size) (w := w) (by assumption)) hm1).mono ?_; rintro e w12 ⟨rfl, ho12, hb12⟩; have Oc12 := Lib.hid ho12; clear ho12)
        | (go_at_call 16; go_split_ands; refine (eqCountWheel_same _ _ _ _ _ _ _ _ ys _ (by exact OwnIn.ints (OwnIn.call O8x11.out (by assumption) (by omega)) (Nat.le_refl _)) (by exact Own.ints Oc12.out (Nat.le_refl _)) (by have := Below.size (B := w11.heap.size) (w := w11) (by assumption); omega) (Nat.le_refl _) hm hm).mono ?_; rintro e w13 ⟨rfl, hb13⟩))
    go_split_ands
    have b13 : Below w11.heap.size w11 w13 := by assumption
    have z13 : w11.heap.size ≤ w13.heap.size := b13.size
    have WK13 := Lib.hid (WK11.out.call b13)
    have WY13 := Lib.hid (WY11.out.call b13)
    have O8x13 := Lib.hid (OwnIn.call O8x11.out b13 (by omega))
    have B13 : Below w.heap.size w w13 := B11.trans (b13.mono (by omega))
    clear hb12 hb13 Oc12 yr b13 B11 yl yx k0 kf y0 yf WK11 WY11 O8x11
    go_wp2
    go_ret
    exact ⟨rfl, B13⟩

set_option maxRecDepth 100000 in
theorem lifted (os : Os) (started : os.Started) (H : Type) (enc : TypeId × Value → H) :
    ReturnsInHanded {} Try.checked os 11 .any (Rows.fnExactSameCycleSpec.pre6 enc Try.prog Try.f11 Rows.fnExactSameCycleRow.domain false) (Rows.fnExactSameCycleSpec.post enc Try.prog Try.f11 false true false false) := by
  refine returnsInHanded_of_change (C := Try.checked) own started (by kernel_rfl) Try.func11
    (ChangeSpec.witness6 (enc := enc) (C := Try.checked) false ⟨#[], #[.agg #[.slice none 0 0], .agg #[.slice none 0 0]], []⟩ 8 (by kernel_rfl) (by kernel_rfl) (by kernel_rfl) (by kernel_rfl)) ?_
  intro W base args ds gs before hval0 hW hcnd _
  have hval : ∀ (j : Nat) t v, Try.f11.params[j]? = some t → args[j]? = some v → Value.okWide Try.prog W .any base t v := hval0
  have hW' := hW
  obtain ⟨p, q, hA0, hV, rfl, hfz, hnd⟩ := hW
  have hA : DataW.TrodAll enc Try.prog W 0 (fun _ => true) true Try.f11.params.toList args.toList ds p := hA0
  rw [Try.params11] at hA hval
  obtain ⟨v0, vs0, d0, ds0, p0, q0, hargs, rfl, rfl, h0, r0⟩ := trodAll_cons hA
  obtain ⟨v1, vs1, d1, ds1, p1, q1, rfl, rfl, rfl, h1, r1⟩ := trodAll_cons r0
  obtain ⟨rfl, rfl, rfl⟩ := trodAll_nil r1
  obtain rfl : args = #[v0, v1] := by cases args; simp_all
  obtain ⟨rfl, rfl⟩ := trodVars_none hV
  have k0 := h0
  have lt0 : ∀ x ∈ p0, x.block < W.heap.size := by obtain ⟨m, hm⟩ := k0; exact DataW.trod_lt m _ _ _ hm
  have k1 := h1
  have lt1 : ∀ x ∈ p1, x.block < W.heap.size := by obtain ⟨m, hm⟩ := k1; exact DataW.trod_lt m _ _ _ hm
  obtain ⟨A0, l0, c0, z0, rfl, R0⟩ := open_CountWheel (hval 0 29 v0 rfl rfl) h0
  obtain ⟨A1, l1, c1, z1, rfl, R1⟩ := open_CountWheel (hval 1 29 v1 rfl rfl) h1
  clear hA0 hval0
  refine (walk A0 l0 c0 z0 A1 l1 c1 z1 W R0 R1).mono fun e W' ⟨he, bel⟩ => ?_
  subst he
  exact ⟨_, rfl, _, _, _, [], _, [], hW', trodAll_mk1 (shut_bool Try.underlying4 _), (trodAll_cons_mk (Below.trod laidOut (by kernel_rfl) (of_decide_eq_true (by kernel_rfl)) k0 bel lt0) (trodAll_cons_mk (Below.trod laidOut (by kernel_rfl) (of_decide_eq_true (by kernel_rfl)) k1 bel lt1) trodAll_mk0)), rfl, bel.frame _, fun h => by cases h⟩
theorem over : Rows.fnExactSameCycleRow.holds Try.pinned (OpenSpec.ofChange Rows.fnExactSameCycleSpec) :=
  OpenClaim.holds_of_wide 11 Try.f11 rfl rfl rfl rfl rfl rfl rfl ⟨rfl, rfl, rfl, rfl, rfl⟩ rfl rfl rfl rfl rfl (by kernel_rfl) Try.func11 (by kernel_rfl)
    (of_decide_eq_true (by kernel_rfl)) (by unfold Func.isWrapper; first | (rw [if_pos (by decide +kernel)]; kernel_rfl) | (rw [if_neg (by decide +kernel)]; exact ⟨rfl, rfl⟩))
    (fun os started H enc _ => lifted os started H enc)
theorem proved : Rows.FnExactSameCycleSaid := over
#print axioms proved
end Go.Proofs.Ytfgilbkhhjhfmaa.fnExactSameCycle
