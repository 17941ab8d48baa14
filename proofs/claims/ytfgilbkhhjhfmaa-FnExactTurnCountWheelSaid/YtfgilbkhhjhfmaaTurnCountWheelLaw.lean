/- The law FnExactTurnCountWheel returns true: the program's TurnCountWheel is the reference's, its result is a new wheel, and it leaves its argument as it was. No conditions. -/
import Derived.Test.YtfgilbkhhjhfmaaTurn2
import Derived.Test.YtfgilbkhhjhfmaaWork1
import Derived.Test.YtfgilbkhhjhfmaaOpenInts
namespace Go.Proofs.Ytfgilbkhhjhfmaa.fnExactTurnCountWheel
open Go.ChangeShapes Go.WideShapes Go.ChangeAt Go.RowKit
set_option linter.unusedVariables false
set_option linter.unusedSimpArgs false
set_option maxHeartbeats 8000000 in
theorem walk (A : Option Addr) (n c : Nat) (zs : List Int) (x : Int) (w : World) (h : Came w A n c zs) (wx : (Lit.int .i64 x).wf = true) :
    Calls Try.prog 13 #[.agg #[.slice A n c], .int .i64 x] w fun e w' => e = .returned (.bool true) ∧ Below w.heap.size w w' := by
  obtain ⟨hI, hn, -⟩ := h
  have hz := fun w => szCountWheel_any A n c 1048576 w (by omega) (by omega) hn
  by_cases hle : (1048576 : Int) < n
  · simp only [if_pos hle] at hz
    have HZ := Lib.hid hz
    clear hz hI
    go_enter Try.func13, Try.ntmps13
    go_wp2_with fail
    refine (HZ.out _).mono ?_
    rintro e w1 ⟨rfl, hb1⟩
    obtain ⟨hc1, hf1, hs1⟩ := bcell hb1
    (try (refine cut_ (p := w.heap.size < w1.heap.size) ?_ ?_; (focus (refine hs1 _ ?_; first | assumption | omega | (simp [go_sem]; done) | (simp [go_sem]; omega))); intro hl1a))
    (try (refine cut_ (p := w.heap.size + 1 < w1.heap.size) ?_ ?_; (focus (refine hs1 _ ?_; first | assumption | omega | (simp [go_sem]; done) | (simp [go_sem]; omega))); intro hl1b))
    (try (refine cut_ (p := w.heap.size + 1 + 1 < w1.heap.size) ?_ ?_; (focus (refine hs1 _ ?_; first | assumption | omega | (simp [go_sem]; done) | (simp [go_sem]; omega))); intro hl1c))
    go_wp2
    go_ret
    exact ⟨rfl, by (repeat (first | with_reducible exact Below.refl _ _ | with_reducible refine below_alloc ?_ _ | with_reducible refine below_drewN ?_ _ | with_reducible refine Below.drew ?_ | ((with_reducible refine below_set ?_ ?_ _); rotate_left; (focus (first | (simp; done) | (simp; omega) | omega))) | with_reducible refine below_call ?_ (by assumption)))⟩
  · simp only [if_neg hle] at hz
    have hn' : n ≤ 1048576 := by omega
    have hlen := rTurn_len zs n x hn'
    have c1 := fun (A : Option Addr) (c B : Nat) (w : World) (h : Ints w B A n zs) (hB : B ≤ w.heap.size) => specTurnCountWheel_any A n c B zs x w h hB hn'
    have c2 := fun (A : Option Addr) (B : Nat) (w : World) (h : Ints w B A n zs) (hB : B ≤ w.heap.size) => TurnCountWheel_any A n n B zs x w h hB hn' (Nat.le_refl _) hn
    generalize rTurn zs n x = R at *
    obtain ⟨m, G, cd⟩ := R
    have hm : m ≤ 1048576 := hlen
    have C1 := Lib.hid c1
    have C2 := Lib.hid c2
    have HZ := Lib.hid hz
    have HI := Lib.hid hI
    clear hz hI c1 c2 hlen
    go_enter Try.func13, Try.ntmps13
    go_wp2_with fail
    refine (HZ.out _).mono ?_
    rintro e w1 ⟨rfl, hb1⟩
    have B1 : Below w.heap.size w w1 := ((Below.refl _ _).alloc (Nat.le_refl _) _).trans (hb1.mono (by simp))
    have z1 : w.heap.size + 1 ≤ w1.heap.size := by have := hb1.size; simpa using this
    have WL1 := Lib.hid ((work1_new w 29 (.slice A n c)).call hb1)
    clear hb1
    obtain ⟨l0, lf⟩ := WL1.out
    go_wp2_with fail
    refine (toCountWheel_any A n c w.heap.size zs _ (by exact Ints.below HI.out (by (repeat (first | with_reducible exact B1 | with_reducible refine below_alloc ?_ _ | with_reducible refine below_drewN ?_ _ | with_reducible refine Below.drew ?_ | ((with_reducible refine below_set ?_ ?_ _); rotate_left; (focus (first | (simp; done) | (simp; omega) | omega))))))) (by first | omega | (simp; omega)) hn').mono ?_
    rintro e w2 ⟨rfl, ho2, hb2⟩
    have b2 : Below w1.heap.size w1 w2 := hb2
    have z2 : w1.heap.size ≤ w2.heap.size := b2.size
    have WL2 := Lib.hid (WL1.out.call b2)
    have O2x2 : Hid (OwnIn w2 (w1.heap.size) w2.heap.size (some ⟨w1.heap.size + 1 + 1 + 1, 0, none⟩) n n zs) := Lib.hid (by simpa using OwnIn.of ho2)
    have B2 : Below w.heap.size w w2 := B1.trans (b2.mono (by omega))
    clear hb2 b2 B1 ho2 WL1 l0 lf
    go_wp2_with fail
    refine (C1.out _ _ w2.heap.size _ (OwnIn.ints O2x2.out (by omega)) (Nat.le_refl _)).mono ?_
    rintro e w3 ⟨S3, c3, rfl, ho3, hb3⟩
    have b3 : Below w2.heap.size w2 w3 := hb3
    have z3 : w2.heap.size ≤ w3.heap.size := b3.size
    have WL3 := Lib.hid (WL2.out.call b3)
    have O2x3 := Lib.hid (OwnIn.call O2x2.out b3 (by omega))
    have O3x3 : Hid (OwnIn w3 (w2.heap.size) w3.heap.size S3 m c3 G) := Lib.hid (by simpa using OwnIn.of ho3)
    have B3 : Below w.heap.size w w3 := B2.trans (b3.mono (by omega))
    clear hb3 b3 B2 ho3 WL2 O2x2 
    clear O2x3
    obtain ⟨l0, lf⟩ := WL3.out
    have yL3 := WL3.out.lt
    go_wp2_with fail
    refine (toCountWheel_any A n c w.heap.size zs _ (by exact Ints.below HI.out (by (repeat (first | with_reducible exact B3 | with_reducible refine below_alloc ?_ _ | with_reducible refine below_drewN ?_ _ | with_reducible refine Below.drew ?_ | ((with_reducible refine below_set ?_ ?_ _); rotate_left; (focus (first | (simp; done) | (simp; omega) | omega))))))) (by first | omega | (simp; omega)) hn').mono ?_
    rintro e w4 ⟨rfl, ho4, hb4⟩
    have b4 : Below w3.heap.size w3 w4 := ((Below.refl _ _).alloc (Nat.le_refl _) _).trans (hb4.mono (by simp))
    have z4 : w3.heap.size + 1 ≤ w4.heap.size := by have := hb4.size; simpa using this
    have WL4 := Lib.hid (WL3.out.call b4)
    have WM4 : Hid (Work1 w4 w3.heap.size (.slice S3 m c3)) := Lib.hid ((work1_new w3 _ (.slice S3 m c3)).call hb4)
    have O3x4 := Lib.hid (OwnIn.call O3x3.out b4 (by omega))
    have O4x4 : Hid (OwnIn w4 (w3.heap.size + 1) w4.heap.size (some ⟨w3.heap.size + 1 + 1 + 1 + 1, 0, none⟩) n n zs) := Lib.hid (by simpa using OwnIn.of ho4)
    have B4 : Below w.heap.size w w4 := B3.trans (b4.mono (by omega))
    clear hb4 b4 B3 ho4 WL3 O3x3 l0 lf
    go_wp2_with fail
    refine (C2.out _ w4.heap.size _ (Ints.alloc (OwnIn.ints O4x4.out (by omega)) (Nat.le_refl _) _) (by simp)).mono ?_
    rintro e w5 ⟨S5, c5, rfl, ho5, hb5⟩
    have b5 : Below w4.heap.size w4 w5 := ((Below.refl _ _).alloc (Nat.le_refl _) _).trans (hb5.mono (by simp))
    have z5 : w4.heap.size + 1 ≤ w5.heap.size := by have := hb5.size; simpa using this
    have WL5 := Lib.hid (WL4.out.call b5)
    have WM5 := Lib.hid (WM4.out.call b5)
    have WX5 : Hid (Work1 w5 w4.heap.size (.slice (some ⟨w3.heap.size + 1 + 1 + 1 + 1, 0, none⟩) n n)) := Lib.hid ((work1_new w4 _ (.slice (some ⟨w3.heap.size + 1 + 1 + 1 + 1, 0, none⟩) n n)).call hb5)
    have O3x5 := Lib.hid (OwnIn.call O3x4.out b5 (by omega))
    have O4x5 := Lib.hid (OwnIn.call O4x4.out b5 (by omega))
    have O5x5 : Hid (OwnIn w5 (w4.heap.size + 1) w5.heap.size S5 m c5 G) := Lib.hid (by simpa using OwnIn.of ho5)
    have B5 : Below w.heap.size w w5 := B4.trans (b5.mono (by omega))
    clear hb5 b5 B4 ho5 WL4 WM4 O3x4 O4x4 
    obtain ⟨m0, mf⟩ := WM5.out
    have yM5 := WM5.out.lt
    go_wp2_with fail
    refine (eqCountWheel_same _ _ _ _ _ _ w5.heap.size w5.heap.size G _ (by first | exact OwnIn.ints O5x5.out (by omega) | exact Ints.alloc (OwnIn.ints O5x5.out (by omega)) (Nat.le_refl _) _) (by first | exact OwnIn.ints O3x5.out (by omega) | exact Ints.alloc (OwnIn.ints O3x5.out (by omega)) (Nat.le_refl _) _) (by first | exact Nat.le_refl _ | (simp; done)) (by first | exact Nat.le_refl _ | (simp; done)) (by omega) (by omega)).mono ?_
    rintro e w6 ⟨rfl, hb6⟩
    have b6 : Below w5.heap.size w5 w6 := ((Below.refl _ _).alloc (Nat.le_refl _) _).trans (hb6.mono (by simp))
    have z6 : w5.heap.size + 1 ≤ w6.heap.size := by have := hb6.size; simpa using this
    have WL6 := Lib.hid (WL5.out.call b6)
    have WM6 := Lib.hid (WM5.out.call b6)
    have WX6 := Lib.hid (WX5.out.call b6)
    have WN6 : Hid (Work1 w6 w5.heap.size (.slice S5 m c5)) := Lib.hid ((work1_new w5 _ (.slice S5 m c5)).call hb6)
    have O3x6 := Lib.hid (OwnIn.call O3x5.out b6 (by omega))
    have O4x6 := Lib.hid (OwnIn.call O4x5.out b6 (by omega))
    have O5x6 := Lib.hid (OwnIn.call O5x5.out b6 (by omega))
    have B6 : Below w.heap.size w w6 := B5.trans (b6.mono (by omega))
    clear hb6 b6 B5  WL5 WM5 WX5 O3x5 O4x5 O5x5 m0 mf
    obtain ⟨l0, lf⟩ := WL6.out
    obtain ⟨x0, xf⟩ := WX6.out
    have yl : w.heap.size < w6.heap.size := by omega
    have yx : w4.heap.size < w6.heap.size := by omega
    have yr := Below.refl w6.heap.size w6
    go_wp2
    go_region_held3 (fun w' => w'.cell? ⟨w.heap.size, 0, none⟩ = some (.slice A n c) ∧ w'.cell? ⟨w4.heap.size, 0, none⟩ = some (.slice (some ⟨w3.heap.size + 1 + 1 + 1 + 1, 0, none⟩) n n) ∧ w.heap.size < w'.heap.size ∧ w4.heap.size < w'.heap.size ∧ Below w.heap.size w w' ∧ Below w6.heap.size w6 w')
      (first | ((try go_split_ands); (try dsimp only); refine ⟨?_, ?_, ?_, ?_, ?_, ?_⟩ <;> first | (exact cell_call (by assumption) (by assumption) (by assumption)) | (exact lt_call (by assumption) (by assumption)) | (exact below_call' (by assumption) (by assumption)) | (exact Below.drew (by assumption)) | (with_reducible assumption) | (simp; done) | (simp [*]; done) | ((repeat (first | with_reducible exact Below.refl _ _ | with_reducible refine below_alloc ?_ _ | with_reducible refine below_drewN ?_ _ | with_reducible refine Below.drew ?_ | ((with_reducible refine below_set ?_ ?_ _); rotate_left; (focus (first | (simp; done) | (simp; omega) | omega))) | with_reducible refine below_call ?_ (by assumption))); done) | omega))
      (first
        | (go_at_call 21; go_split_ands; refine (toCountWheel_any _ _ _ w.heap.size zs _ (by exact Ints.below HI.out (by assumption)) (by exact Below.size (B := w.heap.size) (w := w) (by assumption)) hn').mono ?_; rintro e w7 ⟨rfl, ho7, hb7⟩; have Oc7 := Lib.hid ho7; clear ho7)
        | (go_at_call 16; go_split_ands; refine (eqCountWheel_same _ _ _ _ _ _ _ _ zs _ (by exact OwnIn.ints (OwnIn.call O4x6.out (by assumption) (by omega)) (Nat.le_refl _)) (by exact Own.ints Oc7.out (Nat.le_refl _)) (by have := Below.size (B := w6.heap.size) (w := w6) (by assumption); omega) (Nat.le_refl _) hn hn).mono ?_; rintro e w8 ⟨rfl, hb8⟩))
    go_split_ands
    have b8 : Below w6.heap.size w6 w8 := by assumption
    have z8 : w6.heap.size ≤ w8.heap.size := b8.size
    have WL8 := Lib.hid (WL6.out.call b8)
    have WM8 := Lib.hid (WM6.out.call b8)
    have WX8 := Lib.hid (WX6.out.call b8)
    have WN8 := Lib.hid (WN6.out.call b8)
    have O3x8 := Lib.hid (OwnIn.call O3x6.out b8 (by omega))
    have O4x8 := Lib.hid (OwnIn.call O4x6.out b8 (by omega))
    have O5x8 := Lib.hid (OwnIn.call O5x6.out b8 (by omega))
    have B8 : Below w.heap.size w w8 := B6.trans (b8.mono (by omega))
    clear hb7 hb8 Oc7 yr b8 B6 yl yx l0 lf x0 xf WL6 WM6 WX6 WN6 O3x6 O4x6 O5x6
    obtain ⟨x0, xf⟩ := WX8.out
    go_wp2_with fail
    refine (markCountWheel_any _ _ _ _ _ zs 1 _ O4x8.out (by omega) hn' (by omega) (by omega)).mono ?_
    rintro e w9 ⟨rfl, ho9, hg9⟩
    have z9 : w8.heap.size ≤ w9.heap.size := hg9.size
    have hgk9 := O4x8.out.blk
    have WL9 := Lib.hid (Work1.keep WL8.out (hg9.block _ WL8.out.lt (by intro e; have := hgk9 _ e.symm; omega)))
    have WM9 := Lib.hid (Work1.keep WM8.out (hg9.block _ WM8.out.lt (by intro e; have := hgk9 _ e.symm; omega)))
    have WX9 := Lib.hid (Work1.keep WX8.out (hg9.block _ WX8.out.lt (by intro e; have := hgk9 _ e.symm; omega)))
    have WN9 := Lib.hid (Work1.keep WN8.out (hg9.block _ WN8.out.lt (by intro e; have := hgk9 _ e.symm; omega)))
    have O3x9 := Lib.hid (OwnIn.grown O3x8.out hg9 (fun g hg => by have := hgk9 g hg; omega) (by omega))
    have O4x9 := Lib.hid ho9
    have O5x9 := Lib.hid (OwnIn.grown O5x8.out hg9 (fun g hg => by have := hgk9 g hg; omega) (by omega))
    have B9 : Below w.heap.size w w9 := OwnIn.below O4x8.out B8 hg9 (by omega)
    clear ho9 hg9 hgk9 B8 WL8 WM8 WX8 WN8 O3x8 O4x8 O5x8 x0 xf
    clear O4x9
    clear WX9
    obtain ⟨n0, nf⟩ := WN9.out
    obtain ⟨m0, mf⟩ := WM9.out
    go_wp2_with fail
    refine (eqCountWheel_same _ _ _ _ _ _ w9.heap.size w9.heap.size G _ (by first | exact OwnIn.ints O5x9.out (by omega) | exact Ints.alloc (OwnIn.ints O5x9.out (by omega)) (Nat.le_refl _) _) (by first | exact OwnIn.ints O3x9.out (by omega) | exact Ints.alloc (OwnIn.ints O3x9.out (by omega)) (Nat.le_refl _) _) (by first | exact Nat.le_refl _ | (simp; done)) (by first | exact Nat.le_refl _ | (simp; done)) (by omega) (by omega)).mono ?_
    rintro e w10 ⟨rfl, hb10⟩
    have b10 : Below w9.heap.size w9 w10 := hb10
    have z10 : w9.heap.size ≤ w10.heap.size := b10.size
    have WL10 := Lib.hid (WL9.out.call b10)
    have WM10 := Lib.hid (WM9.out.call b10)
    have WN10 := Lib.hid (WN9.out.call b10)
    have O3x10 := Lib.hid (OwnIn.call O3x9.out b10 (by omega))
    have O5x10 := Lib.hid (OwnIn.call O5x9.out b10 (by omega))
    have B10 : Below w.heap.size w w10 := B9.trans (b10.mono (by omega))
    clear hb10 b10 B9  WL9 WM9 WN9 O3x9 O5x9 n0 nf m0 mf
    obtain ⟨n0, nf⟩ := WN10.out
    go_wp2_with fail
    refine (markCountWheel_any _ _ _ _ _ G 1 _ O5x10.out (by omega) hm (by omega) (by omega)).mono ?_
    rintro e w11 ⟨rfl, ho11, hg11⟩
    have z11 : w10.heap.size ≤ w11.heap.size := hg11.size
    have hgk11 := O5x10.out.blk
    have WL11 := Lib.hid (Work1.keep WL10.out (hg11.block _ WL10.out.lt (by intro e; have := hgk11 _ e.symm; omega)))
    have WM11 := Lib.hid (Work1.keep WM10.out (hg11.block _ WM10.out.lt (by intro e; have := hgk11 _ e.symm; omega)))
    have WN11 := Lib.hid (Work1.keep WN10.out (hg11.block _ WN10.out.lt (by intro e; have := hgk11 _ e.symm; omega)))
    have O3x11 := Lib.hid (OwnIn.grown O3x10.out hg11 (fun g hg => by have := hgk11 g hg; omega) (by omega))
    have O5x11 := Lib.hid ho11
    have B11 : Below w.heap.size w w11 := OwnIn.below O5x10.out B10 hg11 (by omega)
    clear ho11 hg11 hgk11 B10 WL10 WM10 WN10 O3x10 O5x10 n0 nf
    obtain ⟨n0, nf⟩ := WN11.out
    go_wp2_with fail
    refine (heldCountWheel_any _ _ _ w11.heap.size 1 _ (OwnIn.ints O5x11.out (by omega)) (Nat.le_refl _) hm (by omega) (by omega)).mono ?_
    rintro e w12 ⟨rfl, hb12⟩
    have b12 : Below w11.heap.size w11 w12 := hb12
    have z12 : w11.heap.size ≤ w12.heap.size := b12.size
    have WL12 := Lib.hid (WL11.out.call b12)
    have WM12 := Lib.hid (WM11.out.call b12)
    have WN12 := Lib.hid (WN11.out.call b12)
    have O3x12 := Lib.hid (OwnIn.call O3x11.out b12 (by omega))
    have O5x12 := Lib.hid (OwnIn.call O5x11.out b12 (by omega))
    have B12 : Below w.heap.size w w12 := B11.trans (b12.mono (by omega))
    clear hb12 b12 B11  WL11 WM11 WN11 O3x11 O5x11 n0 nf
    obtain ⟨l0, lf⟩ := WL12.out
    go_wp2_with fail
    refine (toCountWheel_any A n c w.heap.size zs _ (by exact Ints.below HI.out (by (repeat (first | with_reducible exact B12 | with_reducible refine below_alloc ?_ _ | with_reducible refine below_drewN ?_ _ | with_reducible refine Below.drew ?_ | ((with_reducible refine below_set ?_ ?_ _); rotate_left; (focus (first | (simp; done) | (simp; omega) | omega))))))) (by first | omega | (simp; omega)) hn').mono ?_
    rintro e w13 ⟨rfl, ho13, hb13⟩
    have b13 : Below w12.heap.size w12 w13 := hb13
    have z13 : w12.heap.size ≤ w13.heap.size := b13.size
    have WL13 := Lib.hid (WL12.out.call b13)
    have WM13 := Lib.hid (WM12.out.call b13)
    have WN13 := Lib.hid (WN12.out.call b13)
    have O3x13 := Lib.hid (OwnIn.call O3x12.out b13 (by omega))
    have O5x13 := Lib.hid (OwnIn.call O5x12.out b13 (by omega))
    have O13x13 : Hid (OwnIn w13 (w12.heap.size) w13.heap.size (some ⟨w12.heap.size + 1 + 1 + 1, 0, none⟩) n n zs) := Lib.hid (by simpa using OwnIn.of ho13)
    have B13 : Below w.heap.size w w13 := B12.trans (b13.mono (by omega))
    clear hb13 b13 B12 ho13 WL12 WM12 WN12 O3x12 O5x12 l0 lf
    clear WL13
    go_wp2_with fail
    refine (C2.out _ w13.heap.size _ (OwnIn.ints O13x13.out (by omega)) (Nat.le_refl _)).mono ?_
    rintro e w14 ⟨S14, c14, rfl, ho14, hb14⟩
    have b14 : Below w13.heap.size w13 w14 := hb14
    have z14 : w13.heap.size ≤ w14.heap.size := b14.size
    have WM14 := Lib.hid (WM13.out.call b14)
    have WN14 := Lib.hid (WN13.out.call b14)
    have O3x14 := Lib.hid (OwnIn.call O3x13.out b14 (by omega))
    have O5x14 := Lib.hid (OwnIn.call O5x13.out b14 (by omega))
    have O13x14 := Lib.hid (OwnIn.call O13x13.out b14 (by omega))
    have O14x14 : Hid (OwnIn w14 (w13.heap.size) w14.heap.size S14 m c14 G) := Lib.hid (by simpa using OwnIn.of ho14)
    have B14 : Below w.heap.size w w14 := B13.trans (b14.mono (by omega))
    clear hb14 b14 B13 ho14 WM13 WN13 O3x13 O5x13 O13x13 
    clear O13x14
    obtain ⟨m0, mf⟩ := WM14.out
    have yM14 := WM14.out.lt
    go_wp2_with fail
    refine (eqCountWheel_same _ _ _ _ _ _ w14.heap.size w14.heap.size G _ (by first | exact OwnIn.ints O14x14.out (by omega) | exact Ints.alloc (OwnIn.ints O14x14.out (by omega)) (Nat.le_refl _) _) (by first | exact OwnIn.ints O3x14.out (by omega) | exact Ints.alloc (OwnIn.ints O3x14.out (by omega)) (Nat.le_refl _) _) (by first | exact Nat.le_refl _ | (simp; done)) (by first | exact Nat.le_refl _ | (simp; done)) (by omega) (by omega)).mono ?_
    rintro e w15 ⟨rfl, hb15⟩
    have b15 : Below w14.heap.size w14 w15 := ((Below.refl _ _).alloc (Nat.le_refl _) _).trans (hb15.mono (by simp))
    have z15 : w14.heap.size + 1 ≤ w15.heap.size := by have := hb15.size; simpa using this
    have WM15 := Lib.hid (WM14.out.call b15)
    have WN15 := Lib.hid (WN14.out.call b15)
    have WH15 : Hid (Work1 w15 w14.heap.size (.slice S14 m c14)) := Lib.hid ((work1_new w14 _ (.slice S14 m c14)).call hb15)
    have O3x15 := Lib.hid (OwnIn.call O3x14.out b15 (by omega))
    have O5x15 := Lib.hid (OwnIn.call O5x14.out b15 (by omega))
    have O14x15 := Lib.hid (OwnIn.call O14x14.out b15 (by omega))
    have B15 : Below w.heap.size w w15 := B14.trans (b15.mono (by omega))
    clear hb15 b15 B14  WM14 WN14 O3x14 O5x14 O14x14 m0 mf
    obtain ⟨n0, nf⟩ := WN15.out
    go_wp2_with fail
    refine (heldCountWheel_any _ _ _ w15.heap.size 1 _ (OwnIn.ints O5x15.out (by omega)) (Nat.le_refl _) hm (by omega) (by omega)).mono ?_
    rintro e w16 ⟨rfl, hb16⟩
    have b16 : Below w15.heap.size w15 w16 := hb16
    have z16 : w15.heap.size ≤ w16.heap.size := b16.size
    have WM16 := Lib.hid (WM15.out.call b16)
    have WN16 := Lib.hid (WN15.out.call b16)
    have WH16 := Lib.hid (WH15.out.call b16)
    have O3x16 := Lib.hid (OwnIn.call O3x15.out b16 (by omega))
    have O5x16 := Lib.hid (OwnIn.call O5x15.out b16 (by omega))
    have O14x16 := Lib.hid (OwnIn.call O14x15.out b16 (by omega))
    have B16 : Below w.heap.size w w16 := B15.trans (b16.mono (by omega))
    clear hb16 b16 B15  WM15 WN15 WH15 O3x15 O5x15 O14x15 n0 nf
    go_wp2
    go_ret
    exact ⟨rfl, B16⟩

set_option maxRecDepth 100000 in
theorem lifted (os : Os) (started : os.Started) (H : Type) (enc : TypeId × Value → H) :
    ReturnsInHanded {} Try.checked os 13 .any (Rows.fnExactTurnCountWheelSpec.pre6 enc Try.prog Try.f13 Rows.fnExactTurnCountWheelRow.domain false) (Rows.fnExactTurnCountWheelSpec.post enc Try.prog Try.f13 false true false false) := by
  refine returnsInHanded_of_change (C := Try.checked) own started (by kernel_rfl) Try.func13
    (ChangeSpec.witness6 (enc := enc) (C := Try.checked) false ⟨#[], #[.agg #[.slice none 0 0], .int .i64 0], []⟩ 8 (by kernel_rfl) (by kernel_rfl) (by kernel_rfl) (by kernel_rfl)) ?_
  intro W base args ds gs before hval0 hW hcnd _
  have hval : ∀ (j : Nat) t v, Try.f13.params[j]? = some t → args[j]? = some v → Value.okWide Try.prog W .any base t v := hval0
  have hW' := hW
  obtain ⟨p, q, hA0, hV, rfl, hfz, hnd⟩ := hW
  have hA : DataW.TrodAll enc Try.prog W 0 (fun _ => true) true Try.f13.params.toList args.toList ds p := hA0
  rw [Try.params13] at hA hval
  obtain ⟨v0, vs0, d0, ds0, p0, q0, hargs, rfl, rfl, h0, r0⟩ := trodAll_cons hA
  obtain ⟨v1, vs1, d1, ds1, p1, q1, rfl, rfl, rfl, h1, r1⟩ := trodAll_cons r0
  obtain ⟨rfl, rfl, rfl⟩ := trodAll_nil r1
  obtain rfl : args = #[v0, v1] := by cases args; simp_all
  obtain ⟨rfl, rfl⟩ := trodVars_none hV
  have k0 := h0
  have lt0 : ∀ x ∈ p0, x.block < W.heap.size := by obtain ⟨m, hm⟩ := k0; exact DataW.trod_lt m _ _ _ hm
  have k1 := h1
  have lt1 : ∀ x ∈ p1, x.block < W.heap.size := by obtain ⟨m, hm⟩ := k1; exact DataW.trod_lt m _ _ _ hm
  obtain ⟨A0, l0, c0, z0, rfl, R0⟩ := open_CountWheel (hval 0 29 v0 rfl rfl) h0
  obtain ⟨a1, rfl, _, _, wa1⟩ := open_int Try.underlying2 (hval 1 2 v1 rfl rfl) h1
  clear hA0 hval0
  refine (walk A0 l0 c0 z0 a1 W R0 wa1).mono fun e W' ⟨he, bel⟩ => ?_
  subst he
  exact ⟨_, rfl, _, _, _, [], _, [], hW', trodAll_mk1 (shut_bool Try.underlying4 _), (trodAll_cons_mk (Below.trod laidOut (by kernel_rfl) (of_decide_eq_true (by kernel_rfl)) k0 bel lt0) (trodAll_cons_mk (Below.trod laidOut (by kernel_rfl) (of_decide_eq_true (by kernel_rfl)) k1 bel lt1) trodAll_mk0)), rfl, bel.frame _, fun h => by cases h⟩
theorem over : Rows.fnExactTurnCountWheelRow.holds Try.pinned (OpenSpec.ofChange Rows.fnExactTurnCountWheelSpec) :=
  OpenClaim.holds_of_wide 13 Try.f13 rfl rfl rfl rfl rfl rfl rfl ⟨rfl, rfl, rfl, rfl, rfl⟩ rfl rfl rfl rfl rfl (by kernel_rfl) Try.func13 (by kernel_rfl)
    (of_decide_eq_true (by kernel_rfl)) (by unfold Func.isWrapper; first | (rw [if_pos (by decide +kernel)]; kernel_rfl) | (rw [if_neg (by decide +kernel)]; exact ⟨rfl, rfl⟩))
    (fun os started H enc _ => lifted os started H enc)
theorem proved : Rows.FnExactTurnCountWheelSaid := over
#print axioms proved
end Go.Proofs.Ytfgilbkhhjhfmaa.fnExactTurnCountWheel
