/- The law FnExactStrikeMany returns true: the program's StrikeMany is the reference's, its result is a new slice, and it leaves its argument as it was. No conditions. -/
import Derived.Test.YtfgilbkhhjhfmaaStrikeMany
import Derived.Test.YtfgilbkhhjhfmaaLawKit
import Derived.Test.YtfgilbkhhjhfmaaOpenInts
namespace Go.Proofs.Ytfgilbkhhjhfmaa.fnExactStrikeMany
open Go.ChangeShapes Go.WideShapes Go.ChangeAt Go.RowKit
set_option linter.unusedVariables false
set_option linter.unusedSimpArgs false
set_option maxHeartbeats 8000000 in
theorem walk (A : Option Addr) (n c : Nat) (zs : List Int) (x : Int) (m : Int) (w : World) (h : Came w A n c zs) (wx : (Lit.int .i64 x).wf = true) (wm : (Lit.int .i64 m).wf = true) :
    Calls Try.prog 9 #[.agg #[.slice A n c], .int .i64 x, .int .i64 m] w fun e w' => e = .returned (.bool true) ∧ Below w.heap.size w w' := by
  obtain ⟨hI, hn, -⟩ := h
  have hz := fun w => szCountWheel_any A n c 1048576 w (by omega) (by omega) hn
  by_cases hle : (1048576 : Int) < n
  · simp only [if_pos hle] at hz
    have HZ := Lib.hid hz
    clear hz hI
    go_enter Try.func9, Try.ntmps9
    go_wp2_with fail
    refine (HZ.out _).mono ?_
    rintro e w1 ⟨rfl, hb1⟩
    obtain ⟨hc1, hf1, hs1⟩ := bcell hb1
    (try (refine cut_ (p := w.heap.size < w1.heap.size) ?_ ?_; (focus (refine hs1 _ ?_; first | assumption | omega | (simp [go_sem]; done) | (simp [go_sem]; omega))); intro hl1a))
    (try (refine cut_ (p := w.heap.size + 1 < w1.heap.size) ?_ ?_; (focus (refine hs1 _ ?_; first | assumption | omega | (simp [go_sem]; done) | (simp [go_sem]; omega))); intro hl1b))
    (try (refine cut_ (p := w.heap.size + 1 + 1 < w1.heap.size) ?_ ?_; (focus (refine hs1 _ ?_; first | assumption | omega | (simp [go_sem]; done) | (simp [go_sem]; omega))); intro hl1c))
    go_wp2
    go_ret
    exact ⟨rfl, by (repeat (first | with_reducible exact Below.refl _ _ | with_reducible refine below_alloc ?_ _ | with_reducible refine below_drewN ?_ _ | with_reducible refine Below.drew ?_ | ((with_reducible refine below_set ?_ ?_ _); rotate_left; (focus (first | (simp; done) | (simp; omega) | omega))) | with_reducible refine below_call ?_ (by assumption)))⟩
  · simp only [if_neg hle] at hz
    have hn' : n ≤ 1048576 := by omega
    have hlen : (smL zs n x m).length ≤ 1048576 := smL_len zs n x m
    have c1 := fun (A : Option Addr) (c B : Nat) (w : World) (h : Ints w B A n zs) (hB : B ≤ w.heap.size) => specStrikeMany_any A n c B zs x m w h hB hn'
    have c2 := fun (A : Option Addr) (c B : Nat) (w : World) (h : Ints w B A n zs) (hB : B ≤ w.heap.size) => StrikeMany_any A n c B zs x m w h hB hn'
    generalize smL zs n x m = G at *
    generalize smN zs n x m = cd0 at *
    generalize smC zs n x m = cd1 at *
    have C1 := Lib.hid c1
    have C2 := Lib.hid c2
    have HZ := Lib.hid hz
    have HI := Lib.hid hI
    have HG := Lib.hid hlen
    clear hz hI c1 c2 hlen
    go_enter Try.func9, Try.ntmps9
    go_wp2_with fail
    refine (HZ.out _).mono ?_
    rintro e w1 ⟨rfl, hb1⟩
    obtain ⟨hc1, hf1, hs1⟩ := bcell hb1
    (try (refine cut_ (p := w.heap.size < w1.heap.size) ?_ ?_; (focus (refine hs1 _ ?_; first | assumption | omega | (simp [go_sem]; done) | (simp [go_sem]; omega))); intro hl1a))
    (try (refine cut_ (p := w.heap.size + 1 < w1.heap.size) ?_ ?_; (focus (refine hs1 _ ?_; first | assumption | omega | (simp [go_sem]; done) | (simp [go_sem]; omega))); intro hl1b))
    (try (refine cut_ (p := w.heap.size + 1 + 1 < w1.heap.size) ?_ ?_; (focus (refine hs1 _ ?_; first | assumption | omega | (simp [go_sem]; done) | (simp [go_sem]; omega))); intro hl1c))
    have l1 : w1.cell? ⟨w.heap.size, 0, none⟩ = some (.slice A n c) := by simp [go_sem, hc1]
    have B1 : Below w.heap.size w w1 := by (repeat (first | with_reducible exact Below.refl _ _ | with_reducible refine below_alloc ?_ _ | with_reducible refine below_drewN ?_ _ | with_reducible refine Below.drew ?_ | ((with_reducible refine below_set ?_ ?_ _); rotate_left; (focus (first | (simp; done) | (simp; omega) | omega))) | with_reducible refine below_call ?_ (by assumption)))
    have z1 : w.heap.size < w1.heap.size := by omega
    clear hc1 hf1 hs1 hb1
    go_wp2_with fail
    refine (toCountWheel_any A n c w.heap.size zs _ (Ints.below HI.out B1) (by omega) hn').mono ?_
    rintro e w2 ⟨rfl, ho2, b2⟩
    have O2 := Lib.hid ho2
    have z2 : w1.heap.size ≤ w2.heap.size := b2.size
    clear ho2
    have l2 : w2.cell? ⟨w.heap.size, 0, none⟩ = some (.slice A n c) := cell_call b2 (p := ⟨w.heap.size, 0, none⟩) (by simp; omega) l1
    have B2 : Below w.heap.size w w2 := B1.trans (b2.mono (by omega))
    clear b2 l1 B1
    go_wp2_with fail
    refine (C1.out _ _ _ _ (Own.ints O2.out (Nat.le_refl _)) (Nat.le_refl _)).mono ?_
    rintro e w3 ⟨L3, m3, c3, rfl, ho3, b3⟩
    have O3x3 := Lib.hid (OwnIn.of ho3)
    have hm3 : m3 ≤ 1048576 := by have := ho3.len; have := HG.out; omega
    have z3 : w2.heap.size ≤ w3.heap.size := b3.size
    clear ho3
    have l3 : w3.cell? ⟨w.heap.size, 0, none⟩ = some (.slice A n c) := cell_call b3 (p := ⟨w.heap.size, 0, none⟩) (by simp; omega) l2
    have B3 : Below w.heap.size w w3 := B2.trans (b3.mono (by omega))
    clear b3 l2 B2 O2
    go_wp2_with fail
    refine (toCountWheel_any A n c w.heap.size zs _ (Ints.below HI.out B3) (by omega) hn').mono ?_
    rintro e w4 ⟨rfl, ho4, b4⟩
    have O4x4 := Lib.hid (OwnIn.of ho4)
    have z4 : w3.heap.size ≤ w4.heap.size := b4.size
    clear ho4
    have l4 : w4.cell? ⟨w.heap.size, 0, none⟩ = some (.slice A n c) := cell_call b4 (p := ⟨w.heap.size, 0, none⟩) (by simp; omega) l3
    have B4 : Below w.heap.size w w4 := B3.trans (b4.mono (by omega))
    have O3x4 := Lib.hid (OwnIn.call O3x3.out b4 (by omega))
    clear b4 l3 B3 O3x3
    go_wp2_with fail
    refine (C2.out _ _ _ _ (OwnIn.ints (OwnIn.call O4x4.out (by (repeat (first | with_reducible exact Below.refl _ _ | with_reducible refine below_alloc ?_ _ | with_reducible refine below_drewN ?_ _ | with_reducible refine Below.drew ?_ | ((with_reducible refine below_set ?_ ?_ _); rotate_left; (focus (first | (simp; done) | (simp; omega) | omega))) | with_reducible refine below_call ?_ (by assumption)))) (Nat.le_refl _)) (Nat.le_refl _)) (by simp)).mono ?_
    rintro e w5 ⟨L5, m5, c5, rfl, ho5, hb5⟩
    have O5x5 : Hid (OwnIn w5 (w4.heap.size + 1) w5.heap.size L5 m5 c5 G) := Lib.hid (by simpa using OwnIn.of ho5)
    have hm5 : m5 ≤ 1048576 := by have := ho5.len; have := HG.out; omega
    have k5 : w5.cell? ⟨w4.heap.size, 0, none⟩ = some (.slice (some ⟨w3.heap.size + 1 + 1 + 1, 0, none⟩) n n) := by rw [hb5.cell (p := ⟨w4.heap.size, 0, none⟩) (by simp)]; simp
    have z5 : w4.heap.size + 1 ≤ w5.heap.size := by have := hb5.size; simpa using this
    have b5 : Below w4.heap.size w4 w5 := by (repeat (first | with_reducible exact Below.refl _ _ | with_reducible refine below_alloc ?_ _ | with_reducible refine below_drewN ?_ _ | with_reducible refine Below.drew ?_ | ((with_reducible refine below_set ?_ ?_ _); rotate_left; (focus (first | (simp; done) | (simp; omega) | omega))) | with_reducible refine below_call ?_ (by assumption)))
    clear ho5 hb5
    have l5 : w5.cell? ⟨w.heap.size, 0, none⟩ = some (.slice A n c) := cell_call b5 (p := ⟨w.heap.size, 0, none⟩) (by simp; omega) l4
    have B5 : Below w.heap.size w w5 := B4.trans (b5.mono (by omega))
    have O3x5 := Lib.hid (OwnIn.call O3x4.out b5 (by omega))
    have O4x5 := Lib.hid (OwnIn.call O4x4.out b5 (by omega))
    clear b5 l4 B4 O3x4 O4x4
    go_wp2_with fail
    refine (eqInt64S_same' _ (OwnIn.ints O5x5.out (by omega) (B := w5.heap.size)) (OwnIn.ints O3x5.out (by omega) (B := w5.heap.size)) (by omega) (by omega)).mono ?_
    rintro e w6 ⟨rfl, hq6⟩
    have b6 : Below w5.heap.size w5 w6 := by obtain ⟨mq, rfl⟩ := hq6; exact below_drewN (Below.refl _ _) _
    have z6 : w5.heap.size ≤ w6.heap.size := b6.size
    clear hq6
    have l6 : w6.cell? ⟨w.heap.size, 0, none⟩ = some (.slice A n c) := cell_call b6 (p := ⟨w.heap.size, 0, none⟩) (by simp; omega) l5
    have k6 : w6.cell? ⟨w4.heap.size, 0, none⟩ = some (.slice (some ⟨w3.heap.size + 1 + 1 + 1, 0, none⟩) n n) := cell_call b6 (p := ⟨w4.heap.size, 0, none⟩) (by simp; omega) k5
    have B6 : Below w.heap.size w w6 := B5.trans (b6.mono (by omega))
    have O3x6 := Lib.hid (OwnIn.call O3x5.out b6 (by omega))
    have O4x6 := Lib.hid (OwnIn.call O4x5.out b6 (by omega))
    have O5x6 := Lib.hid (OwnIn.call O5x5.out b6 (by omega))
    clear b6 l5 k5 B5 O3x5 O4x5 O5x5
    have y1 : w.heap.size < w6.heap.size := by omega
    have y2 : w4.heap.size < w6.heap.size := by omega
    have r6 := Below.refl w6.heap.size w6
    go_wp2
    go_region_held3 (fun w' => w'.cell? ⟨w.heap.size, 0, none⟩ = some (.slice A n c) ∧ w'.cell? ⟨w4.heap.size, 0, none⟩ = some (.slice (some ⟨w3.heap.size + 1 + 1 + 1, 0, none⟩) n n) ∧ w.heap.size < w'.heap.size ∧ w4.heap.size < w'.heap.size ∧ Below w.heap.size w w' ∧ Below w6.heap.size w6 w')
      (first | ((try go_split_ands); (try dsimp only); refine ⟨?_, ?_, ?_, ?_, ?_, ?_⟩ <;> first | (exact cell_call (by assumption) (by assumption) (by assumption)) | (exact lt_call (by assumption) (by assumption)) | (exact below_call' (by assumption) (by assumption)) | (exact Below.drew (by assumption)) | (with_reducible assumption) | (simp; done) | (simp [*]; done) | ((repeat (first | with_reducible exact Below.refl _ _ | with_reducible refine below_alloc ?_ _ | with_reducible refine below_drewN ?_ _ | with_reducible refine Below.drew ?_ | ((with_reducible refine below_set ?_ ?_ _); rotate_left; (focus (first | (simp; done) | (simp; omega) | omega))) | with_reducible refine below_call ?_ (by assumption))); done) | omega))
      (first
        | (go_at_call 21; go_split_ands; refine (toCountWheel_any _ _ _ w.heap.size zs _ (by exact Ints.below HI.out (by assumption)) (by exact Below.size (B := w.heap.size) (w := w) (by assumption)) hn').mono ?_; rintro e w7 ⟨rfl, ho7, hb7⟩; have O7 := Lib.hid ho7; clear ho7)
        | (go_at_call 16; go_split_ands; refine (eqCountWheel_same _ _ _ _ _ _ _ _ zs _ (by exact OwnIn.ints (OwnIn.call O4x6.out (by assumption) (by omega)) (Nat.le_refl _)) (by exact Own.ints O7.out (Nat.le_refl _)) (by have := Below.size (B := w6.heap.size) (w := w6) (by assumption); omega) (Nat.le_refl _) hn hn).mono ?_; rintro e w8 ⟨rfl, hb8⟩))
    go_split_ands
    have l8 : w8.cell? ⟨w.heap.size, 0, none⟩ = some (.slice A n c) := by assumption
    have k8 : w8.cell? ⟨w4.heap.size, 0, none⟩ = some (.slice (some ⟨w3.heap.size + 1 + 1 + 1, 0, none⟩) n n) := by assumption
    have B8 : Below w.heap.size w w8 := by assumption
    have b8 : Below w6.heap.size w6 w8 := by assumption
    have z8 : w6.heap.size ≤ w8.heap.size := b8.size
    have O3x8 := Lib.hid (OwnIn.call O3x6.out b8 (by omega))
    have O4x8 := Lib.hid (OwnIn.call O4x6.out b8 (by omega))
    have O5x8 := Lib.hid (OwnIn.call O5x6.out b8 (by omega))
    clear hb7 hb8 O7 b8 r6 l6 k6 B6 O3x6 O4x6 O5x6
    go_wp2_with fail
    refine (markCountWheel_any _ _ _ _ _ zs 1 _ O4x8.out (by omega) hn' (by omega) (by omega)).mono ?_
    rintro e w9 ⟨rfl, ho9, hg9⟩
    have l9 : w9.cell? ⟨w.heap.size, 0, none⟩ = some (.slice A n c) := OwnIn.cell O4x8.out hg9 l8 (.inl (by omega))
    have B9 : Below w.heap.size w w9 := OwnIn.below O4x8.out B8 hg9 (by omega)
    have z9 : w8.heap.size ≤ w9.heap.size := hg9.size
    have O3x9 := Lib.hid (OwnIn.grown O3x8.out hg9 (fun g hg => .inr (by have := O4x8.out.blk g hg; omega)) (by omega))
    have O5x9 := Lib.hid (OwnIn.grown O5x8.out hg9 (fun g hg => .inl (by have := O4x8.out.blk g hg; omega)) (by omega))
    clear ho9 hg9 l8 k8 B8 O3x8 O4x8 O5x8
    go_wp2_with fail
    refine (eqInt64S_same' _ (OwnIn.ints O5x9.out (by omega) (B := w9.heap.size)) (OwnIn.ints O3x9.out (by omega) (B := w9.heap.size)) (by omega) (by omega)).mono ?_
    rintro e w10 ⟨rfl, hq10⟩
    have b10 : Below w9.heap.size w9 w10 := by obtain ⟨mq, rfl⟩ := hq10; exact below_drewN (Below.refl _ _) _
    have z10 : w9.heap.size ≤ w10.heap.size := b10.size
    clear hq10
    have l10 : w10.cell? ⟨w.heap.size, 0, none⟩ = some (.slice A n c) := cell_call b10 (p := ⟨w.heap.size, 0, none⟩) (by simp; omega) l9
    have B10 : Below w.heap.size w w10 := B9.trans (b10.mono (by omega))
    have O3x10 := Lib.hid (OwnIn.call O3x9.out b10 (by omega))
    have O5x10 := Lib.hid (OwnIn.call O5x9.out b10 (by omega))
    clear b10 l9 B9 O3x9 O5x9
    go_wp2_with fail
    refine (markInt64S_any _ _ _ _ G 1 _ O5x10.out.1 hm5 (by omega) (by omega)).mono ?_
    rintro e w11 ⟨rfl, ho11, hg11⟩
    have l11 : w11.cell? ⟨w.heap.size, 0, none⟩ = some (.slice A n c) := OwnIn.cell O5x10.out hg11 l10 (.inl (by omega))
    have B11 : Below w.heap.size w w11 := OwnIn.below O5x10.out B10 hg11 (by omega)
    have z11 : w10.heap.size ≤ w11.heap.size := hg11.size
    have O3x11 := Lib.hid (OwnIn.grown O3x10.out hg11 (fun g hg => .inr (by have := O5x10.out.blk g hg; omega)) (by omega))
    have O5x11 := Lib.hid (OwnIn.self O5x10.out ho11)
    clear ho11 hg11 l10 B10 O3x10 O5x10
    go_wp2_with fail
    refine (heldInt64S_any _ _ _ w11.heap.size 1 _ (OwnIn.ints O5x11.out (by omega)) hm5 (by omega) (by omega)).mono ?_
    rintro e w' ⟨rfl, rfl⟩
    have y3 : w.heap.size < w11.heap.size := by omega
    go_wp2_with fail
    refine (toCountWheel_any A n c w.heap.size zs _ (Ints.below HI.out B11) (by omega) hn').mono ?_
    rintro e w12 ⟨rfl, ho12, b12⟩
    have O12x12 := Lib.hid (OwnIn.of ho12)
    have z12 : w11.heap.size ≤ w12.heap.size := b12.size
    clear ho12
    have B12 : Below w.heap.size w w12 := B11.trans (b12.mono (by omega))
    have O3x12 := Lib.hid (OwnIn.call O3x11.out b12 (by omega))
    have O5x12 := Lib.hid (OwnIn.call O5x11.out b12 (by omega))
    clear b12 l11 B11 O3x11 O5x11
    go_wp2_with fail
    refine (C2.out _ _ _ _ (OwnIn.ints O12x12.out (Nat.le_refl _)) (Nat.le_refl _)).mono ?_
    rintro e w13 ⟨L13, m13, c13, rfl, ho13, b13⟩
    have O13x13 := Lib.hid (OwnIn.of ho13)
    have hm13 : m13 ≤ 1048576 := by have := ho13.len; have := HG.out; omega
    have z13 : w12.heap.size ≤ w13.heap.size := b13.size
    clear ho13
    have B13 : Below w.heap.size w w13 := B12.trans (b13.mono (by omega))
    have O3x13 := Lib.hid (OwnIn.call O3x12.out b13 (by omega))
    have O5x13 := Lib.hid (OwnIn.call O5x12.out b13 (by omega))
    clear b13 B12 O3x12 O5x12 O12x12
    go_wp2_with fail
    refine (eqInt64S_same' _ (OwnIn.ints O13x13.out (by omega) (B := w13.heap.size)) (OwnIn.ints O3x13.out (by omega) (B := w13.heap.size)) (by omega) (by omega)).mono ?_
    rintro e w14 ⟨rfl, hq14⟩
    have b14 : Below w13.heap.size w13 w14 := by obtain ⟨mq, rfl⟩ := hq14; exact below_drewN (Below.refl _ _) _
    have z14 : w13.heap.size ≤ w14.heap.size := b14.size
    clear hq14
    have B14 : Below w.heap.size w w14 := B13.trans (b14.mono (by omega))
    have O5x14 := Lib.hid (OwnIn.call O5x13.out b14 (by omega))
    clear b14 B13 O3x13 O5x13
    go_wp2_with fail
    refine (heldInt64S_any _ _ _ w14.heap.size 1 _ (OwnIn.ints O5x14.out (by omega)) hm5 (by omega) (by omega)).mono ?_
    rintro e w' ⟨rfl, rfl⟩
    go_wp2
    go_ret
    exact ⟨rfl, B14⟩

set_option maxRecDepth 100000 in
theorem lifted (os : Os) (started : os.Started) (H : Type) (enc : TypeId × Value → H) :
    ReturnsInHanded {} Try.checked os 9 .any (Rows.fnExactStrikeManySpec.pre6 enc Try.prog Try.f9 Rows.fnExactStrikeManyRow.domain false) (Rows.fnExactStrikeManySpec.post enc Try.prog Try.f9 false true false false) := by
  refine returnsInHanded_of_change (C := Try.checked) own started (by kernel_rfl) Try.func9
    (ChangeSpec.witness6 (enc := enc) (C := Try.checked) false ⟨#[], #[.agg #[.slice none 0 0], .int .i64 0, .int .i64 0], []⟩ 8 (by kernel_rfl) (by kernel_rfl) (by kernel_rfl) (by kernel_rfl)) ?_
  intro W base args ds gs before hval0 hW hcnd _
  have hval : ∀ (j : Nat) t v, Try.f9.params[j]? = some t → args[j]? = some v → Value.okWide Try.prog W .any base t v := hval0
  have hW' := hW
  obtain ⟨p, q, hA0, hV, rfl, hfz, hnd⟩ := hW
  have hA : DataW.TrodAll enc Try.prog W 0 (fun _ => true) true Try.f9.params.toList args.toList ds p := hA0
  rw [Try.params9] at hA hval
  obtain ⟨v0, vs0, d0, ds0, p0, q0, hargs, rfl, rfl, h0, r0⟩ := trodAll_cons hA
  obtain ⟨v1, vs1, d1, ds1, p1, q1, rfl, rfl, rfl, h1, r1⟩ := trodAll_cons r0
  obtain ⟨v2, vs2, d2, ds2, p2, q2, rfl, rfl, rfl, h2, r2⟩ := trodAll_cons r1
  obtain ⟨rfl, rfl, rfl⟩ := trodAll_nil r2
  obtain rfl : args = #[v0, v1, v2] := by cases args; simp_all
  obtain ⟨rfl, rfl⟩ := trodVars_none hV
  have k0 := h0
  have lt0 : ∀ x ∈ p0, x.block < W.heap.size := by obtain ⟨m, hm⟩ := k0; exact DataW.trod_lt m _ _ _ hm
  have k1 := h1
  have lt1 : ∀ x ∈ p1, x.block < W.heap.size := by obtain ⟨m, hm⟩ := k1; exact DataW.trod_lt m _ _ _ hm
  have k2 := h2
  have lt2 : ∀ x ∈ p2, x.block < W.heap.size := by obtain ⟨m, hm⟩ := k2; exact DataW.trod_lt m _ _ _ hm
  obtain ⟨A0, l0, c0, z0, rfl, R0⟩ := open_CountWheel (hval 0 29 v0 rfl rfl) h0
  obtain ⟨a1, rfl, _, _, wa1⟩ := open_int Try.underlying2 (hval 1 2 v1 rfl rfl) h1
  obtain ⟨a2, rfl, _, _, wa2⟩ := open_int Try.underlying2 (hval 2 2 v2 rfl rfl) h2
  clear hA0 hval0
  refine (walk A0 l0 c0 z0 a1 a2 W R0 wa1 wa2).mono fun e W' ⟨he, bel⟩ => ?_
  subst he
  exact ⟨_, rfl, _, _, _, [], _, [], hW', trodAll_mk1 (shut_bool Try.underlying4 _), (trodAll_cons_mk (Below.trod laidOut (by kernel_rfl) (of_decide_eq_true (by kernel_rfl)) k0 bel lt0) (trodAll_cons_mk (Below.trod laidOut (by kernel_rfl) (of_decide_eq_true (by kernel_rfl)) k1 bel lt1) (trodAll_cons_mk (Below.trod laidOut (by kernel_rfl) (of_decide_eq_true (by kernel_rfl)) k2 bel lt2) trodAll_mk0))), rfl, bel.frame _, fun h => by cases h⟩
theorem over : Rows.fnExactStrikeManyRow.holds Try.pinned (OpenSpec.ofChange Rows.fnExactStrikeManySpec) :=
  OpenClaim.holds_of_wide 9 Try.f9 rfl rfl rfl rfl rfl rfl rfl ⟨rfl, rfl, rfl, rfl, rfl⟩ rfl rfl rfl rfl rfl (by kernel_rfl) Try.func9 (by kernel_rfl)
    (of_decide_eq_true (by kernel_rfl)) (by unfold Func.isWrapper; first | (rw [if_pos (by decide +kernel)]; kernel_rfl) | (rw [if_neg (by decide +kernel)]; exact ⟨rfl, rfl⟩))
    (fun os started H enc _ => lifted os started H enc)
theorem proved : Rows.FnExactStrikeManySaid := over
#print axioms proved
end Go.Proofs.Ytfgilbkhhjhfmaa.fnExactStrikeMany
