/- The law FnExactNewMoons returns true: the program's NewMoons is the reference's, and its result is a new slice. No conditions. -/
import Derived.Test.YtcfoknndghmnfaaNews
import Derived.Test.YtcfoknndghmnfaaLawKit
import Derived.Test.YtcfoknndghmnfaaOpenMoon
import Derived.Test.YtcfoknndghmnfaaMoonV
namespace Go.Proofs.Ytcfoknndghmnfaa.fnExactNewMoons
open Go.ChangeShapes Go.WideShapes Go.ChangeAt Go.RowKit
set_option linter.unusedVariables false
set_option linter.unusedSimpArgs false
set_option maxHeartbeats 8000000 in
theorem walk (n m z a b : Int) (w : World) (wn : (Lit.int .i64 n).wf = true) (wm : (Lit.int .i64 m).wf = true) (wz : (Lit.int .i64 z).wf = true) (wa : (Lit.int .i64 a).wf = true) (wb : (Lit.int .i64 b).wf = true) :
    Calls Try.prog 7 #[.agg #[.int .i64 n, .int .i64 m, .int .i64 z], .int .i64 a, .int .i64 b] w fun e w' => e = .returned (.bool true) ∧ Below w.heap.size w w' := by
    have hlen : (newL n m z a b).length ≤ 1048576 := newL_len n m z a b
    have c1 := fun (w : World) => specNewMoons_any n m z a b w
    have c2 := fun (w : World) => NewMoons_any n m z a b w
    generalize newL n m z a b = G at *
    generalize newC n m z a b = cd at *
    have C1 := Lib.hid c1
    have C2 := Lib.hid c2
    have HG := Lib.hid hlen
    clear c1 c2 hlen
    go_enter Try.func7, Try.ntmps7
    go_wp2_with fail
    go_at_call 15
    refine (toMoon_any _ _ _ _).mono ?_
    rintro e w1 ⟨rfl, hb1⟩
    obtain ⟨hc1, hf1, hs1⟩ := bcell hb1
    (try (refine cut_ (p := w.heap.size < w1.heap.size) ?_ ?_; (focus (refine hs1 _ ?_; first | assumption | omega | (simp [go_sem]; done) | (simp [go_sem]; omega))); intro hl1a))
    (try (refine cut_ (p := w.heap.size + 1 < w1.heap.size) ?_ ?_; (focus (refine hs1 _ ?_; first | assumption | omega | (simp [go_sem]; done) | (simp [go_sem]; omega))); intro hl1b))
    (try (refine cut_ (p := w.heap.size + 1 + 1 < w1.heap.size) ?_ ?_; (focus (refine hs1 _ ?_; first | assumption | omega | (simp [go_sem]; done) | (simp [go_sem]; omega))); intro hl1c))
    have la1 : w1.cell? ⟨w.heap.size, 0, none⟩ = some (.int .i64 n) := by simp [go_sem, hc1]
    have lb1 : w1.cell? ⟨w.heap.size, 1, none⟩ = some (.int .i64 m) := by simp [go_sem, hc1]
    have lc1 : w1.cell? ⟨w.heap.size, 2, none⟩ = some (.int .i64 z) := by simp [go_sem, hc1]
    have B1 : Below w.heap.size w w1 := by (repeat (first | with_reducible exact Below.refl _ _ | with_reducible refine below_alloc ?_ _ | with_reducible refine below_drewN ?_ _ | with_reducible refine Below.drew ?_ | ((with_reducible refine below_set ?_ ?_ _); rotate_left; (focus (first | (simp; done) | (simp; omega) | omega))) | with_reducible refine below_call ?_ (by assumption)))
    have z1 : w.heap.size < w1.heap.size := by omega
    clear hc1 hf1 hs1 hb1
    go_wp2_with fail
    refine (C1.out _).mono ?_
    rintro e w2 ⟨L2, m2, c2, rfl, ho2, hb2⟩
    have b2 : Below w1.heap.size w1 w2 := by first | exact hb2 | (obtain ⟨mq, hq⟩ := hb2; rw [hq]; exact below_drewN (Below.refl _ _) _) | ((repeat (first | with_reducible exact Below.refl _ _ | with_reducible refine below_alloc ?_ _ | with_reducible refine below_drewN ?_ _ | with_reducible refine Below.drew ?_ | ((with_reducible refine below_set ?_ ?_ _); rotate_left; (focus (first | (simp; done) | (simp; omega) | omega))) | with_reducible refine below_call ?_ (by assumption))); done)
    have z2 : w1.heap.size ≤ w2.heap.size := b2.size
    have O2x2 : Hid (OwnIn w2 (w1.heap.size) w2.heap.size L2 m2 c2 G) := Lib.hid (by simpa using OwnIn.of ho2)
    have hm2 : m2 ≤ 1048576 := by have := ho2.len; have := HG.out; omega
    have la2 : w2.cell? ⟨w.heap.size, 0, none⟩ = some (.int .i64 n) := cell_call b2 (p := ⟨w.heap.size, 0, none⟩) (by simp; omega) la1
    have lb2 : w2.cell? ⟨w.heap.size, 1, none⟩ = some (.int .i64 m) := cell_call b2 (p := ⟨w.heap.size, 1, none⟩) (by simp; omega) lb1
    have lc2 : w2.cell? ⟨w.heap.size, 2, none⟩ = some (.int .i64 z) := cell_call b2 (p := ⟨w.heap.size, 2, none⟩) (by simp; omega) lc1
    have B2 : Below w.heap.size w w2 := B1.trans (b2.mono (by omega))
    clear hb2 b2 ho2 la1 lb1 lc1 B1
    go_wp2_with fail
    refine (toMoon_any _ _ _ _).mono ?_
    rintro e w3 ⟨rfl, hb3⟩
    have b3 : Below w2.heap.size w2 w3 := by first | exact hb3 | (obtain ⟨mq, hq⟩ := hb3; rw [hq]; exact below_drewN (Below.refl _ _) _) | ((repeat (first | with_reducible exact Below.refl _ _ | with_reducible refine below_alloc ?_ _ | with_reducible refine below_drewN ?_ _ | with_reducible refine Below.drew ?_ | ((with_reducible refine below_set ?_ ?_ _); rotate_left; (focus (first | (simp; done) | (simp; omega) | omega))) | with_reducible refine below_call ?_ (by assumption))); done)
    have z3 : w2.heap.size ≤ w3.heap.size := b3.size
    have la3 : w3.cell? ⟨w.heap.size, 0, none⟩ = some (.int .i64 n) := cell_call b3 (p := ⟨w.heap.size, 0, none⟩) (by simp; omega) la2
    have lb3 : w3.cell? ⟨w.heap.size, 1, none⟩ = some (.int .i64 m) := cell_call b3 (p := ⟨w.heap.size, 1, none⟩) (by simp; omega) lb2
    have lc3 : w3.cell? ⟨w.heap.size, 2, none⟩ = some (.int .i64 z) := cell_call b3 (p := ⟨w.heap.size, 2, none⟩) (by simp; omega) lc2
    have O2x3 := Lib.hid (OwnIn.call O2x2.out b3 (by omega))
    have B3 : Below w.heap.size w w3 := B2.trans (b3.mono (by omega))
    clear hb3 b3 la2 lb2 lc2 O2x2 B2
    go_wp2_with fail
    refine (C2.out _).mono ?_
    rintro e w4 ⟨L4, m4, c4, rfl, ho4, hb4⟩
    have b4 : Below w3.heap.size w3 w4 := by first | exact hb4 | (obtain ⟨mq, hq⟩ := hb4; rw [hq]; exact below_drewN (Below.refl _ _) _) | ((repeat (first | with_reducible exact Below.refl _ _ | with_reducible refine below_alloc ?_ _ | with_reducible refine below_drewN ?_ _ | with_reducible refine Below.drew ?_ | ((with_reducible refine below_set ?_ ?_ _); rotate_left; (focus (first | (simp; done) | (simp; omega) | omega))) | with_reducible refine below_call ?_ (by assumption))); done)
    have z4 : w3.heap.size ≤ w4.heap.size := b4.size
    have O4x4 : Hid (OwnIn w4 (w3.heap.size) w4.heap.size L4 m4 c4 G) := Lib.hid (by simpa using OwnIn.of ho4)
    have hm4 : m4 ≤ 1048576 := by have := ho4.len; have := HG.out; omega
    have la4 : w4.cell? ⟨w.heap.size, 0, none⟩ = some (.int .i64 n) := cell_call b4 (p := ⟨w.heap.size, 0, none⟩) (by simp; omega) la3
    have lb4 : w4.cell? ⟨w.heap.size, 1, none⟩ = some (.int .i64 m) := cell_call b4 (p := ⟨w.heap.size, 1, none⟩) (by simp; omega) lb3
    have lc4 : w4.cell? ⟨w.heap.size, 2, none⟩ = some (.int .i64 z) := cell_call b4 (p := ⟨w.heap.size, 2, none⟩) (by simp; omega) lc3
    have O2x4 := Lib.hid (OwnIn.call O2x3.out b4 (by omega))
    have B4 : Below w.heap.size w w4 := B3.trans (b4.mono (by omega))
    clear hb4 b4 ho4 la3 lb3 lc3 O2x3 B3
    go_wp2_with fail
    refine (eqInt64S_same' _ (OwnIn.ints O4x4.out (by omega) (B := w4.heap.size)) (OwnIn.ints O2x4.out (by omega) (B := w4.heap.size)) (by omega) (by omega)).mono ?_
    rintro e w5 ⟨rfl, hb5⟩
    have b5 : Below w4.heap.size w4 w5 := by first | exact hb5 | (obtain ⟨mq, hq⟩ := hb5; rw [hq]; exact below_drewN (Below.refl _ _) _) | ((repeat (first | with_reducible exact Below.refl _ _ | with_reducible refine below_alloc ?_ _ | with_reducible refine below_drewN ?_ _ | with_reducible refine Below.drew ?_ | ((with_reducible refine below_set ?_ ?_ _); rotate_left; (focus (first | (simp; done) | (simp; omega) | omega))) | with_reducible refine below_call ?_ (by assumption))); done)
    have z5 : w4.heap.size ≤ w5.heap.size := b5.size
    have la5 : w5.cell? ⟨w.heap.size, 0, none⟩ = some (.int .i64 n) := cell_call b5 (p := ⟨w.heap.size, 0, none⟩) (by simp; omega) la4
    have lb5 : w5.cell? ⟨w.heap.size, 1, none⟩ = some (.int .i64 m) := cell_call b5 (p := ⟨w.heap.size, 1, none⟩) (by simp; omega) lb4
    have lc5 : w5.cell? ⟨w.heap.size, 2, none⟩ = some (.int .i64 z) := cell_call b5 (p := ⟨w.heap.size, 2, none⟩) (by simp; omega) lc4
    have O2x5 := Lib.hid (OwnIn.call O2x4.out b5 (by omega))
    have O4x5 := Lib.hid (OwnIn.call O4x4.out b5 (by omega))
    have B5 : Below w.heap.size w w5 := B4.trans (b5.mono (by omega))
    clear hb5 b5 la4 lb4 lc4 O2x4 O4x4 B4
    go_wp2_with fail
    refine (markInt64S_any _ _ _ _ G 1 _ O4x5.out.1 hm4 (by omega) (by omega)).mono ?_
    rintro e w6 ⟨rfl, ho6, hg6⟩
    have z6 : w5.heap.size ≤ w6.heap.size := hg6.size
    have O4x6 := Lib.hid (OwnIn.self O4x5.out ho6)
    have la6 : w6.cell? ⟨w.heap.size, 0, none⟩ = some (.int .i64 n) := OwnIn.cell O4x5.out hg6 la5 (by omega)
    have lb6 : w6.cell? ⟨w.heap.size, 1, none⟩ = some (.int .i64 m) := OwnIn.cell O4x5.out hg6 lb5 (by omega)
    have lc6 : w6.cell? ⟨w.heap.size, 2, none⟩ = some (.int .i64 z) := OwnIn.cell O4x5.out hg6 lc5 (by omega)
    have O2x6 := Lib.hid (OwnIn.grown O2x5.out hg6 (fun g hg => by have := O4x5.out.blk g hg; omega) (by omega))
    have B6 : Below w.heap.size w w6 := OwnIn.below O4x5.out B5 hg6 (by omega)
    clear ho6 hg6 O4x5 la5 lb5 lc5 O2x5 B5
    go_wp2_with fail
    refine (heldInt64S_any _ _ _ w6.heap.size 1 _ (OwnIn.ints O4x6.out (by omega)) hm4 (by omega) (by omega)).mono ?_
    rintro e w' ⟨rfl, rfl⟩
    have y6 : w.heap.size < w6.heap.size := by omega
    go_wp2_with fail
    refine (toMoon_any _ _ _ _).mono ?_
    rintro e w7 ⟨rfl, hb7⟩
    have b7 : Below w6.heap.size w6 w7 := by first | exact hb7 | (obtain ⟨mq, hq⟩ := hb7; rw [hq]; exact below_drewN (Below.refl _ _) _) | ((repeat (first | with_reducible exact Below.refl _ _ | with_reducible refine below_alloc ?_ _ | with_reducible refine below_drewN ?_ _ | with_reducible refine Below.drew ?_ | ((with_reducible refine below_set ?_ ?_ _); rotate_left; (focus (first | (simp; done) | (simp; omega) | omega))) | with_reducible refine below_call ?_ (by assumption))); done)
    have z7 : w6.heap.size ≤ w7.heap.size := b7.size
    have la7 : w7.cell? ⟨w.heap.size, 0, none⟩ = some (.int .i64 n) := cell_call b7 (p := ⟨w.heap.size, 0, none⟩) (by simp; omega) la6
    have lb7 : w7.cell? ⟨w.heap.size, 1, none⟩ = some (.int .i64 m) := cell_call b7 (p := ⟨w.heap.size, 1, none⟩) (by simp; omega) lb6
    have lc7 : w7.cell? ⟨w.heap.size, 2, none⟩ = some (.int .i64 z) := cell_call b7 (p := ⟨w.heap.size, 2, none⟩) (by simp; omega) lc6
    have O2x7 := Lib.hid (OwnIn.call O2x6.out b7 (by omega))
    have O4x7 := Lib.hid (OwnIn.call O4x6.out b7 (by omega))
    have B7 : Below w.heap.size w w7 := B6.trans (b7.mono (by omega))
    clear hb7 b7 la6 lb6 lc6 O2x6 O4x6 B6
    go_wp2_with fail
    refine (C2.out _).mono ?_
    rintro e w8 ⟨L8, m8, c8, rfl, ho8, hb8⟩
    have b8 : Below w7.heap.size w7 w8 := by first | exact hb8 | (obtain ⟨mq, hq⟩ := hb8; rw [hq]; exact below_drewN (Below.refl _ _) _) | ((repeat (first | with_reducible exact Below.refl _ _ | with_reducible refine below_alloc ?_ _ | with_reducible refine below_drewN ?_ _ | with_reducible refine Below.drew ?_ | ((with_reducible refine below_set ?_ ?_ _); rotate_left; (focus (first | (simp; done) | (simp; omega) | omega))) | with_reducible refine below_call ?_ (by assumption))); done)
    have z8 : w7.heap.size ≤ w8.heap.size := b8.size
    have O8x8 : Hid (OwnIn w8 (w7.heap.size) w8.heap.size L8 m8 c8 G) := Lib.hid (by simpa using OwnIn.of ho8)
    have hm8 : m8 ≤ 1048576 := by have := ho8.len; have := HG.out; omega
    have la8 : w8.cell? ⟨w.heap.size, 0, none⟩ = some (.int .i64 n) := cell_call b8 (p := ⟨w.heap.size, 0, none⟩) (by simp; omega) la7
    have lb8 : w8.cell? ⟨w.heap.size, 1, none⟩ = some (.int .i64 m) := cell_call b8 (p := ⟨w.heap.size, 1, none⟩) (by simp; omega) lb7
    have lc8 : w8.cell? ⟨w.heap.size, 2, none⟩ = some (.int .i64 z) := cell_call b8 (p := ⟨w.heap.size, 2, none⟩) (by simp; omega) lc7
    have O2x8 := Lib.hid (OwnIn.call O2x7.out b8 (by omega))
    have O4x8 := Lib.hid (OwnIn.call O4x7.out b8 (by omega))
    have B8 : Below w.heap.size w w8 := B7.trans (b8.mono (by omega))
    clear hb8 b8 ho8 la7 lb7 lc7 O2x7 O4x7 B7
    go_wp2_with fail
    refine (eqInt64S_same' _ (OwnIn.ints O8x8.out (by omega) (B := w8.heap.size)) (OwnIn.ints O2x8.out (by omega) (B := w8.heap.size)) (by omega) (by omega)).mono ?_
    rintro e w9 ⟨rfl, hb9⟩
    have b9 : Below w8.heap.size w8 w9 := by first | exact hb9 | (obtain ⟨mq, hq⟩ := hb9; rw [hq]; exact below_drewN (Below.refl _ _) _) | ((repeat (first | with_reducible exact Below.refl _ _ | with_reducible refine below_alloc ?_ _ | with_reducible refine below_drewN ?_ _ | with_reducible refine Below.drew ?_ | ((with_reducible refine below_set ?_ ?_ _); rotate_left; (focus (first | (simp; done) | (simp; omega) | omega))) | with_reducible refine below_call ?_ (by assumption))); done)
    have z9 : w8.heap.size ≤ w9.heap.size := b9.size
    have la9 : w9.cell? ⟨w.heap.size, 0, none⟩ = some (.int .i64 n) := cell_call b9 (p := ⟨w.heap.size, 0, none⟩) (by simp; omega) la8
    have lb9 : w9.cell? ⟨w.heap.size, 1, none⟩ = some (.int .i64 m) := cell_call b9 (p := ⟨w.heap.size, 1, none⟩) (by simp; omega) lb8
    have lc9 : w9.cell? ⟨w.heap.size, 2, none⟩ = some (.int .i64 z) := cell_call b9 (p := ⟨w.heap.size, 2, none⟩) (by simp; omega) lc8
    have O2x9 := Lib.hid (OwnIn.call O2x8.out b9 (by omega))
    have O4x9 := Lib.hid (OwnIn.call O4x8.out b9 (by omega))
    have O8x9 := Lib.hid (OwnIn.call O8x8.out b9 (by omega))
    have B9 : Below w.heap.size w w9 := B8.trans (b9.mono (by omega))
    clear hb9 b9 la8 lb8 lc8 O2x8 O4x8 O8x8 B8
    go_wp2_with fail
    refine (heldInt64S_any _ _ _ w9.heap.size 1 _ (OwnIn.ints O4x9.out (by omega)) hm4 (by omega) (by omega)).mono ?_
    rintro e w' ⟨rfl, rfl⟩
    go_wp2
    go_ret
    exact ⟨rfl, B9⟩

set_option maxRecDepth 100000 in
theorem lifted (os : Os) (started : os.Started) (H : Type) (enc : TypeId × Value → H) :
    ReturnsInHanded {} Try.checked os 7 .any (Rows.fnExactNewMoonsSpec.pre6 enc Try.prog Try.f7 Rows.fnExactNewMoonsRow.domain false) (Rows.fnExactNewMoonsSpec.post enc Try.prog Try.f7 false true false false) := by
  refine returnsInHanded_of_change (C := Try.checked) own started (by kernel_rfl) Try.func7
    (ChangeSpec.witness6 (enc := enc) (C := Try.checked) false ⟨#[], #[.agg #[.int .i64 0, .int .i64 0, .int .i64 0], .int .i64 0, .int .i64 0], []⟩ 8 (by kernel_rfl) (by kernel_rfl) (by kernel_rfl) (by kernel_rfl)) ?_
  intro W base args ds gs before hval0 hW hcnd _
  have hval : ∀ (j : Nat) t v, Try.f7.params[j]? = some t → args[j]? = some v → Value.okWide Try.prog W .any base t v := hval0
  have hW' := hW
  obtain ⟨p, q, hA0, hV, rfl, hfz, hnd⟩ := hW
  have hA : DataW.TrodAll enc Try.prog W 0 (fun _ => true) true Try.f7.params.toList args.toList ds p := hA0
  rw [Try.params7] at hA hval
  obtain ⟨v0, vs0, d0, ds0, p0, q0, hargs, rfl, rfl, h0, r0⟩ := trodAll_cons hA
  obtain ⟨v1, vs1, d1, ds1, p1, q1, rfl, rfl, rfl, h1, r1⟩ := trodAll_cons r0
  obtain ⟨v2, vs2, d2, ds2, p2, q2, rfl, rfl, rfl, h2, r2⟩ := trodAll_cons r1
  obtain ⟨rfl, rfl, rfl⟩ := trodAll_nil r2
  obtain rfl : args = #[v0, v1, v2] := by cases args; simp_all
  obtain ⟨rfl, rfl⟩ := trodVars_none hV
  have k0 := h0
  have lt0 : ∀ x ∈ p0, x.block < W.heap.size := by obtain ⟨m, hm⟩ := k0; exact DataW.trod_lt m _ _ _ hm
  have k1 := h1
  have lt1 : ∀ x ∈ p1, x.block < W.heap.size := by obtain ⟨m, hm⟩ := k1; exact DataW.trod_lt m _ _ _ hm
  have k2 := h2
  have lt2 : ∀ x ∈ p2, x.block < W.heap.size := by obtain ⟨m, hm⟩ := k2; exact DataW.trod_lt m _ _ _ hm
  obtain ⟨n0, m0, z0, rfl, wn0, wm0, wz0⟩ := open_Moon (hval 0 25 v0 rfl rfl) h0
  obtain ⟨a1, rfl, _, _, wa1⟩ := open_int Try.underlying2 (hval 1 2 v1 rfl rfl) h1
  obtain ⟨a2, rfl, _, _, wa2⟩ := open_int Try.underlying2 (hval 2 2 v2 rfl rfl) h2
  clear hA0 hval0
  refine (walk n0 m0 z0 a1 a2 W wn0 wm0 wz0 wa1 wa2).mono fun e W' ⟨he, bel⟩ => ?_
  subst he
  exact ⟨_, rfl, _, _, _, [], _, [], hW', trodAll_mk1 (shut_bool Try.underlying4 _), (trodAll_cons_mk (Below.trod laidOut (by kernel_rfl) (of_decide_eq_true (by kernel_rfl)) k0 bel lt0) (trodAll_cons_mk (Below.trod laidOut (by kernel_rfl) (of_decide_eq_true (by kernel_rfl)) k1 bel lt1) (trodAll_cons_mk (Below.trod laidOut (by kernel_rfl) (of_decide_eq_true (by kernel_rfl)) k2 bel lt2) trodAll_mk0))), rfl, bel.frame _, fun h => by cases h⟩
theorem over : Rows.fnExactNewMoonsRow.holds Try.pinned (OpenSpec.ofChange Rows.fnExactNewMoonsSpec) :=
  OpenClaim.holds_of_wide 7 Try.f7 rfl rfl rfl rfl rfl rfl rfl ⟨rfl, rfl, rfl, rfl, rfl⟩ rfl rfl rfl rfl rfl (by kernel_rfl) Try.func7 (by kernel_rfl)
    (of_decide_eq_true (by kernel_rfl)) (by unfold Func.isWrapper; first | (rw [if_pos (by decide +kernel)]; kernel_rfl) | (rw [if_neg (by decide +kernel)]; exact ⟨rfl, rfl⟩))
    (fun os started H enc _ => lifted os started H enc)
theorem proved : Rows.FnExactNewMoonsSaid := over
#print axioms proved
end Go.Proofs.Ytcfoknndghmnfaa.fnExactNewMoons
