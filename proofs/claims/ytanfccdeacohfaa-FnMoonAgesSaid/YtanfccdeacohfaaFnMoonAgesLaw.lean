/- The law FnMoonAges returns true for all bytes: the age of the moon grows by 1 from day to day, or by 1 less a period, and lies below the period. No conditions. -/
import Derived.Test.YtanfccdeacohfaaAgePlain
import Derived.Test.YtanfccdeacohfaaDrawMoonAge
import Derived.Test.YtanfccdeacohfaaEasters
import Derived.Test.YtanfccdeacohfaaOpenBytes
namespace Go.Proofs.Ytanfccdeacohfaa.fnMoonAges
open Go.ChangeShapes Go.WideShapes Go.ChangeAt Go.RowKit
set_option linter.unusedVariables false
set_option linter.unusedSimpArgs false
set_option maxHeartbeats 4000000 in
theorem walk (A : Option Addr) (n c : Nat) (w : World) (h : CameB w A n) :
    Calls Try.prog 13 #[.slice A n c] w fun e w' => e = .returned (.bool true) ∧ Below w.heap.size w w' := by
  obtain ⟨hb, hn⟩ := h
  by_cases hbig : (4096 : Int) < n
  · have hd : decide ((4096 : Int) < n) = true := by simpa using hbig
    have cF := fun W => f6big_any A n c W hn
    rw [hd] at cF
    have CF := Lib.hid cF
    clear cF hd hb
    go_enter Try.func13, Try.ntmps13
    go_wp2_with (go_at_call 23; refine (CF.out _).mono ?_; rintro e w' ⟨rfl, rfl⟩)
    go_ret
    exact ⟨rfl, by (repeat (first | with_reducible exact Below.refl _ _ | with_reducible refine below_alloc ?_ _ | with_reducible refine below_drewN ?_ _ | with_reducible refine Below.drew ?_ | ((with_reducible refine below_set ?_ ?_ _); rotate_left; (focus (first | (simp; done) | (simp; omega) | omega))) | with_reducible refine below_call ?_ (by assumption)))⟩
  have hd : decide ((4096 : Int) < n) = false := by simpa using hbig
  have cF := fun W => f6big_any A n c W hn
  rw [hd] at cF
  have CF := Lib.hid cF
  have HB := Lib.hid hb
  clear cF hd hb
  go_enter Try.func13, Try.ntmps13
  go_wp2_with (go_at_call 23; refine (CF.out _).mono ?_; rintro e w' ⟨rfl, rfl⟩)
  go_at_call 43
  refine (DrawMoonAge_any A n c _ HB.out (by omega)).mono ?_
  rintro e w1 ⟨⟨p, d, z, x, rfl, x0, x1⟩, B1⟩
  have zz1 := B1.size
  have cM := fun W => MoonAge_any p d z x W
  have cS := fun W => specMoonAge_any p d z x W
  have cP := fun W => PhaseOf_any p d z x W
  have cQ := fun W => specPhaseOf_any p d z x W
  have cV := fun W => ValidMoon_any p d z W
  have cU := fun W => specValidMoon_any p d z W
  obtain ⟨ph, pc, hph⟩ := phaseT_form p d z x
  simp only [hph] at cP cQ
  have CP := Lib.hid cP
  have CQ := Lib.hid cQ
  clear cP cQ hph
  have hcase : (∃ a b cd : Int, ageT p d z x = .tuple #[.agg #[.int .i64 a, .int .i64 b], .int .i64 cd] ∧ (cd != 0) = true) ∨ (vMoon p d z = true ∧ inB x (-10000000) 10000000 = true) := by
    cases hv : vMoon p d z
    · exact .inl ⟨0, 0, 1, age_bad hv, by decide⟩
    · cases hi : inB x (-10000000) 10000000
      · exact .inl ⟨0, 0, 2, age_far hv hi, by decide⟩
      · exact .inr ⟨rfl, rfl⟩
  rcases hcase with ⟨a, b, cd, hT, hcd⟩ | ⟨hv, hi⟩
  · simp only [hT] at cM cS
    generalize vMoon p d z = V at *
    have CM := Lib.hid cM
    have CS := Lib.hid cS
    have CV := Lib.hid cV
    have CU := Lib.hid cU
    clear cM cS cV cU hT
    go_wp2_with fail
    go_at_call 35
    refine (CM.out _).mono ?_
    rintro e w2 ⟨rfl, hb2⟩
    have b2 : Below w1.heap.size w1 w2 := ((Below.refl _ _).alloc (Nat.le_refl _) _).trans (hb2.mono (by simp))
    have xM0_2 : w2.cell? ⟨w1.heap.size, 0, none⟩ = some (.int .i64 p) := cell_call hb2 (by simp) (by simp)
    have xM1_2 : w2.cell? ⟨w1.heap.size, 1, none⟩ = some (.int .i64 d) := cell_call hb2 (by simp) (by simp)
    have xM2_2 : w2.cell? ⟨w1.heap.size, 2, none⟩ = some (.int .i64 z) := cell_call hb2 (by simp) (by simp)
    have fM_2 : ∀ o, w2.frozen? ⟨w1.heap.size, o, none⟩ = false := fun o => fro_call hb2 (by simp) (by simp)
    have yM_2 : w1.heap.size < w2.heap.size := by have := hb2.size; simp at this; omega
    have B2 : Below w.heap.size w w2 := B1.trans (b2.mono B1.size)
    have zz2 := b2.size
    clear hb2 b2 B1 
    go_wp2_with fail
    go_at_call 34
    refine (CS.out _).mono ?_
    rintro e w3 ⟨rfl, hb3⟩
    have b3 : Below w2.heap.size w2 w3 := ((Below.refl _ _).alloc (Nat.le_refl _) _).trans (hb3.mono (by simp))
    have xM0_3 : w3.cell? ⟨w1.heap.size, 0, none⟩ = some (.int .i64 p) := cell_call b3 yM_2 xM0_2
    have xM1_3 : w3.cell? ⟨w1.heap.size, 1, none⟩ = some (.int .i64 d) := cell_call b3 yM_2 xM1_2
    have xM2_3 : w3.cell? ⟨w1.heap.size, 2, none⟩ = some (.int .i64 z) := cell_call b3 yM_2 xM2_2
    have fM_3 : ∀ o, w3.frozen? ⟨w1.heap.size, o, none⟩ = false := fun o => fro_call b3 yM_2 (fM_2 o)
    have yM_3 : w1.heap.size < w3.heap.size := lt_call b3 yM_2
    have xX0_3 : w3.cell? ⟨w2.heap.size, 0, none⟩ = some (.int .i64 a) := cell_call hb3 (by simp) (by simp)
    have xX1_3 : w3.cell? ⟨w2.heap.size, 1, none⟩ = some (.int .i64 b) := cell_call hb3 (by simp) (by simp)
    have fX_3 : ∀ o, w3.frozen? ⟨w2.heap.size, o, none⟩ = false := fun o => fro_call hb3 (by simp) (by simp)
    have yX_3 : w2.heap.size < w3.heap.size := by have := hb3.size; simp at this; omega
    have dMX : w1.heap.size ≠ w2.heap.size := by omega
    have dXM : w2.heap.size ≠ w1.heap.size := by omega
    have B3 : Below w.heap.size w w3 := B2.trans (b3.mono B2.size)
    have zz3 := b3.size
    clear hb3 b3 B2 xM0_2 xM1_2 xM2_2 fM_2 yM_2
    go_wp2_with fail
    go_at_call 22
    refine (CP.out _).mono ?_
    rintro e w4 ⟨rfl, hb4⟩
    have b4 : Below w3.heap.size w3 w4 := ((Below.refl _ _).alloc (Nat.le_refl _) _).trans (hb4.mono (by simp))
    have xM0_4 : w4.cell? ⟨w1.heap.size, 0, none⟩ = some (.int .i64 p) := cell_call b4 yM_3 xM0_3
    have xM1_4 : w4.cell? ⟨w1.heap.size, 1, none⟩ = some (.int .i64 d) := cell_call b4 yM_3 xM1_3
    have xM2_4 : w4.cell? ⟨w1.heap.size, 2, none⟩ = some (.int .i64 z) := cell_call b4 yM_3 xM2_3
    have fM_4 : ∀ o, w4.frozen? ⟨w1.heap.size, o, none⟩ = false := fun o => fro_call b4 yM_3 (fM_3 o)
    have yM_4 : w1.heap.size < w4.heap.size := lt_call b4 yM_3
    have xX0_4 : w4.cell? ⟨w2.heap.size, 0, none⟩ = some (.int .i64 a) := cell_call b4 yX_3 xX0_3
    have xX1_4 : w4.cell? ⟨w2.heap.size, 1, none⟩ = some (.int .i64 b) := cell_call b4 yX_3 xX1_3
    have fX_4 : ∀ o, w4.frozen? ⟨w2.heap.size, o, none⟩ = false := fun o => fro_call b4 yX_3 (fX_3 o)
    have yX_4 : w2.heap.size < w4.heap.size := lt_call b4 yX_3
    have xO0_4 : w4.cell? ⟨w3.heap.size, 0, none⟩ = some (.int .i64 a) := cell_call hb4 (by simp) (by simp)
    have xO1_4 : w4.cell? ⟨w3.heap.size, 1, none⟩ = some (.int .i64 b) := cell_call hb4 (by simp) (by simp)
    have fO_4 : ∀ o, w4.frozen? ⟨w3.heap.size, o, none⟩ = false := fun o => fro_call hb4 (by simp) (by simp)
    have yO_4 : w3.heap.size < w4.heap.size := by have := hb4.size; simp at this; omega
    have dMO : w1.heap.size ≠ w3.heap.size := by omega
    have dOM : w3.heap.size ≠ w1.heap.size := by omega
    have dXO : w2.heap.size ≠ w3.heap.size := by omega
    have dOX : w3.heap.size ≠ w2.heap.size := by omega
    have B4 : Below w.heap.size w w4 := B3.trans (b4.mono B3.size)
    have zz4 := b4.size
    clear hb4 b4 B3 xM0_3 xM1_3 xM2_3 fM_3 yM_3 xX0_3 xX1_3 fX_3 yX_3
    go_wp2_with fail
    go_at_call 21
    refine (CQ.out _).mono ?_
    rintro e w5 ⟨rfl, hb5⟩
    have b5 : Below w4.heap.size w4 w5 := hb5
    have xM0_5 : w5.cell? ⟨w1.heap.size, 0, none⟩ = some (.int .i64 p) := cell_call b5 yM_4 xM0_4
    have xM1_5 : w5.cell? ⟨w1.heap.size, 1, none⟩ = some (.int .i64 d) := cell_call b5 yM_4 xM1_4
    have xM2_5 : w5.cell? ⟨w1.heap.size, 2, none⟩ = some (.int .i64 z) := cell_call b5 yM_4 xM2_4
    have fM_5 : ∀ o, w5.frozen? ⟨w1.heap.size, o, none⟩ = false := fun o => fro_call b5 yM_4 (fM_4 o)
    have yM_5 : w1.heap.size < w5.heap.size := lt_call b5 yM_4
    have xX0_5 : w5.cell? ⟨w2.heap.size, 0, none⟩ = some (.int .i64 a) := cell_call b5 yX_4 xX0_4
    have xX1_5 : w5.cell? ⟨w2.heap.size, 1, none⟩ = some (.int .i64 b) := cell_call b5 yX_4 xX1_4
    have fX_5 : ∀ o, w5.frozen? ⟨w2.heap.size, o, none⟩ = false := fun o => fro_call b5 yX_4 (fX_4 o)
    have yX_5 : w2.heap.size < w5.heap.size := lt_call b5 yX_4
    have xO0_5 : w5.cell? ⟨w3.heap.size, 0, none⟩ = some (.int .i64 a) := cell_call b5 yO_4 xO0_4
    have xO1_5 : w5.cell? ⟨w3.heap.size, 1, none⟩ = some (.int .i64 b) := cell_call b5 yO_4 xO1_4
    have fO_5 : ∀ o, w5.frozen? ⟨w3.heap.size, o, none⟩ = false := fun o => fro_call b5 yO_4 (fO_4 o)
    have yO_5 : w3.heap.size < w5.heap.size := lt_call b5 yO_4
    have B5 : Below w.heap.size w w5 := B4.trans (b5.mono B4.size)
    have zz5 := b5.size
    clear hb5 b5 B4 xM0_4 xM1_4 xM2_4 fM_4 yM_4 xX0_4 xX1_4 fX_4 yX_4 xO0_4 xO1_4 fO_4 yO_4
    have yr := Below.refl w5.heap.size w5
    go_wp2
    go_region_held3 (fun w' => w'.cell? ⟨w1.heap.size, 0, none⟩ = some (.int .i64 p) ∧ w'.cell? ⟨w1.heap.size, 1, none⟩ = some (.int .i64 d) ∧ w'.cell? ⟨w1.heap.size, 2, none⟩ = some (.int .i64 z) ∧ w'.cell? ⟨w2.heap.size, 0, none⟩ = some (.int .i64 a) ∧ w'.cell? ⟨w2.heap.size, 1, none⟩ = some (.int .i64 b) ∧ w'.cell? ⟨w3.heap.size, 0, none⟩ = some (.int .i64 a) ∧ w'.cell? ⟨w3.heap.size, 1, none⟩ = some (.int .i64 b) ∧ w1.heap.size < w'.heap.size ∧ w2.heap.size < w'.heap.size ∧ w3.heap.size < w'.heap.size ∧ Below w.heap.size w w' ∧ Below w5.heap.size w5 w')
      (first | ((try go_split_ands); (try dsimp only); refine ⟨?_, ?_, ?_, ?_, ?_, ?_, ?_, ?_, ?_, ?_, ?_, ?_⟩ <;> first | (exact cell_call (by assumption) (by assumption) (by assumption)) | (exact lt_call (by assumption) (by assumption)) | (exact below_call' (by assumption) (by assumption)) | (exact Below.drew (by assumption)) | (with_reducible assumption) | (simp; done) | (simp [*]; done) | ((repeat (first | with_reducible exact Below.refl _ _ | with_reducible refine below_alloc ?_ _ | with_reducible refine below_drewN ?_ _ | with_reducible refine Below.drew ?_ | ((with_reducible refine below_set ?_ ?_ _); rotate_left; (focus (first | (simp; done) | (simp; omega) | omega))) | with_reducible refine below_call ?_ (by assumption))); done) | omega))
      (first
        | (go_at_call 16; refine (CV.out _).mono ?_; rintro e w6 ⟨rfl, hb6⟩)
        | (go_at_call 14; refine (CU.out _).mono ?_; rintro e w6 ⟨rfl, hb6⟩))
    go_split_ands
    all_goals
      go_wp2
      go_ret
      exact ⟨rfl, by assumption⟩
  · have hA := age_ok hv hi
    have hm := vMoon_yes hv
    have hi2 := inB_yes hi
    obtain ⟨X, hX⟩ : ∃ X, X = rN (ageI p d z x) d := ⟨_, rfl⟩
    obtain ⟨Y, hY⟩ : ∃ Y, Y = rD (ageI p d z x) d := ⟨_, rfl⟩
    obtain ⟨U, hU⟩ : ∃ U, U = rN (ageI p d z (x + 1)) d := ⟨_, rfl⟩
    obtain ⟨T, hT⟩ : ∃ T, T = rD (ageI p d z (x + 1)) d := ⟨_, rfl⟩
    obtain ⟨v1, v2, g1, g2, g3, g4, g5, g6, g7, hrest⟩ := ages_next hv X Y U T hX hY hU hT
    rw [g6, ← hX, ← hY] at hA
    simp only [hA] at cM cS
    have cX := fun W => CompareRatio_any X Y p d W v1 v2
    rw [g5] at cX
    have cN := fun W => MoonAge_any p d z (x + 1) W
    have hN : ageT p d z (x + 1) = if x + 1 ≤ 10000000 then .tuple #[.agg #[.int .i64 U, .int .i64 T], .int .i64 0] else .tuple #[.agg #[.int .i64 0, .int .i64 0], .int .i64 2] := by
      split
      · rw [age_ok hv (inB_mk (by omega) (by assumption)), g7, ← hU, ← hT]
      · rw [age_far hv (by simp [inB]; omega)]
    rw [hN] at cN
    have w11 : vRatio 1 1 = true := by decide
    have cA := fun W => AddRatio_any X Y 1 1 W v1 w11
    have cO := fun (h : vRatio (X + Y) Y = true) W => CompareRatio_any (X + Y) Y p d W h v2
    have cR := fun (h : vRatio (X + Y) Y = true) W => SubRatio_any (X + Y) Y p d W h v2
    generalize vMoon p d z = V at *
    have CM := Lib.hid cM
    have CS := Lib.hid cS
    have CV := Lib.hid cV
    have CU := Lib.hid cU
    have CX := Lib.hid cX
    have HV := Lib.hid hv
    have HR := Lib.hid hrest
    clear cM cS cV cU cX hA hN hv hi hX hY hU hT g5 g6 g7 v1 v2 w11 hrest
    go_wp2_with fail
    go_at_call 35
    refine (CM.out _).mono ?_
    rintro e w2 ⟨rfl, hb2⟩
    have b2 : Below w1.heap.size w1 w2 := ((Below.refl _ _).alloc (Nat.le_refl _) _).trans (hb2.mono (by simp))
    have xM0_2 : w2.cell? ⟨w1.heap.size, 0, none⟩ = some (.int .i64 p) := cell_call hb2 (by simp) (by simp)
    have xM1_2 : w2.cell? ⟨w1.heap.size, 1, none⟩ = some (.int .i64 d) := cell_call hb2 (by simp) (by simp)
    have xM2_2 : w2.cell? ⟨w1.heap.size, 2, none⟩ = some (.int .i64 z) := cell_call hb2 (by simp) (by simp)
    have fM_2 : ∀ o, w2.frozen? ⟨w1.heap.size, o, none⟩ = false := fun o => fro_call hb2 (by simp) (by simp)
    have yM_2 : w1.heap.size < w2.heap.size := by have := hb2.size; simp at this; omega
    have B2 : Below w.heap.size w w2 := B1.trans (b2.mono B1.size)
    have zz2 := b2.size
    clear hb2 b2 B1 
    go_wp2_with fail
    go_at_call 34
    refine (CS.out _).mono ?_
    rintro e w3 ⟨rfl, hb3⟩
    have b3 : Below w2.heap.size w2 w3 := ((Below.refl _ _).alloc (Nat.le_refl _) _).trans (hb3.mono (by simp))
    have xM0_3 : w3.cell? ⟨w1.heap.size, 0, none⟩ = some (.int .i64 p) := cell_call b3 yM_2 xM0_2
    have xM1_3 : w3.cell? ⟨w1.heap.size, 1, none⟩ = some (.int .i64 d) := cell_call b3 yM_2 xM1_2
    have xM2_3 : w3.cell? ⟨w1.heap.size, 2, none⟩ = some (.int .i64 z) := cell_call b3 yM_2 xM2_2
    have fM_3 : ∀ o, w3.frozen? ⟨w1.heap.size, o, none⟩ = false := fun o => fro_call b3 yM_2 (fM_2 o)
    have yM_3 : w1.heap.size < w3.heap.size := lt_call b3 yM_2
    have xX0_3 : w3.cell? ⟨w2.heap.size, 0, none⟩ = some (.int .i64 X) := cell_call hb3 (by simp) (by simp)
    have xX1_3 : w3.cell? ⟨w2.heap.size, 1, none⟩ = some (.int .i64 Y) := cell_call hb3 (by simp) (by simp)
    have fX_3 : ∀ o, w3.frozen? ⟨w2.heap.size, o, none⟩ = false := fun o => fro_call hb3 (by simp) (by simp)
    have yX_3 : w2.heap.size < w3.heap.size := by have := hb3.size; simp at this; omega
    have dMX : w1.heap.size ≠ w2.heap.size := by omega
    have dXM : w2.heap.size ≠ w1.heap.size := by omega
    have B3 : Below w.heap.size w w3 := B2.trans (b3.mono B2.size)
    have zz3 := b3.size
    clear hb3 b3 B2 xM0_2 xM1_2 xM2_2 fM_2 yM_2
    go_wp2_with fail
    go_at_call 22
    refine (CP.out _).mono ?_
    rintro e w4 ⟨rfl, hb4⟩
    have b4 : Below w3.heap.size w3 w4 := ((Below.refl _ _).alloc (Nat.le_refl _) _).trans (hb4.mono (by simp))
    have xM0_4 : w4.cell? ⟨w1.heap.size, 0, none⟩ = some (.int .i64 p) := cell_call b4 yM_3 xM0_3
    have xM1_4 : w4.cell? ⟨w1.heap.size, 1, none⟩ = some (.int .i64 d) := cell_call b4 yM_3 xM1_3
    have xM2_4 : w4.cell? ⟨w1.heap.size, 2, none⟩ = some (.int .i64 z) := cell_call b4 yM_3 xM2_3
    have fM_4 : ∀ o, w4.frozen? ⟨w1.heap.size, o, none⟩ = false := fun o => fro_call b4 yM_3 (fM_3 o)
    have yM_4 : w1.heap.size < w4.heap.size := lt_call b4 yM_3
    have xX0_4 : w4.cell? ⟨w2.heap.size, 0, none⟩ = some (.int .i64 X) := cell_call b4 yX_3 xX0_3
    have xX1_4 : w4.cell? ⟨w2.heap.size, 1, none⟩ = some (.int .i64 Y) := cell_call b4 yX_3 xX1_3
    have fX_4 : ∀ o, w4.frozen? ⟨w2.heap.size, o, none⟩ = false := fun o => fro_call b4 yX_3 (fX_3 o)
    have yX_4 : w2.heap.size < w4.heap.size := lt_call b4 yX_3
    have xO0_4 : w4.cell? ⟨w3.heap.size, 0, none⟩ = some (.int .i64 X) := cell_call hb4 (by simp) (by simp)
    have xO1_4 : w4.cell? ⟨w3.heap.size, 1, none⟩ = some (.int .i64 Y) := cell_call hb4 (by simp) (by simp)
    have fO_4 : ∀ o, w4.frozen? ⟨w3.heap.size, o, none⟩ = false := fun o => fro_call hb4 (by simp) (by simp)
    have yO_4 : w3.heap.size < w4.heap.size := by have := hb4.size; simp at this; omega
    have dMO : w1.heap.size ≠ w3.heap.size := by omega
    have dOM : w3.heap.size ≠ w1.heap.size := by omega
    have dXO : w2.heap.size ≠ w3.heap.size := by omega
    have dOX : w3.heap.size ≠ w2.heap.size := by omega
    have B4 : Below w.heap.size w w4 := B3.trans (b4.mono B3.size)
    have zz4 := b4.size
    clear hb4 b4 B3 xM0_3 xM1_3 xM2_3 fM_3 yM_3 xX0_3 xX1_3 fX_3 yX_3
    go_wp2_with fail
    go_at_call 21
    refine (CQ.out _).mono ?_
    rintro e w5 ⟨rfl, hb5⟩
    have b5 : Below w4.heap.size w4 w5 := hb5
    have xM0_5 : w5.cell? ⟨w1.heap.size, 0, none⟩ = some (.int .i64 p) := cell_call b5 yM_4 xM0_4
    have xM1_5 : w5.cell? ⟨w1.heap.size, 1, none⟩ = some (.int .i64 d) := cell_call b5 yM_4 xM1_4
    have xM2_5 : w5.cell? ⟨w1.heap.size, 2, none⟩ = some (.int .i64 z) := cell_call b5 yM_4 xM2_4
    have fM_5 : ∀ o, w5.frozen? ⟨w1.heap.size, o, none⟩ = false := fun o => fro_call b5 yM_4 (fM_4 o)
    have yM_5 : w1.heap.size < w5.heap.size := lt_call b5 yM_4
    have xX0_5 : w5.cell? ⟨w2.heap.size, 0, none⟩ = some (.int .i64 X) := cell_call b5 yX_4 xX0_4
    have xX1_5 : w5.cell? ⟨w2.heap.size, 1, none⟩ = some (.int .i64 Y) := cell_call b5 yX_4 xX1_4
    have fX_5 : ∀ o, w5.frozen? ⟨w2.heap.size, o, none⟩ = false := fun o => fro_call b5 yX_4 (fX_4 o)
    have yX_5 : w2.heap.size < w5.heap.size := lt_call b5 yX_4
    have xO0_5 : w5.cell? ⟨w3.heap.size, 0, none⟩ = some (.int .i64 X) := cell_call b5 yO_4 xO0_4
    have xO1_5 : w5.cell? ⟨w3.heap.size, 1, none⟩ = some (.int .i64 Y) := cell_call b5 yO_4 xO1_4
    have fO_5 : ∀ o, w5.frozen? ⟨w3.heap.size, o, none⟩ = false := fun o => fro_call b5 yO_4 (fO_4 o)
    have yO_5 : w3.heap.size < w5.heap.size := lt_call b5 yO_4
    have B5 : Below w.heap.size w w5 := B4.trans (b5.mono B4.size)
    have zz5 := b5.size
    clear hb5 b5 B4 xM0_4 xM1_4 xM2_4 fM_4 yM_4 xX0_4 xX1_4 fX_4 yX_4 xO0_4 xO1_4 fO_4 yO_4
    have yr := Below.refl w5.heap.size w5
    go_wp2
    go_region_held3 (fun w' => w'.cell? ⟨w1.heap.size, 0, none⟩ = some (.int .i64 p) ∧ w'.cell? ⟨w1.heap.size, 1, none⟩ = some (.int .i64 d) ∧ w'.cell? ⟨w1.heap.size, 2, none⟩ = some (.int .i64 z) ∧ w'.cell? ⟨w2.heap.size, 0, none⟩ = some (.int .i64 X) ∧ w'.cell? ⟨w2.heap.size, 1, none⟩ = some (.int .i64 Y) ∧ w'.cell? ⟨w3.heap.size, 0, none⟩ = some (.int .i64 X) ∧ w'.cell? ⟨w3.heap.size, 1, none⟩ = some (.int .i64 Y) ∧ w1.heap.size < w'.heap.size ∧ w2.heap.size < w'.heap.size ∧ w3.heap.size < w'.heap.size ∧ Below w.heap.size w w' ∧ Below w5.heap.size w5 w')
      (first | ((try go_split_ands); (try dsimp only); refine ⟨?_, ?_, ?_, ?_, ?_, ?_, ?_, ?_, ?_, ?_, ?_, ?_⟩ <;> first | (exact cell_call (by assumption) (by assumption) (by assumption)) | (exact lt_call (by assumption) (by assumption)) | (exact below_call' (by assumption) (by assumption)) | (exact Below.drew (by assumption)) | (with_reducible assumption) | (simp; done) | (simp [*]; done) | ((repeat (first | with_reducible exact Below.refl _ _ | with_reducible refine below_alloc ?_ _ | with_reducible refine below_drewN ?_ _ | with_reducible refine Below.drew ?_ | ((with_reducible refine below_set ?_ ?_ _); rotate_left; (focus (first | (simp; done) | (simp; omega) | omega))) | with_reducible refine below_call ?_ (by assumption))); done) | omega))
      (first
        | (go_at_call 16; refine (CV.out _).mono ?_; rintro e w6 ⟨rfl, hb6⟩)
        | (go_at_call 14; refine (CU.out _).mono ?_; rintro e w6 ⟨rfl, hb6⟩))
    go_split_ands
    all_goals
      have b7 : Below w5.heap.size w5 w6 := by assumption
      have xM0_7 : w6.cell? ⟨w1.heap.size, 0, none⟩ = some (.int .i64 p) := by assumption
      have xM1_7 : w6.cell? ⟨w1.heap.size, 1, none⟩ = some (.int .i64 d) := by assumption
      have xM2_7 : w6.cell? ⟨w1.heap.size, 2, none⟩ = some (.int .i64 z) := by assumption
      have fM_7 : ∀ o, w6.frozen? ⟨w1.heap.size, o, none⟩ = false := fun o => fro_call b7 yM_5 (fM_5 o)
      have yM_7 : w1.heap.size < w6.heap.size := by assumption
      have xX0_7 : w6.cell? ⟨w2.heap.size, 0, none⟩ = some (.int .i64 X) := by assumption
      have xX1_7 : w6.cell? ⟨w2.heap.size, 1, none⟩ = some (.int .i64 Y) := by assumption
      have fX_7 : ∀ o, w6.frozen? ⟨w2.heap.size, o, none⟩ = false := fun o => fro_call b7 yX_5 (fX_5 o)
      have yX_7 : w2.heap.size < w6.heap.size := by assumption
      have xO0_7 : w6.cell? ⟨w3.heap.size, 0, none⟩ = some (.int .i64 X) := by assumption
      have xO1_7 : w6.cell? ⟨w3.heap.size, 1, none⟩ = some (.int .i64 Y) := by assumption
      have fO_7 : ∀ o, w6.frozen? ⟨w3.heap.size, o, none⟩ = false := fun o => fro_call b7 yO_5 (fO_5 o)
      have yO_7 : w3.heap.size < w6.heap.size := by assumption
      have B7 : Below w.heap.size w w6 := by assumption
      have zz7 := b7.size
      clear hb6 yr b7 B5 xM0_5 xM1_5 xM2_5 fM_5 yM_5 xX0_5 xX1_5 fX_5 yX_5 xO0_5 xO1_5 fO_5 yO_5
      generalize w6 = w7 at *
      by_cases hlast : x + 1 ≤ 10000000
      · rw [if_pos hlast] at cN
        have CN := Lib.hid cN
        clear cN
        go_wp2_with fail
        go_at_call 35
        refine (CN.out _).mono ?_
        rintro e w8 ⟨rfl, hb8⟩
        have b8 : Below w7.heap.size w7 w8 := hb8
        have xM0_8 : w8.cell? ⟨w1.heap.size, 0, none⟩ = some (.int .i64 p) := cell_call b8 yM_7 xM0_7
        have xM1_8 : w8.cell? ⟨w1.heap.size, 1, none⟩ = some (.int .i64 d) := cell_call b8 yM_7 xM1_7
        have xM2_8 : w8.cell? ⟨w1.heap.size, 2, none⟩ = some (.int .i64 z) := cell_call b8 yM_7 xM2_7
        have fM_8 : ∀ o, w8.frozen? ⟨w1.heap.size, o, none⟩ = false := fun o => fro_call b8 yM_7 (fM_7 o)
        have yM_8 : w1.heap.size < w8.heap.size := lt_call b8 yM_7
        have xX0_8 : w8.cell? ⟨w2.heap.size, 0, none⟩ = some (.int .i64 X) := cell_call b8 yX_7 xX0_7
        have xX1_8 : w8.cell? ⟨w2.heap.size, 1, none⟩ = some (.int .i64 Y) := cell_call b8 yX_7 xX1_7
        have fX_8 : ∀ o, w8.frozen? ⟨w2.heap.size, o, none⟩ = false := fun o => fro_call b8 yX_7 (fX_7 o)
        have yX_8 : w2.heap.size < w8.heap.size := lt_call b8 yX_7
        have xO0_8 : w8.cell? ⟨w3.heap.size, 0, none⟩ = some (.int .i64 X) := cell_call b8 yO_7 xO0_7
        have xO1_8 : w8.cell? ⟨w3.heap.size, 1, none⟩ = some (.int .i64 Y) := cell_call b8 yO_7 xO1_7
        have fO_8 : ∀ o, w8.frozen? ⟨w3.heap.size, o, none⟩ = false := fun o => fro_call b8 yO_7 (fO_7 o)
        have yO_8 : w3.heap.size < w8.heap.size := lt_call b8 yO_7
        have B8 : Below w.heap.size w w8 := B7.trans (b8.mono B7.size)
        have zz8 := b8.size
        clear hb8 b8 B7 xM0_7 xM1_7 xM2_7 fM_7 yM_7 xX0_7 xX1_7 fX_7 yX_7 xO0_7 xO1_7 fO_7 yO_7
        rcases HR.out with ⟨hbg, hc2⟩ | ⟨hc0, hn0, hd0, hvs, hlast2⟩
        · rw [hc2] at cA
          have CA := Lib.hid cA
          clear cA hc2
          go_wp2_with fail
          go_at_call 44
          refine (CA.out _).mono ?_
          rintro e w9 ⟨rfl, hb9⟩
          have b9 : Below w8.heap.size w8 w9 := ((Below.refl _ _).alloc (Nat.le_refl _) _).trans (hb9.mono (by simp))
          have xM0_9 : w9.cell? ⟨w1.heap.size, 0, none⟩ = some (.int .i64 p) := cell_call b9 yM_8 xM0_8
          have xM1_9 : w9.cell? ⟨w1.heap.size, 1, none⟩ = some (.int .i64 d) := cell_call b9 yM_8 xM1_8
          have xM2_9 : w9.cell? ⟨w1.heap.size, 2, none⟩ = some (.int .i64 z) := cell_call b9 yM_8 xM2_8
          have fM_9 : ∀ o, w9.frozen? ⟨w1.heap.size, o, none⟩ = false := fun o => fro_call b9 yM_8 (fM_8 o)
          have yM_9 : w1.heap.size < w9.heap.size := lt_call b9 yM_8
          have xX0_9 : w9.cell? ⟨w2.heap.size, 0, none⟩ = some (.int .i64 X) := cell_call b9 yX_8 xX0_8
          have xX1_9 : w9.cell? ⟨w2.heap.size, 1, none⟩ = some (.int .i64 Y) := cell_call b9 yX_8 xX1_8
          have fX_9 : ∀ o, w9.frozen? ⟨w2.heap.size, o, none⟩ = false := fun o => fro_call b9 yX_8 (fX_8 o)
          have yX_9 : w2.heap.size < w9.heap.size := lt_call b9 yX_8
          have xO0_9 : w9.cell? ⟨w3.heap.size, 0, none⟩ = some (.int .i64 X) := cell_call b9 yO_8 xO0_8
          have xO1_9 : w9.cell? ⟨w3.heap.size, 1, none⟩ = some (.int .i64 Y) := cell_call b9 yO_8 xO1_8
          have fO_9 : ∀ o, w9.frozen? ⟨w3.heap.size, o, none⟩ = false := fun o => fro_call b9 yO_8 (fO_8 o)
          have yO_9 : w3.heap.size < w9.heap.size := lt_call b9 yO_8
          have xY0_9 : w9.cell? ⟨w8.heap.size, 0, none⟩ = some (.int .i64 U) := cell_call hb9 (by simp) (by simp)
          have xY1_9 : w9.cell? ⟨w8.heap.size, 1, none⟩ = some (.int .i64 T) := cell_call hb9 (by simp) (by simp)
          have fY_9 : ∀ o, w9.frozen? ⟨w8.heap.size, o, none⟩ = false := fun o => fro_call hb9 (by simp) (by simp)
          have yY_9 : w8.heap.size < w9.heap.size := by have := hb9.size; simp at this; omega
          have dMY : w1.heap.size ≠ w8.heap.size := by omega
          have dYM : w8.heap.size ≠ w1.heap.size := by omega
          have dXY : w2.heap.size ≠ w8.heap.size := by omega
          have dYX : w8.heap.size ≠ w2.heap.size := by omega
          have dOY : w3.heap.size ≠ w8.heap.size := by omega
          have dYO : w8.heap.size ≠ w3.heap.size := by omega
          have B9 : Below w.heap.size w w9 := B8.trans (b9.mono B8.size)
          have zz9 := b9.size
          clear hb9 b9 B8 xM0_8 xM1_8 xM2_8 fM_8 yM_8 xX0_8 xX1_8 fX_8 yX_8 xO0_8 xO1_8 fO_8 yO_8
          go_wp2
          go_ret
          exact ⟨rfl, B9.alloc (by have := B9.size; exact this) _⟩
        · rw [hc0, hn0, hd0] at cA
          have CA := Lib.hid cA
          have cO := cO hvs
          have cR := cR hvs
          clear cA hc0 hn0 hd0
          rcases hlast2 with ⟨ho, hU, hT⟩ | ⟨ho, h1, h2, h3⟩
          · rw [ho] at cO
            have CO := Lib.hid cO
            have hT2 := hT.symm
            subst hT2
            subst hU
            clear cO cR ho
            go_wp2_with fail
            go_at_call 44
            refine (CA.out _).mono ?_
            rintro e w9 ⟨rfl, hb9⟩
            have b9 : Below w8.heap.size w8 w9 := ((Below.refl _ _).alloc (Nat.le_refl _) _).trans (hb9.mono (by simp))
            have xM0_9 : w9.cell? ⟨w1.heap.size, 0, none⟩ = some (.int .i64 p) := cell_call b9 yM_8 xM0_8
            have xM1_9 : w9.cell? ⟨w1.heap.size, 1, none⟩ = some (.int .i64 d) := cell_call b9 yM_8 xM1_8
            have xM2_9 : w9.cell? ⟨w1.heap.size, 2, none⟩ = some (.int .i64 z) := cell_call b9 yM_8 xM2_8
            have fM_9 : ∀ o, w9.frozen? ⟨w1.heap.size, o, none⟩ = false := fun o => fro_call b9 yM_8 (fM_8 o)
            have yM_9 : w1.heap.size < w9.heap.size := lt_call b9 yM_8
            have xX0_9 : w9.cell? ⟨w2.heap.size, 0, none⟩ = some (.int .i64 X) := cell_call b9 yX_8 xX0_8
            have xX1_9 : w9.cell? ⟨w2.heap.size, 1, none⟩ = some (.int .i64 Y) := cell_call b9 yX_8 xX1_8
            have fX_9 : ∀ o, w9.frozen? ⟨w2.heap.size, o, none⟩ = false := fun o => fro_call b9 yX_8 (fX_8 o)
            have yX_9 : w2.heap.size < w9.heap.size := lt_call b9 yX_8
            have xO0_9 : w9.cell? ⟨w3.heap.size, 0, none⟩ = some (.int .i64 X) := cell_call b9 yO_8 xO0_8
            have xO1_9 : w9.cell? ⟨w3.heap.size, 1, none⟩ = some (.int .i64 Y) := cell_call b9 yO_8 xO1_8
            have fO_9 : ∀ o, w9.frozen? ⟨w3.heap.size, o, none⟩ = false := fun o => fro_call b9 yO_8 (fO_8 o)
            have yO_9 : w3.heap.size < w9.heap.size := lt_call b9 yO_8
            have xY0_9 : w9.cell? ⟨w8.heap.size, 0, none⟩ = some (.int .i64 (X + Y)) := cell_call hb9 (by simp) (by simp)
            have xY1_9 : w9.cell? ⟨w8.heap.size, 1, none⟩ = some (.int .i64 Y) := cell_call hb9 (by simp) (by simp)
            have fY_9 : ∀ o, w9.frozen? ⟨w8.heap.size, o, none⟩ = false := fun o => fro_call hb9 (by simp) (by simp)
            have yY_9 : w8.heap.size < w9.heap.size := by have := hb9.size; simp at this; omega
            have dMY : w1.heap.size ≠ w8.heap.size := by omega
            have dYM : w8.heap.size ≠ w1.heap.size := by omega
            have dXY : w2.heap.size ≠ w8.heap.size := by omega
            have dYX : w8.heap.size ≠ w2.heap.size := by omega
            have dOY : w3.heap.size ≠ w8.heap.size := by omega
            have dYO : w8.heap.size ≠ w3.heap.size := by omega
            have B9 : Below w.heap.size w w9 := B8.trans (b9.mono B8.size)
            have zz9 := b9.size
            clear hb9 b9 B8 xM0_8 xM1_8 xM2_8 fM_8 yM_8 xX0_8 xX1_8 fX_8 yX_8 xO0_8 xO1_8 fO_8 yO_8
            go_wp2_with fail
            go_at_call 45
            refine (CO.out _).mono ?_
            rintro e w10 ⟨rfl, hb10⟩
            have b10 : Below w9.heap.size w9 w10 := ((Below.refl _ _).alloc (Nat.le_refl _) _).trans (hb10.mono (by simp))
            have xM0_10 : w10.cell? ⟨w1.heap.size, 0, none⟩ = some (.int .i64 p) := cell_call b10 yM_9 xM0_9
            have xM1_10 : w10.cell? ⟨w1.heap.size, 1, none⟩ = some (.int .i64 d) := cell_call b10 yM_9 xM1_9
            have xM2_10 : w10.cell? ⟨w1.heap.size, 2, none⟩ = some (.int .i64 z) := cell_call b10 yM_9 xM2_9
            have fM_10 : ∀ o, w10.frozen? ⟨w1.heap.size, o, none⟩ = false := fun o => fro_call b10 yM_9 (fM_9 o)
            have yM_10 : w1.heap.size < w10.heap.size := lt_call b10 yM_9
            have xX0_10 : w10.cell? ⟨w2.heap.size, 0, none⟩ = some (.int .i64 X) := cell_call b10 yX_9 xX0_9
            have xX1_10 : w10.cell? ⟨w2.heap.size, 1, none⟩ = some (.int .i64 Y) := cell_call b10 yX_9 xX1_9
            have fX_10 : ∀ o, w10.frozen? ⟨w2.heap.size, o, none⟩ = false := fun o => fro_call b10 yX_9 (fX_9 o)
            have yX_10 : w2.heap.size < w10.heap.size := lt_call b10 yX_9
            have xO0_10 : w10.cell? ⟨w3.heap.size, 0, none⟩ = some (.int .i64 X) := cell_call b10 yO_9 xO0_9
            have xO1_10 : w10.cell? ⟨w3.heap.size, 1, none⟩ = some (.int .i64 Y) := cell_call b10 yO_9 xO1_9
            have fO_10 : ∀ o, w10.frozen? ⟨w3.heap.size, o, none⟩ = false := fun o => fro_call b10 yO_9 (fO_9 o)
            have yO_10 : w3.heap.size < w10.heap.size := lt_call b10 yO_9
            have xY0_10 : w10.cell? ⟨w8.heap.size, 0, none⟩ = some (.int .i64 (X + Y)) := cell_call b10 yY_9 xY0_9
            have xY1_10 : w10.cell? ⟨w8.heap.size, 1, none⟩ = some (.int .i64 Y) := cell_call b10 yY_9 xY1_9
            have fY_10 : ∀ o, w10.frozen? ⟨w8.heap.size, o, none⟩ = false := fun o => fro_call b10 yY_9 (fY_9 o)
            have yY_10 : w8.heap.size < w10.heap.size := lt_call b10 yY_9
            have xN0_10 : w10.cell? ⟨w9.heap.size, 0, none⟩ = some (.int .i64 (X + Y)) := cell_call hb10 (by simp) (by simp)
            have xN1_10 : w10.cell? ⟨w9.heap.size, 1, none⟩ = some (.int .i64 Y) := cell_call hb10 (by simp) (by simp)
            have fN_10 : ∀ o, w10.frozen? ⟨w9.heap.size, o, none⟩ = false := fun o => fro_call hb10 (by simp) (by simp)
            have yN_10 : w9.heap.size < w10.heap.size := by have := hb10.size; simp at this; omega
            have dMN : w1.heap.size ≠ w9.heap.size := by omega
            have dNM : w9.heap.size ≠ w1.heap.size := by omega
            have dXN : w2.heap.size ≠ w9.heap.size := by omega
            have dNX : w9.heap.size ≠ w2.heap.size := by omega
            have dON : w3.heap.size ≠ w9.heap.size := by omega
            have dNO : w9.heap.size ≠ w3.heap.size := by omega
            have dYN : w8.heap.size ≠ w9.heap.size := by omega
            have dNY : w9.heap.size ≠ w8.heap.size := by omega
            have B10 : Below w.heap.size w w10 := B9.trans (b10.mono B9.size)
            have zz10 := b10.size
            clear hb10 b10 B9 xM0_9 xM1_9 xM2_9 fM_9 yM_9 xX0_9 xX1_9 fX_9 yX_9 xO0_9 xO1_9 fO_9 yO_9 xY0_9 xY1_9 fY_9 yY_9
            go_wp2_with fail
            go_at_call 45
            refine (CX.out _).mono ?_
            rintro e w11 ⟨rfl, hb11⟩
            have b11 : Below w10.heap.size w10 w11 := hb11
            have xM0_11 : w11.cell? ⟨w1.heap.size, 0, none⟩ = some (.int .i64 p) := cell_call b11 yM_10 xM0_10
            have xM1_11 : w11.cell? ⟨w1.heap.size, 1, none⟩ = some (.int .i64 d) := cell_call b11 yM_10 xM1_10
            have xM2_11 : w11.cell? ⟨w1.heap.size, 2, none⟩ = some (.int .i64 z) := cell_call b11 yM_10 xM2_10
            have fM_11 : ∀ o, w11.frozen? ⟨w1.heap.size, o, none⟩ = false := fun o => fro_call b11 yM_10 (fM_10 o)
            have yM_11 : w1.heap.size < w11.heap.size := lt_call b11 yM_10
            have xX0_11 : w11.cell? ⟨w2.heap.size, 0, none⟩ = some (.int .i64 X) := cell_call b11 yX_10 xX0_10
            have xX1_11 : w11.cell? ⟨w2.heap.size, 1, none⟩ = some (.int .i64 Y) := cell_call b11 yX_10 xX1_10
            have fX_11 : ∀ o, w11.frozen? ⟨w2.heap.size, o, none⟩ = false := fun o => fro_call b11 yX_10 (fX_10 o)
            have yX_11 : w2.heap.size < w11.heap.size := lt_call b11 yX_10
            have xO0_11 : w11.cell? ⟨w3.heap.size, 0, none⟩ = some (.int .i64 X) := cell_call b11 yO_10 xO0_10
            have xO1_11 : w11.cell? ⟨w3.heap.size, 1, none⟩ = some (.int .i64 Y) := cell_call b11 yO_10 xO1_10
            have fO_11 : ∀ o, w11.frozen? ⟨w3.heap.size, o, none⟩ = false := fun o => fro_call b11 yO_10 (fO_10 o)
            have yO_11 : w3.heap.size < w11.heap.size := lt_call b11 yO_10
            have xY0_11 : w11.cell? ⟨w8.heap.size, 0, none⟩ = some (.int .i64 (X + Y)) := cell_call b11 yY_10 xY0_10
            have xY1_11 : w11.cell? ⟨w8.heap.size, 1, none⟩ = some (.int .i64 Y) := cell_call b11 yY_10 xY1_10
            have fY_11 : ∀ o, w11.frozen? ⟨w8.heap.size, o, none⟩ = false := fun o => fro_call b11 yY_10 (fY_10 o)
            have yY_11 : w8.heap.size < w11.heap.size := lt_call b11 yY_10
            have xN0_11 : w11.cell? ⟨w9.heap.size, 0, none⟩ = some (.int .i64 (X + Y)) := cell_call b11 yN_10 xN0_10
            have xN1_11 : w11.cell? ⟨w9.heap.size, 1, none⟩ = some (.int .i64 Y) := cell_call b11 yN_10 xN1_10
            have fN_11 : ∀ o, w11.frozen? ⟨w9.heap.size, o, none⟩ = false := fun o => fro_call b11 yN_10 (fN_10 o)
            have yN_11 : w9.heap.size < w11.heap.size := lt_call b11 yN_10
            have B11 : Below w.heap.size w w11 := B10.trans (b11.mono B10.size)
            have zz11 := b11.size
            clear hb11 b11 B10 xM0_10 xM1_10 xM2_10 fM_10 yM_10 xX0_10 xX1_10 fX_10 yX_10 xO0_10 xO1_10 fO_10 yO_10 xY0_10 xY1_10 fY_10 yY_10 xN0_10 xN1_10 fN_10 yN_10
            go_wp2
            go_ret
            exact ⟨rfl, B11⟩
          · rw [h1, h2, h3] at cR
            generalize ordI (X + Y) Y p d = oo at *
            have CO := Lib.hid cO
            have CR := Lib.hid cR
            clear cO cR h1 h2 h3
            go_wp2_with fail
            go_at_call 44
            refine (CA.out _).mono ?_
            rintro e w9 ⟨rfl, hb9⟩
            have b9 : Below w8.heap.size w8 w9 := ((Below.refl _ _).alloc (Nat.le_refl _) _).trans (hb9.mono (by simp))
            have xM0_9 : w9.cell? ⟨w1.heap.size, 0, none⟩ = some (.int .i64 p) := cell_call b9 yM_8 xM0_8
            have xM1_9 : w9.cell? ⟨w1.heap.size, 1, none⟩ = some (.int .i64 d) := cell_call b9 yM_8 xM1_8
            have xM2_9 : w9.cell? ⟨w1.heap.size, 2, none⟩ = some (.int .i64 z) := cell_call b9 yM_8 xM2_8
            have fM_9 : ∀ o, w9.frozen? ⟨w1.heap.size, o, none⟩ = false := fun o => fro_call b9 yM_8 (fM_8 o)
            have yM_9 : w1.heap.size < w9.heap.size := lt_call b9 yM_8
            have xX0_9 : w9.cell? ⟨w2.heap.size, 0, none⟩ = some (.int .i64 X) := cell_call b9 yX_8 xX0_8
            have xX1_9 : w9.cell? ⟨w2.heap.size, 1, none⟩ = some (.int .i64 Y) := cell_call b9 yX_8 xX1_8
            have fX_9 : ∀ o, w9.frozen? ⟨w2.heap.size, o, none⟩ = false := fun o => fro_call b9 yX_8 (fX_8 o)
            have yX_9 : w2.heap.size < w9.heap.size := lt_call b9 yX_8
            have xO0_9 : w9.cell? ⟨w3.heap.size, 0, none⟩ = some (.int .i64 X) := cell_call b9 yO_8 xO0_8
            have xO1_9 : w9.cell? ⟨w3.heap.size, 1, none⟩ = some (.int .i64 Y) := cell_call b9 yO_8 xO1_8
            have fO_9 : ∀ o, w9.frozen? ⟨w3.heap.size, o, none⟩ = false := fun o => fro_call b9 yO_8 (fO_8 o)
            have yO_9 : w3.heap.size < w9.heap.size := lt_call b9 yO_8
            have xY0_9 : w9.cell? ⟨w8.heap.size, 0, none⟩ = some (.int .i64 U) := cell_call hb9 (by simp) (by simp)
            have xY1_9 : w9.cell? ⟨w8.heap.size, 1, none⟩ = some (.int .i64 T) := cell_call hb9 (by simp) (by simp)
            have fY_9 : ∀ o, w9.frozen? ⟨w8.heap.size, o, none⟩ = false := fun o => fro_call hb9 (by simp) (by simp)
            have yY_9 : w8.heap.size < w9.heap.size := by have := hb9.size; simp at this; omega
            have dMY : w1.heap.size ≠ w8.heap.size := by omega
            have dYM : w8.heap.size ≠ w1.heap.size := by omega
            have dXY : w2.heap.size ≠ w8.heap.size := by omega
            have dYX : w8.heap.size ≠ w2.heap.size := by omega
            have dOY : w3.heap.size ≠ w8.heap.size := by omega
            have dYO : w8.heap.size ≠ w3.heap.size := by omega
            have B9 : Below w.heap.size w w9 := B8.trans (b9.mono B8.size)
            have zz9 := b9.size
            clear hb9 b9 B8 xM0_8 xM1_8 xM2_8 fM_8 yM_8 xX0_8 xX1_8 fX_8 yX_8 xO0_8 xO1_8 fO_8 yO_8
            have wz9 : w.heap.size ≤ w9.heap.size := B9.size
            go_wp2_with fail
            go_at_call 45
            refine (CO.out _).mono ?_
            rintro e w10 ⟨rfl, hb10⟩
            have b10 : Below w9.heap.size w9 w10 := ((Below.refl _ _).alloc (Nat.le_refl _) _).trans (hb10.mono (by simp))
            have xM0_10 : w10.cell? ⟨w1.heap.size, 0, none⟩ = some (.int .i64 p) := cell_call b10 yM_9 xM0_9
            have xM1_10 : w10.cell? ⟨w1.heap.size, 1, none⟩ = some (.int .i64 d) := cell_call b10 yM_9 xM1_9
            have xM2_10 : w10.cell? ⟨w1.heap.size, 2, none⟩ = some (.int .i64 z) := cell_call b10 yM_9 xM2_9
            have fM_10 : ∀ o, w10.frozen? ⟨w1.heap.size, o, none⟩ = false := fun o => fro_call b10 yM_9 (fM_9 o)
            have yM_10 : w1.heap.size < w10.heap.size := lt_call b10 yM_9
            have xX0_10 : w10.cell? ⟨w2.heap.size, 0, none⟩ = some (.int .i64 X) := cell_call b10 yX_9 xX0_9
            have xX1_10 : w10.cell? ⟨w2.heap.size, 1, none⟩ = some (.int .i64 Y) := cell_call b10 yX_9 xX1_9
            have fX_10 : ∀ o, w10.frozen? ⟨w2.heap.size, o, none⟩ = false := fun o => fro_call b10 yX_9 (fX_9 o)
            have yX_10 : w2.heap.size < w10.heap.size := lt_call b10 yX_9
            have xO0_10 : w10.cell? ⟨w3.heap.size, 0, none⟩ = some (.int .i64 X) := cell_call b10 yO_9 xO0_9
            have xO1_10 : w10.cell? ⟨w3.heap.size, 1, none⟩ = some (.int .i64 Y) := cell_call b10 yO_9 xO1_9
            have fO_10 : ∀ o, w10.frozen? ⟨w3.heap.size, o, none⟩ = false := fun o => fro_call b10 yO_9 (fO_9 o)
            have yO_10 : w3.heap.size < w10.heap.size := lt_call b10 yO_9
            have xY0_10 : w10.cell? ⟨w8.heap.size, 0, none⟩ = some (.int .i64 U) := cell_call b10 yY_9 xY0_9
            have xY1_10 : w10.cell? ⟨w8.heap.size, 1, none⟩ = some (.int .i64 T) := cell_call b10 yY_9 xY1_9
            have fY_10 : ∀ o, w10.frozen? ⟨w8.heap.size, o, none⟩ = false := fun o => fro_call b10 yY_9 (fY_9 o)
            have yY_10 : w8.heap.size < w10.heap.size := lt_call b10 yY_9
            have xN0_10 : w10.cell? ⟨w9.heap.size, 0, none⟩ = some (.int .i64 (X + Y)) := cell_call hb10 (by simp) (by simp)
            have xN1_10 : w10.cell? ⟨w9.heap.size, 1, none⟩ = some (.int .i64 Y) := cell_call hb10 (by simp) (by simp)
            have fN_10 : ∀ o, w10.frozen? ⟨w9.heap.size, o, none⟩ = false := fun o => fro_call hb10 (by simp) (by simp)
            have yN_10 : w9.heap.size < w10.heap.size := by have := hb10.size; simp at this; omega
            have dMN : w1.heap.size ≠ w9.heap.size := by omega
            have dNM : w9.heap.size ≠ w1.heap.size := by omega
            have dXN : w2.heap.size ≠ w9.heap.size := by omega
            have dNX : w9.heap.size ≠ w2.heap.size := by omega
            have dON : w3.heap.size ≠ w9.heap.size := by omega
            have dNO : w9.heap.size ≠ w3.heap.size := by omega
            have dYN : w8.heap.size ≠ w9.heap.size := by omega
            have dNY : w9.heap.size ≠ w8.heap.size := by omega
            have B10 : Below w.heap.size w w10 := B9.trans (b10.mono B9.size)
            have zz10 := b10.size
            clear hb10 b10 B9 xM0_9 xM1_9 xM2_9 fM_9 yM_9 xX0_9 xX1_9 fX_9 yX_9 xO0_9 xO1_9 fO_9 yO_9 xY0_9 xY1_9 fY_9 yY_9
            go_wp2_with fail
            go_at_call 38
            refine (CR.out _).mono ?_
            rintro e w11 ⟨rfl, hb11⟩
            have b11 : Below w10.heap.size w10 w11 := hb11
            have xM0_11 : w11.cell? ⟨w1.heap.size, 0, none⟩ = some (.int .i64 p) := cell_call b11 yM_10 xM0_10
            have xM1_11 : w11.cell? ⟨w1.heap.size, 1, none⟩ = some (.int .i64 d) := cell_call b11 yM_10 xM1_10
            have xM2_11 : w11.cell? ⟨w1.heap.size, 2, none⟩ = some (.int .i64 z) := cell_call b11 yM_10 xM2_10
            have fM_11 : ∀ o, w11.frozen? ⟨w1.heap.size, o, none⟩ = false := fun o => fro_call b11 yM_10 (fM_10 o)
            have yM_11 : w1.heap.size < w11.heap.size := lt_call b11 yM_10
            have xX0_11 : w11.cell? ⟨w2.heap.size, 0, none⟩ = some (.int .i64 X) := cell_call b11 yX_10 xX0_10
            have xX1_11 : w11.cell? ⟨w2.heap.size, 1, none⟩ = some (.int .i64 Y) := cell_call b11 yX_10 xX1_10
            have fX_11 : ∀ o, w11.frozen? ⟨w2.heap.size, o, none⟩ = false := fun o => fro_call b11 yX_10 (fX_10 o)
            have yX_11 : w2.heap.size < w11.heap.size := lt_call b11 yX_10
            have xO0_11 : w11.cell? ⟨w3.heap.size, 0, none⟩ = some (.int .i64 X) := cell_call b11 yO_10 xO0_10
            have xO1_11 : w11.cell? ⟨w3.heap.size, 1, none⟩ = some (.int .i64 Y) := cell_call b11 yO_10 xO1_10
            have fO_11 : ∀ o, w11.frozen? ⟨w3.heap.size, o, none⟩ = false := fun o => fro_call b11 yO_10 (fO_10 o)
            have yO_11 : w3.heap.size < w11.heap.size := lt_call b11 yO_10
            have xY0_11 : w11.cell? ⟨w8.heap.size, 0, none⟩ = some (.int .i64 U) := cell_call b11 yY_10 xY0_10
            have xY1_11 : w11.cell? ⟨w8.heap.size, 1, none⟩ = some (.int .i64 T) := cell_call b11 yY_10 xY1_10
            have fY_11 : ∀ o, w11.frozen? ⟨w8.heap.size, o, none⟩ = false := fun o => fro_call b11 yY_10 (fY_10 o)
            have yY_11 : w8.heap.size < w11.heap.size := lt_call b11 yY_10
            have xN0_11 : w11.cell? ⟨w9.heap.size, 0, none⟩ = some (.int .i64 (X + Y)) := cell_call b11 yN_10 xN0_10
            have xN1_11 : w11.cell? ⟨w9.heap.size, 1, none⟩ = some (.int .i64 Y) := cell_call b11 yN_10 xN1_10
            have fN_11 : ∀ o, w11.frozen? ⟨w9.heap.size, o, none⟩ = false := fun o => fro_call b11 yN_10 (fN_10 o)
            have yN_11 : w9.heap.size < w11.heap.size := lt_call b11 yN_10
            have B11 : Below w.heap.size w w11 := B10.trans (b11.mono B10.size)
            have zz11 := b11.size
            clear hb11 b11 B10 xM0_10 xM1_10 xM2_10 fM_10 yM_10 xX0_10 xX1_10 fX_10 yX_10 xO0_10 xO1_10 fO_10 yO_10 xY0_10 xY1_10 fY_10 yY_10 xN0_10 xN1_10 fN_10 yN_10
            go_wp2_with fail
            go_at_call 45
            refine (CX.out _).mono ?_
            rintro e w12 ⟨rfl, hb12⟩
            go_wp2
            go_ret
            have hBB : Below w.heap.size w _ := (B11.setCell (p := ⟨w9.heap.size, 0, none⟩) (by simp; omega) (.int .i64 U)).setCell (p := ⟨w9.heap.size, 1, none⟩) (by simp; omega) (.int .i64 T)
            have wz11 : w.heap.size ≤ w11.heap.size := B11.size
            exact ⟨rfl, (hBB.alloc (Nat.le_trans wz11 (by simp [go_sem])) _).trans (hb12.mono (Nat.le_trans wz11 (by simp [go_sem])))⟩
      · rw [if_neg hlast] at cN
        have CN := Lib.hid cN
        obtain rfl : x = 10000000 := by omega
        clear cN
        go_wp2_with fail
        go_at_call 35
        refine (CN.out _).mono ?_
        rintro e w8 ⟨rfl, hb8⟩
        have b8 : Below w7.heap.size w7 w8 := hb8
        have xM0_8 : w8.cell? ⟨w1.heap.size, 0, none⟩ = some (.int .i64 p) := cell_call b8 yM_7 xM0_7
        have xM1_8 : w8.cell? ⟨w1.heap.size, 1, none⟩ = some (.int .i64 d) := cell_call b8 yM_7 xM1_7
        have xM2_8 : w8.cell? ⟨w1.heap.size, 2, none⟩ = some (.int .i64 z) := cell_call b8 yM_7 xM2_7
        have fM_8 : ∀ o, w8.frozen? ⟨w1.heap.size, o, none⟩ = false := fun o => fro_call b8 yM_7 (fM_7 o)
        have yM_8 : w1.heap.size < w8.heap.size := lt_call b8 yM_7
        have xX0_8 : w8.cell? ⟨w2.heap.size, 0, none⟩ = some (.int .i64 X) := cell_call b8 yX_7 xX0_7
        have xX1_8 : w8.cell? ⟨w2.heap.size, 1, none⟩ = some (.int .i64 Y) := cell_call b8 yX_7 xX1_7
        have fX_8 : ∀ o, w8.frozen? ⟨w2.heap.size, o, none⟩ = false := fun o => fro_call b8 yX_7 (fX_7 o)
        have yX_8 : w2.heap.size < w8.heap.size := lt_call b8 yX_7
        have xO0_8 : w8.cell? ⟨w3.heap.size, 0, none⟩ = some (.int .i64 X) := cell_call b8 yO_7 xO0_7
        have xO1_8 : w8.cell? ⟨w3.heap.size, 1, none⟩ = some (.int .i64 Y) := cell_call b8 yO_7 xO1_7
        have fO_8 : ∀ o, w8.frozen? ⟨w3.heap.size, o, none⟩ = false := fun o => fro_call b8 yO_7 (fO_7 o)
        have yO_8 : w3.heap.size < w8.heap.size := lt_call b8 yO_7
        have B8 : Below w.heap.size w w8 := B7.trans (b8.mono B7.size)
        have zz8 := b8.size
        clear hb8 b8 B7 xM0_7 xM1_7 xM2_7 fM_7 yM_7 xX0_7 xX1_7 fX_7 yX_7 xO0_7 xO1_7 fO_7 yO_7
        go_wp2
        go_ret
        exact ⟨rfl, B8.alloc (by have := B8.size; exact this) _⟩

set_option maxRecDepth 100000 in
theorem lifted (os : Os) (started : os.Started) (H : Type) (enc : TypeId × Value → H) :
    ReturnsInHanded {} Try.checked os 13 .any (Rows.fnMoonAgesSpec.pre6 enc Try.prog Try.f13 Rows.fnMoonAgesRow.domain false) (Rows.fnMoonAgesSpec.post enc Try.prog Try.f13 false true false false) := by
  refine returnsInHanded_of_change (C := Try.checked) own started (by kernel_rfl) Try.func13
    (ChangeSpec.witness6 (enc := enc) (C := Try.checked) false ⟨#[], #[.slice none 0 0], []⟩ 8 (by kernel_rfl) (by kernel_rfl) (by kernel_rfl) (by kernel_rfl)) ?_
  intro W base args ds gs before hval0 hW hcnd _
  have hval : ∀ (j : Nat) t v, Try.f13.params[j]? = some t → args[j]? = some v → Value.okWide Try.prog W .any base t v := hval0
  have hW' := hW
  obtain ⟨p, q, hA0, hV, rfl, hfz, hnd⟩ := hW
  have hA : DataW.TrodAll enc Try.prog W 0 (fun _ => true) true Try.f13.params.toList args.toList ds p := hA0
  rw [Try.params13] at hA hval
  obtain ⟨v0, vs0, d0, ds0, p0, q0, hargs, rfl, rfl, h0, r0⟩ := trodAll_cons hA
  obtain ⟨rfl, rfl, rfl⟩ := trodAll_nil r0
  obtain rfl : args = #[v0] := by cases args; simp_all
  obtain ⟨rfl, rfl⟩ := trodVars_none hV
  have k0 := h0
  have lt0 : ∀ x ∈ p0, x.block < W.heap.size := by obtain ⟨m, hm⟩ := k0; exact DataW.trod_lt m _ _ _ hm
  obtain ⟨A0, l0, c0, rfl, R0⟩ := open_Bytes (hval 0 38 v0 rfl rfl) h0
  clear hA0 hval0
  refine (walk A0 l0 c0 W R0).mono fun e W' ⟨he, bel⟩ => ?_
  subst he
  exact ⟨_, rfl, _, _, _, [], _, [], hW', trodAll_mk1 (shut_bool Try.underlying4 _), (trodAll_cons_mk (Below.trod laidOut (by kernel_rfl) (of_decide_eq_true (by kernel_rfl)) k0 bel lt0) trodAll_mk0), rfl, bel.frame _, fun h => by cases h⟩
theorem over : Rows.fnMoonAgesRow.holds Try.pinned (OpenSpec.ofChange Rows.fnMoonAgesSpec) :=
  OpenClaim.holds_of_wide 13 Try.f13 rfl rfl rfl rfl rfl rfl rfl ⟨rfl, rfl, rfl, rfl, rfl⟩ rfl rfl rfl rfl rfl (by kernel_rfl) Try.func13 (by kernel_rfl)
    (of_decide_eq_true (by kernel_rfl)) (by unfold Func.isWrapper; first | (rw [if_pos (by decide +kernel)]; kernel_rfl) | (rw [if_neg (by decide +kernel)]; exact ⟨rfl, rfl⟩))
    (fun os started H enc _ => lifted os started H enc)
theorem proved : Rows.FnMoonAgesSaid := over
#print axioms proved
end Go.Proofs.Ytanfccdeacohfaa.fnMoonAges
