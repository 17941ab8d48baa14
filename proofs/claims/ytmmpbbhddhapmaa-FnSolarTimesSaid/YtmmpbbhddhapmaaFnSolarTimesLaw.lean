/- The law FnSolarTimes returns true for all bytes: the mean time takes the solar time back, and the equation of time lies between the least and the greatest step. No conditions. -/
import Derived.Test.YtmmpbbhddhapmaaSunPlain
import Derived.Test.YtmmpbbhddhapmaaDrawSun
import Derived.Test.YtmmpbbhddhapmaaOpenBytes
namespace Go.Proofs.Ytmmpbbhddhapmaa.fnSolarTimes
open Go.ChangeShapes Go.WideShapes Go.ChangeAt Go.RowKit
set_option linter.unusedVariables false
set_option linter.unusedSimpArgs false
set_option maxHeartbeats 400000 in
theorem f6big_any (A : Option Addr) (n c : Nat) (w : World) (hn : n ≤ 9223372036854775807) :
    Calls Try.prog 30 #[.slice A n c] w fun e w' => e = .returned (.bool (decide ((4096 : Int) < n))) ∧ w = w' := by
  go_enter Try.func30, Try.ntmps30
  go_wp2
  go_ret
  exact ⟨rfl, rfl⟩
set_option maxRecDepth 4000 in
set_option maxHeartbeats 4000000 in
theorem walk (A : Option Addr) (n c : Nat) (w : World) (h : CameB w A n) :
    Calls Try.prog 9 #[.slice A n c] w fun e w' => e = .returned (.bool true) ∧ Below w.heap.size w w' := by
  obtain ⟨hb, hn⟩ := h
  by_cases hbig : (4096 : Int) < n
  · have hd : decide ((4096 : Int) < n) = true := by simpa using hbig
    have cF := fun W => f6big_any A n c W hn
    rw [hd] at cF
    have CF := Lib.hid cF
    clear cF hd hb
    go_enter Try.func9, Try.ntmps9
    go_wp2_with (go_at_call 30; refine (CF.out _).mono ?_; rintro e w' ⟨rfl, rfl⟩)
    go_ret
    exact ⟨rfl, by (repeat (first | with_reducible exact Below.refl _ _ | with_reducible refine below_alloc ?_ _ | with_reducible refine below_drewN ?_ _ | with_reducible refine Below.drew ?_ | ((with_reducible refine below_set ?_ ?_ _); rotate_left; (focus (first | (simp; done) | (simp; omega) | omega))) | with_reducible refine below_call ?_ (by assumption)))⟩
  have hd : decide ((4096 : Int) < n) = false := by simpa using hbig
  have cF := fun W => f6big_any A n c W hn
  rw [hd] at cF
  have CF := Lib.hid cF
  have HB := Lib.hid hb
  clear cF hd hb
  go_enter Try.func9, Try.ntmps9
  go_wp2_with (go_at_call 30; refine (CF.out _).mono ?_; rintro e w' ⟨rfl, rfl⟩)
  go_at_call 31
  refine (DrawSolarTime_any A n c _ HB.out (by omega)).mono ?_
  rintro e w1 ⟨⟨L, m, d, zs, x, y, rfl, m0, x0, x1, y0, y1, ho⟩, B1⟩
  have zz1 := B1.size
  have i1 : Ints w1 w1.heap.size L m zs := ho.ints (Nat.le_refl _)
  have hl : zs.length = m := ho.len
  clear ho
  have cM := fun W (h : Ints W w1.heap.size L m zs) (hB : w1.heap.size ≤ W.heap.size) => SolarTime_any L m d w1.heap.size zs x y W h hB (by omega)
  have cS := fun W (h : Ints W w1.heap.size L m zs) (hB : w1.heap.size ≤ W.heap.size) => specSolarTime_any L m d w1.heap.size zs x y W h hB (by omega)
  have cV := fun W (h : Ints W w1.heap.size L m zs) (hB : w1.heap.size ≤ W.heap.size) => ValidSunCam_any L m d w1.heap.size zs  W h hB (by omega)
  have cU := fun W (h : Ints W w1.heap.size L m zs) (hB : w1.heap.size ≤ W.heap.size) => specValidSunCam_any L m d w1.heap.size zs  W h hB (by omega)
  have hcase : (∃ cd : Int, sunT zs (inB x 0 364 && inB y 0 86399) (timeI zs m x y 1) = .tuple #[.int .i64 0, .int .i64 cd] ∧ (cd != 0) = true) ∨ (vSun zs = true ∧ inB x 0 364 = true ∧ inB y 0 86399 = true) := by
    cases hv : vSun zs
    · exact .inl ⟨1, sun_bad hv, by decide⟩
    · cases hi : inB x 0 364 && inB y 0 86399
      · exact .inl ⟨2, sun_far hv rfl, by decide⟩
      · exact .inr ⟨rfl, by simpa using hi⟩
  rcases hcase with ⟨cd, hT, hcd⟩ | ⟨hv, hx, hy⟩
  · simp only [hT] at cM cS
    generalize vSun zs = V at *
    have CM := Lib.hid cM
    have CS := Lib.hid cS
    have CV := Lib.hid cV
    have CU := Lib.hid cU
    clear cM cS cV cU hT
    go_wp2_with fail
    go_at_call 23
    refine (CM.out _ (by exact Ints.below (i1) (by (repeat (first | with_reducible exact Below.refl _ _ | with_reducible refine below_alloc ?_ _ | with_reducible refine below_drewN ?_ _ | with_reducible refine Below.drew ?_ | ((with_reducible refine below_set ?_ ?_ _); rotate_left; (focus (first | (simp; done) | (simp; omega) | omega))) | with_reducible refine below_call ?_ (by assumption))))) (by first | omega | (simp; done) | (simp; omega))).mono ?_
    rintro e w2 ⟨rfl, hb2⟩
    have b2 : Below w1.heap.size w1 w2 := ((Below.refl _ _).alloc (Nat.le_refl _) _).trans (hb2.mono (by simp))
    have xM0_2 : w2.cell? ⟨w1.heap.size, 0, none⟩ = some (.slice L m d) := cell_call hb2 (by simp) (by simp)
    have fM_2 : ∀ o, w2.frozen? ⟨w1.heap.size, o, none⟩ = false := fun o => fro_call hb2 (by simp) (by simp)
    have yM_2 : w1.heap.size < w2.heap.size := by have := hb2.size; simp at this; omega
    have B2 : Below w.heap.size w w2 := B1.trans (b2.mono B1.size)
    have zz2 := b2.size
    have i2 : Ints w2 w1.heap.size L m zs := i1.below (b2.mono (by omega))
    clear hb2 b2 B1 
    go_wp2_with fail
    go_at_call 22
    refine (CS.out _ (by exact Ints.below (i2) (by (repeat (first | with_reducible exact Below.refl _ _ | with_reducible refine below_alloc ?_ _ | with_reducible refine below_drewN ?_ _ | with_reducible refine Below.drew ?_ | ((with_reducible refine below_set ?_ ?_ _); rotate_left; (focus (first | (simp; done) | (simp; omega) | omega))) | with_reducible refine below_call ?_ (by assumption))))) (by first | omega | (simp; done) | (simp; omega))).mono ?_
    rintro e w3 ⟨rfl, hb3⟩
    have b3 : Below w2.heap.size w2 w3 := hb3
    have xM0_3 : w3.cell? ⟨w1.heap.size, 0, none⟩ = some (.slice L m d) := cell_call b3 yM_2 xM0_2
    have fM_3 : ∀ o, w3.frozen? ⟨w1.heap.size, o, none⟩ = false := fun o => fro_call b3 yM_2 (fM_2 o)
    have yM_3 : w1.heap.size < w3.heap.size := lt_call b3 yM_2
    have B3 : Below w.heap.size w w3 := B2.trans (b3.mono B2.size)
    have zz3 := b3.size
    have i3 : Ints w3 w1.heap.size L m zs := i2.below (b3.mono (by omega))
    clear hb3 b3 B2 xM0_2 fM_2 yM_2
    have yr := Below.refl w3.heap.size w3
    have I3 := Lib.hid i3
    clear i1 i2 i3
    go_wp2
    go_region_held3 (fun w' => w'.cell? ⟨w1.heap.size, 0, none⟩ = some (.slice L m d) ∧ w1.heap.size < w'.heap.size ∧ Below w.heap.size w w' ∧ Below w3.heap.size w3 w')
      (first | ((try go_split_ands); (try dsimp only); refine ⟨?_, ?_, ?_, ?_⟩ <;> first | (exact cell_call (by assumption) (by assumption) (by assumption)) | (exact lt_call (by assumption) (by assumption)) | (exact below_call' (by assumption) (by assumption)) | (exact Below.drew (by assumption)) | (with_reducible assumption) | assumption | (simp; done) | omega))
      (first
        | (have i3 := I3.out; go_at_call 14; refine (CV.out _ (by refine Ints.below i3 (Below.mono (?_ : Below w3.heap.size w3 _) (by omega)); first | assumption | exact (Below.drew (Below.refl _ _)).trans (by assumption) | exact Below.drew (by assumption) | exact Below.refl _ _ | exact Below.drew (Below.refl _ _) | exact below_drewN (by assumption) _) (by first | omega | (simp; done) | (simp; omega))).mono ?_; clear i3; rintro e w6 ⟨rfl, hb6⟩)
        | (have i3 := I3.out; go_at_call 12; refine (CU.out _ (by refine Ints.below i3 (Below.mono (?_ : Below w3.heap.size w3 _) (by omega)); first | assumption | exact (Below.drew (Below.refl _ _)).trans (by assumption) | exact Below.drew (by assumption) | exact Below.refl _ _ | exact Below.drew (Below.refl _ _) | exact below_drewN (by assumption) _) (by first | omega | (simp; done) | (simp; omega))).mono ?_; clear i3; rintro e w6 ⟨rfl, hb6⟩))
    go_split_ands
    all_goals
      go_wp2
      go_ret
      exact ⟨rfl, by assumption⟩
  · have hxx := inB_yes hx
    have hb := (vSun_yes hv).1
    have h1 := (vSun_yes hv).2.1
    have h2 := (vSun_yes hv).2.2
    rw [hl] at h1 h2
    have hyy := inB_yes hy
    obtain ⟨T, hT⟩ : ∃ T, T = timeI zs m x y 1 := ⟨_, rfl⟩
    obtain ⟨E, hE⟩ : ∃ E, E = eqI zs m x.toNat := ⟨_, rfl⟩
    obtain ⟨z0, hz0⟩ : ∃ z0, z0 = zs.getD 0 0 := ⟨_, rfl⟩
    have hmid := eqI_mid (zs := zs) (n := m) (d := x.toNat) z0 hv hl (by omega)
    rw [← hE] at hmid
    have hA : sunT zs (inB x 0 364 && inB y 0 86399) (timeI zs m x y 1) = .tuple #[.int .i64 T, .int .i64 0] := by rw [sun_ok hv (by rw [hx, hy]; rfl), hT]
    have cB := fun W (h : Ints W w1.heap.size L m zs) (hB : w1.heap.size ≤ W.heap.size) => MeanTime_any L m d w1.heap.size zs x T W h hB (by omega)
    have hB : sunT zs (inB x 0 364 && inB T 0 86399) (timeI zs m x T (-1)) = .tuple #[.int .i64 y, .int .i64 0] := by rw [sun_ok hv (by rw [hx, hT, timeI_in]; rfl), hT, timeI_back hyy.1 hyy.2]
    have cE := fun W (h : Ints W w1.heap.size L m zs) (hB : w1.heap.size ≤ W.heap.size) => EquationAt_any L m d w1.heap.size zs x W h hB (by omega)
    have cR := fun W (h : Ints W w1.heap.size L m zs) (hB : w1.heap.size ≤ W.heap.size) => specEquationAt_any L m d w1.heap.size zs x W h hB (by omega)
    have hC : sunT zs (inB x 0 364) (eqI zs m x.toNat) = .tuple #[.int .i64 E, .int .i64 0] := by rw [sun_ok hv hx, hE]
    have cO := fun W (h : Ints W w1.heap.size L m zs) (hB : w1.heap.size ≤ W.heap.size) => EquationAt_any L m d w1.heap.size zs 0 W h hB (by omega)
    have hO : sunT zs (inB 0 0 364) (eqI zs m (0 : Int).toNat) = .tuple #[.int .i64 z0, .int .i64 0] := by rw [sun_ok hv (by decide), hz0]; exact congrArg (fun v => Value.tuple #[.int .i64 v, .int .i64 0]) (eqI_zero zs m)
    simp only [hA] at cM cS
    simp only [hB] at cB
    simp only [hC] at cE cR
    simp only [hO] at cO
    generalize vSun zs = V at *
    have CM := Lib.hid cM
    have CS := Lib.hid cS
    have CV := Lib.hid cV
    have CU := Lib.hid cU
    have CB := Lib.hid cB
    have CE := Lib.hid cE
    have CR := Lib.hid cR
    have CO := Lib.hid cO
    have HM := Lib.hid hmid
    have HZ := Lib.hid hz0
    have HL := Lib.hid hl
    clear cM cS cV cU cB cE cR cO hA hB hC hO hT hE hmid hz0 hv hx hy hb hl
    go_wp2_with fail
    go_at_call 23
    refine (CM.out _ (by exact Ints.below (i1) (by (repeat (first | with_reducible exact Below.refl _ _ | with_reducible refine below_alloc ?_ _ | with_reducible refine below_drewN ?_ _ | with_reducible refine Below.drew ?_ | ((with_reducible refine below_set ?_ ?_ _); rotate_left; (focus (first | (simp; done) | (simp; omega) | omega))) | with_reducible refine below_call ?_ (by assumption))))) (by first | omega | (simp; done) | (simp; omega))).mono ?_
    rintro e w2 ⟨rfl, hb2⟩
    have b2 : Below w1.heap.size w1 w2 := ((Below.refl _ _).alloc (Nat.le_refl _) _).trans (hb2.mono (by simp))
    have xM0_2 : w2.cell? ⟨w1.heap.size, 0, none⟩ = some (.slice L m d) := cell_call hb2 (by simp) (by simp)
    have fM_2 : ∀ o, w2.frozen? ⟨w1.heap.size, o, none⟩ = false := fun o => fro_call hb2 (by simp) (by simp)
    have yM_2 : w1.heap.size < w2.heap.size := by have := hb2.size; simp at this; omega
    have B2 : Below w.heap.size w w2 := B1.trans (b2.mono B1.size)
    have zz2 := b2.size
    have i2 : Ints w2 w1.heap.size L m zs := i1.below (b2.mono (by omega))
    clear hb2 b2 B1 
    go_wp2_with fail
    go_at_call 22
    refine (CS.out _ (by exact Ints.below (i2) (by (repeat (first | with_reducible exact Below.refl _ _ | with_reducible refine below_alloc ?_ _ | with_reducible refine below_drewN ?_ _ | with_reducible refine Below.drew ?_ | ((with_reducible refine below_set ?_ ?_ _); rotate_left; (focus (first | (simp; done) | (simp; omega) | omega))) | with_reducible refine below_call ?_ (by assumption))))) (by first | omega | (simp; done) | (simp; omega))).mono ?_
    rintro e w3 ⟨rfl, hb3⟩
    have b3 : Below w2.heap.size w2 w3 := hb3
    have xM0_3 : w3.cell? ⟨w1.heap.size, 0, none⟩ = some (.slice L m d) := cell_call b3 yM_2 xM0_2
    have fM_3 : ∀ o, w3.frozen? ⟨w1.heap.size, o, none⟩ = false := fun o => fro_call b3 yM_2 (fM_2 o)
    have yM_3 : w1.heap.size < w3.heap.size := lt_call b3 yM_2
    have B3 : Below w.heap.size w w3 := B2.trans (b3.mono B2.size)
    have zz3 := b3.size
    have i3 : Ints w3 w1.heap.size L m zs := i2.below (b3.mono (by omega))
    clear hb3 b3 B2 xM0_2 fM_2 yM_2
    have yr := Below.refl w3.heap.size w3
    have I3 := Lib.hid i3
    clear i1 i2 i3
    go_wp2
    go_region_held3 (fun w' => w'.cell? ⟨w1.heap.size, 0, none⟩ = some (.slice L m d) ∧ w1.heap.size < w'.heap.size ∧ Below w.heap.size w w' ∧ Below w3.heap.size w3 w')
      (first | ((try go_split_ands); (try dsimp only); refine ⟨?_, ?_, ?_, ?_⟩ <;> first | (exact cell_call (by assumption) (by assumption) (by assumption)) | (exact lt_call (by assumption) (by assumption)) | (exact below_call' (by assumption) (by assumption)) | (exact Below.drew (by assumption)) | (with_reducible assumption) | assumption | (simp; done) | omega))
      (first
        | (have i3 := I3.out; go_at_call 14; refine (CV.out _ (by refine Ints.below i3 (Below.mono (?_ : Below w3.heap.size w3 _) (by omega)); first | assumption | exact (Below.drew (Below.refl _ _)).trans (by assumption) | exact Below.drew (by assumption) | exact Below.refl _ _ | exact Below.drew (Below.refl _ _) | exact below_drewN (by assumption) _) (by first | omega | (simp; done) | (simp; omega))).mono ?_; clear i3; rintro e w6 ⟨rfl, hb6⟩)
        | (have i3 := I3.out; go_at_call 12; refine (CU.out _ (by refine Ints.below i3 (Below.mono (?_ : Below w3.heap.size w3 _) (by omega)); first | assumption | exact (Below.drew (Below.refl _ _)).trans (by assumption) | exact Below.drew (by assumption) | exact Below.refl _ _ | exact Below.drew (Below.refl _ _) | exact below_drewN (by assumption) _) (by first | omega | (simp; done) | (simp; omega))).mono ?_; clear i3; rintro e w6 ⟨rfl, hb6⟩))
    go_split_ands
    all_goals
      have b7 : Below w3.heap.size w3 w6 := by assumption
      have xM0_7 : w6.cell? ⟨w1.heap.size, 0, none⟩ = some (.slice L m d) := by assumption
      have fM_7 : ∀ o, w6.frozen? ⟨w1.heap.size, o, none⟩ = false := fun o => fro_call b7 yM_3 (fM_3 o)
      have yM_7 : w1.heap.size < w6.heap.size := by assumption
      have B7 : Below w.heap.size w w6 := by assumption
      have zz7 := b7.size
      have i7 : Ints w6 w1.heap.size L m zs := Ints.below I3.out (b7.mono (by omega))
      clear hb6 yr b7 B3 I3 xM0_3 fM_3 yM_3
      generalize w6 = w7 at *
      go_wp2_with fail
      go_at_call 21
      refine (CB.out _ (by exact Ints.below (i7) (by (repeat (first | with_reducible exact Below.refl _ _ | with_reducible refine below_alloc ?_ _ | with_reducible refine below_drewN ?_ _ | with_reducible refine Below.drew ?_ | ((with_reducible refine below_set ?_ ?_ _); rotate_left; (focus (first | (simp; done) | (simp; omega) | omega))) | with_reducible refine below_call ?_ (by assumption))))) (by first | omega | (simp; done) | (simp; omega))).mono ?_
      rintro e w8 ⟨rfl, hb8⟩
      have b8 : Below w7.heap.size w7 w8 := hb8
      have xM0_8 : w8.cell? ⟨w1.heap.size, 0, none⟩ = some (.slice L m d) := cell_call b8 yM_7 xM0_7
      have fM_8 : ∀ o, w8.frozen? ⟨w1.heap.size, o, none⟩ = false := fun o => fro_call b8 yM_7 (fM_7 o)
      have yM_8 : w1.heap.size < w8.heap.size := lt_call b8 yM_7
      have B8 : Below w.heap.size w w8 := B7.trans (b8.mono B7.size)
      have zz8 := b8.size
      have i8 : Ints w8 w1.heap.size L m zs := i7.below (b8.mono (by omega))
      clear hb8 b8 B7 xM0_7 fM_7 yM_7
      go_wp2_with fail
      go_at_call 19
      refine (CE.out _ (by exact Ints.below (i8) (by (repeat (first | with_reducible exact Below.refl _ _ | with_reducible refine below_alloc ?_ _ | with_reducible refine below_drewN ?_ _ | with_reducible refine Below.drew ?_ | ((with_reducible refine below_set ?_ ?_ _); rotate_left; (focus (first | (simp; done) | (simp; omega) | omega))) | with_reducible refine below_call ?_ (by assumption))))) (by first | omega | (simp; done) | (simp; omega))).mono ?_
      rintro e w9 ⟨rfl, hb9⟩
      have b9 : Below w8.heap.size w8 w9 := hb9
      have xM0_9 : w9.cell? ⟨w1.heap.size, 0, none⟩ = some (.slice L m d) := cell_call b9 yM_8 xM0_8
      have fM_9 : ∀ o, w9.frozen? ⟨w1.heap.size, o, none⟩ = false := fun o => fro_call b9 yM_8 (fM_8 o)
      have yM_9 : w1.heap.size < w9.heap.size := lt_call b9 yM_8
      have B9 : Below w.heap.size w w9 := B8.trans (b9.mono B8.size)
      have zz9 := b9.size
      have i9 : Ints w9 w1.heap.size L m zs := i8.below (b9.mono (by omega))
      clear hb9 b9 B8 xM0_8 fM_8 yM_8
      go_wp2_with fail
      go_at_call 18
      refine (CR.out _ (by exact Ints.below (i9) (by (repeat (first | with_reducible exact Below.refl _ _ | with_reducible refine below_alloc ?_ _ | with_reducible refine below_drewN ?_ _ | with_reducible refine Below.drew ?_ | ((with_reducible refine below_set ?_ ?_ _); rotate_left; (focus (first | (simp; done) | (simp; omega) | omega))) | with_reducible refine below_call ?_ (by assumption))))) (by first | omega | (simp; done) | (simp; omega))).mono ?_
      rintro e w10 ⟨rfl, hb10⟩
      have b10 : Below w9.heap.size w9 w10 := hb10
      have xM0_10 : w10.cell? ⟨w1.heap.size, 0, none⟩ = some (.slice L m d) := cell_call b10 yM_9 xM0_9
      have fM_10 : ∀ o, w10.frozen? ⟨w1.heap.size, o, none⟩ = false := fun o => fro_call b10 yM_9 (fM_9 o)
      have yM_10 : w1.heap.size < w10.heap.size := lt_call b10 yM_9
      have B10 : Below w.heap.size w w10 := B9.trans (b10.mono B9.size)
      have zz10 := b10.size
      have i10 : Ints w10 w1.heap.size L m zs := i9.below (b10.mono (by omega))
      clear hb10 b10 B9 xM0_9 fM_9 yM_9
      obtain ⟨b, off, rfl, hbl, hc⟩ := i10.2 (by omega)
      have c0 : w10.cell? ⟨b, off + 0, none⟩ = some (.int .i64 z0) := by rw [HZ.out]; exact hc 0 (by omega)
      have HC := Lib.hid hc
      clear hc
      rw [Nat.add_zero] at c0
      go_wp2
      go_loopw [16, 17, 18] (fun s t u wr => ∃ k : Nat, s = .int .i64 (lowI zs z0 k) ∧ t = .int .i64 (highI zs z0 k) ∧ u = .int .i64 (k : Int) ∧ k ≤ m ∧ wr = w10) (fun _ _ u _ => m - (intOf u).toNat)
      case atStart => exact ⟨0, rfl, rfl, rfl, by omega, rfl⟩
      case round =>
        obtain ⟨k, rfl, rfl, rfl, hk, hw⟩ := hrel
        subst hw
        by_cases hlt : k < m
        · have ck := HC.out k hlt
          have hlt2 : (k : Int) < (m : Int) := by omega
          go_wp2
          go_roundw
          case rel => exact ⟨k + 1, by first | rfl | (simp only [lowI]; go_num), by first | rfl | (simp only [highI]; go_num), by go_num, by omega, by first | rfl | trivial⟩
          case measure => simp [intOf]; omega
        · have e : k = m := by omega
          subst e
          have hlo := HM.out.1
          have hhi := HM.out.2
          go_wp2_with fail
          go_at_call 19
          refine (CO.out _ (by exact Ints.below (i10) (by (repeat (first | with_reducible exact Below.refl _ _ | with_reducible refine below_alloc ?_ _ | with_reducible refine below_drewN ?_ _ | with_reducible refine Below.drew ?_ | ((with_reducible refine below_set ?_ ?_ _); rotate_left; (focus (first | (simp; done) | (simp; omega) | omega))) | with_reducible refine below_call ?_ (by assumption))))) (by first | omega | (simp; done) | (simp; omega))).mono ?_
          rintro e w11 ⟨rfl, hb11⟩
          have c11 := (hb11.cell (by first | omega | (simp; omega))).trans c0
          have xM0_11 := cell_call hb11 yM_10 xM0_10
          have B11 := B10.trans (hb11.mono B10.size)
          clear hb11 xM0_10 c0 B10
          go_wp2
          go_ret
          exact ⟨rfl, B11⟩

set_option maxRecDepth 100000 in
theorem lifted (os : Os) (started : os.Started) (H : Type) (enc : TypeId × Value → H) :
    ReturnsInHanded {} Try.checked os 9 .any (Rows.fnSolarTimesSpec.pre6 enc Try.prog Try.f9 Rows.fnSolarTimesRow.domain false) (Rows.fnSolarTimesSpec.post enc Try.prog Try.f9 false true false false) := by
  refine returnsInHanded_of_change (C := Try.checked) own started (by kernel_rfl) Try.func9
    (ChangeSpec.witness6 (enc := enc) (C := Try.checked) false ⟨#[], #[.slice none 0 0], []⟩ 8 (by kernel_rfl) (by kernel_rfl) (by kernel_rfl) (by kernel_rfl)) ?_
  intro W base args ds gs before hval0 hW hcnd _
  have hval : ∀ (j : Nat) t v, Try.f9.params[j]? = some t → args[j]? = some v → Value.okWide Try.prog W .any base t v := hval0
  have hW' := hW
  obtain ⟨p, q, hA0, hV, rfl, hfz, hnd⟩ := hW
  have hA : DataW.TrodAll enc Try.prog W 0 (fun _ => true) true Try.f9.params.toList args.toList ds p := hA0
  rw [Try.params9] at hA hval
  obtain ⟨v0, vs0, d0, ds0, p0, q0, hargs, rfl, rfl, h0, r0⟩ := trodAll_cons hA
  obtain ⟨rfl, rfl, rfl⟩ := trodAll_nil r0
  obtain rfl : args = #[v0] := by cases args; simp_all
  obtain ⟨rfl, rfl⟩ := trodVars_none hV
  have k0 := h0
  have lt0 : ∀ x ∈ p0, x.block < W.heap.size := by obtain ⟨m, hm⟩ := k0; exact DataW.trod_lt m _ _ _ hm
  obtain ⟨A0, l0, c0, rfl, R0⟩ := open_Bytes (hval 0 42 v0 rfl rfl) h0
  clear hA0 hval0
  refine (walk A0 l0 c0 W R0).mono fun e W' ⟨he, bel⟩ => ?_
  subst he
  exact ⟨_, rfl, _, _, _, [], _, [], hW', trodAll_mk1 (shut_bool Try.underlying4 _), (trodAll_cons_mk (Below.trod laidOut (by kernel_rfl) (of_decide_eq_true (by kernel_rfl)) k0 bel lt0) trodAll_mk0), rfl, bel.frame _, fun h => by cases h⟩
theorem over : Rows.fnSolarTimesRow.holds Try.pinned (OpenSpec.ofChange Rows.fnSolarTimesSpec) :=
  OpenClaim.holds_of_wide 9 Try.f9 rfl rfl rfl rfl rfl rfl rfl ⟨rfl, rfl, rfl, rfl, rfl⟩ rfl rfl rfl rfl rfl (by kernel_rfl) Try.func9 (by kernel_rfl)
    (of_decide_eq_true (by kernel_rfl)) (by unfold Func.isWrapper; first | (rw [if_pos (by decide +kernel)]; kernel_rfl) | (rw [if_neg (by decide +kernel)]; exact ⟨rfl, rfl⟩))
    (fun os started H enc _ => lifted os started H enc)
theorem proved : Rows.FnSolarTimesSaid := over
#print axioms proved
end Go.Proofs.Ytmmpbbhddhapmaa.fnSolarTimes
