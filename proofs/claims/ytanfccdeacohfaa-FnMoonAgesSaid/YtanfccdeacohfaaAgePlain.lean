/- The ages of the moon on two days that follow each other, in plain words; sums and comparisons of ratios. No conditions but that the moon work is valid. -/
import Derived.Test.YtanfccdeacohfaaAge
import Derived.Test.YtanfccdeacohfaaLun
import Derived.Test.YtanfccdeacohfaaNextMoon
namespace Go.Proofs.Ytanfccdeacohfaa
open Go.RowKit
set_option linter.unusedVariables false
set_option linter.unusedSimpArgs false
theorem red_parts {u v : Int} (hu : 0 ≤ u) (hv : 1 ≤ v) : redN u v = u / gI u v ∧ redD u v = v / gI u v := by
  have h1 : (u.natAbs : Int) = u := by omega
  have h2 : (v.natAbs : Int) = v := by omega
  constructor
  · unfold redN; rw [h1, if_pos (by simp; omega)]
  · unfold redD; rw [h2]
theorem redB_of {u v : Int} (hu : 0 ≤ u) (hv : 1 ≤ v) (h1 : u ≤ 1000000000) (h2 : v ≤ 1000000000) : redB u v = true := by
  have hg := gI_pos (n := u) (d := v) (by omega)
  have e1 : (u.natAbs : Int) = u := by omega
  have e2 : (v.natAbs : Int) = v := by omega
  have k1 := Int.ediv_le_self (gI u v) hu
  have k2 := Int.ediv_le_self (gI u v) (show 0 ≤ v by omega)
  unfold redB
  rw [e1, e2]
  simp; omega
theorem gI_scale {k u v : Int} (hk : 1 ≤ k) : gI (k * u) (k * v) = k * gI u v := by
  unfold gI
  rw [Int.gcd_mul_left]
  have : (k.natAbs : Int) = k := by omega
  rw [Int.natCast_mul, this]
theorem red_scale {k u v : Int} (hk : 1 ≤ k) (hu : 0 ≤ u) (hv : 1 ≤ v) : rN (k * u) (k * v) = rN u v ∧ rD (k * u) (k * v) = rD u v ∧ redB (k * u) (k * v) = redB u v := by
  have hg := gI_pos (n := u) (d := v) (by omega)
  have hku : 0 ≤ k * u := Int.mul_nonneg (by omega) hu
  have hkv : 1 ≤ k * v := by have := Int.mul_le_mul hk hv (by omega) (by omega : 0 ≤ k); omega
  have e1 : (k * u) / gI (k * u) (k * v) = u / gI u v := by rw [gI_scale hk]; exact Int.mul_ediv_mul_of_pos u (gI u v) (by omega)
  have e2 : (k * v) / gI (k * u) (k * v) = v / gI u v := by rw [gI_scale hk]; exact Int.mul_ediv_mul_of_pos v (gI u v) (by omega)
  have hB : redB (k * u) (k * v) = redB u v := by
    unfold redB
    rw [show ((k * u).natAbs : Int) = k * u by omega, show ((k * v).natAbs : Int) = k * v by omega, show (u.natAbs : Int) = u by omega, show (v.natAbs : Int) = v by omega, e1, e2]
  obtain ⟨p1, p2⟩ := red_parts hku hkv
  obtain ⟨q1, q2⟩ := red_parts hu hv
  unfold rN rD
  rw [hB, p1, p2, q1, q2, e1, e2]
  exact ⟨rfl, rfl, rfl⟩
/-- the parts of a reduced ratio of small numbers -/
theorem red_facts {u v : Int} (hu : 0 ≤ u) (hv : 1 ≤ v) (h1 : u ≤ 1000000000) (h2 : v ≤ 1000000000) :
    ∃ g : Int, 1 ≤ g ∧ u = rN u v * g ∧ v = rD u v * g ∧ Int.gcd (rN u v) (rD u v) = 1 ∧ 0 ≤ rN u v ∧ 1 ≤ rD u v ∧ rN u v ≤ 1000000000 ∧ rD u v ≤ 1000000000 ∧ rC u v = 0 := by
  have hg := gI_pos (n := u) (d := v) (by omega)
  have hB := redB_of hu hv h1 h2
  obtain ⟨q1, q2⟩ := red_parts hu hv
  have e1 : rN u v = u / gI u v := by unfold rN; rw [hB, q1]; rfl
  have e2 : rD u v = v / gI u v := by unfold rD; rw [hB, q2]; rfl
  have d1 : gI u v ∣ u := Int.gcd_dvd_left ..
  have d2 : gI u v ∣ v := Int.gcd_dvd_right ..
  have m1 : u / gI u v * gI u v = u := Int.ediv_mul_cancel d1
  have m2 : v / gI u v * gI u v = v := Int.ediv_mul_cancel d2
  have k1 := Int.ediv_le_self (gI u v) hu
  have k2 := Int.ediv_le_self (gI u v) (show 0 ≤ v by omega)
  have k3 := Int.ediv_nonneg hu (show 0 ≤ gI u v by omega)
  have k4 : 1 ≤ v / gI u v := by
    rcases Int.lt_or_le (v / gI u v) 1 with h | h
    · have := Int.ediv_nonneg (show 0 ≤ v by omega) (show 0 ≤ gI u v by omega)
      have h0 : v / gI u v = 0 := by omega
      rw [h0] at m2; omega
    · exact h
  rw [e1, e2]
  refine ⟨gI u v, by omega, m1.symm, m2.symm, ?_, k3, k4, by omega, by omega, rC_yes hB⟩
  have : 0 < Int.gcd u v := by unfold gI at hg; omega
  have := Int.gcd_ediv_gcd_ediv_gcd (i := u) (j := v) this
  unfold gI
  exact this
theorem red_same {u v : Int} (hu : 0 ≤ u) (hv : 1 ≤ v) (hg : Int.gcd u v = 1) : redN u v = u ∧ redD u v = v ∧ redB u v = (decide (u ≤ 1000000000) && decide (v ≤ 1000000000)) := by
  have h1 : gI u v = 1 := by unfold gI; omega
  obtain ⟨q1, q2⟩ := red_parts hu hv
  have e1 : (u.natAbs : Int) = u := by omega
  have e2 : (v.natAbs : Int) = v := by omega
  refine ⟨by rw [q1, h1, Int.ediv_one], by rw [q2, h1, Int.ediv_one], ?_⟩
  unfold redB
  rw [h1, Int.ediv_one, Int.ediv_one, e1, e2]
def ordI (n d n' d' : Int) : Int := if n * d' < n' * d then -1 else if n' * d < n * d' then 1 else 0
set_option maxHeartbeats 2000000 in
theorem order_any (n d n' d' : Int) (w : World) (hv : vRatio n d = true) (hv' : vRatio n' d' = true) :
    Calls Try.prog 77 #[.agg #[.int .i64 n, .int .i64 d], .agg #[.int .i64 n', .int .i64 d']] w fun e w' => e = .returned (.int .i64 (ordI n d n' d')) ∧ Below w.heap.size w w' := by
  obtain ⟨⟨a1, a2⟩, ⟨b1, b2⟩, c1, c2⟩ := sub_bd hv hv'
  have ho : ordI n d n' d' = if n * d' < n' * d then -1 else if n' * d < n * d' then 1 else 0 := rfl
  obtain ⟨X, hX⟩ : ∃ X, n * d' = X := ⟨_, rfl⟩
  obtain ⟨Y, hY⟩ : ∃ Y, n' * d = Y := ⟨_, rfl⟩
  have w1 : IntKind.i64.wrap (n * d') = X := by rw [hX]; exact IntWalk.i64_in _ (by omega)
  have w2 : IntKind.i64.wrap (n' * d) = Y := by rw [hY]; exact IntWalk.i64_in _ (by omega)
  have v1 : wrap64 (n * d') = X := by rw [hX] at a1 a2 ⊢; unfold wrap64; omega
  have v2 : wrap64 (n' * d) = Y := by rw [hY] at b1 b2 ⊢; unfold wrap64; omega
  rw [hX, hY] at ho
  clear hv hv' hX hY c1 c2 a1 a2 b1 b2
  by_cases h1 : X < Y
  · rw [if_pos h1] at ho
    have HO := Lib.hid ho
    clear ho
    go_enter Try.func77, Try.ntmps77
    go_wp2
    go_quiet (fail)
    go_wp2
    go_ret
    exact ⟨ret_int HO.out.symm, by (repeat (first | with_reducible exact Below.refl _ _ | with_reducible refine below_alloc ?_ _ | with_reducible refine below_drewN ?_ _ | with_reducible refine Below.drew ?_ | ((with_reducible refine below_set ?_ ?_ _); rotate_left; (focus (first | (simp; done) | (simp; omega) | omega))) | with_reducible refine below_call ?_ (by assumption)))⟩
  · rw [if_neg h1] at ho
    by_cases h2 : Y < X
    · rw [if_pos h2] at ho
      have HO := Lib.hid ho
      clear ho
      go_enter Try.func77, Try.ntmps77
      go_wp2
      go_quiet (fail)
      go_wp2
      go_ret
      exact ⟨ret_int HO.out.symm, by (repeat (first | with_reducible exact Below.refl _ _ | with_reducible refine below_alloc ?_ _ | with_reducible refine below_drewN ?_ _ | with_reducible refine Below.drew ?_ | ((with_reducible refine below_set ?_ ?_ _); rotate_left; (focus (first | (simp; done) | (simp; omega) | omega))) | with_reducible refine below_call ?_ (by assumption)))⟩
    · rw [if_neg h2] at ho
      have HO := Lib.hid ho
      clear ho
      go_enter Try.func77, Try.ntmps77
      go_wp2
      go_quiet (fail)
      go_wp2
      go_ret
      exact ⟨ret_int HO.out.symm, by (repeat (first | with_reducible exact Below.refl _ _ | with_reducible refine below_alloc ?_ _ | with_reducible refine below_drewN ?_ _ | with_reducible refine Below.drew ?_ | ((with_reducible refine below_set ?_ ?_ _); rotate_left; (focus (first | (simp; done) | (simp; omega) | omega))) | with_reducible refine below_call ?_ (by assumption)))⟩
set_option maxHeartbeats 2000000 in
theorem CompareRatio_any (n d n' d' : Int) (w : World) (hv : vRatio n d = true) (hv' : vRatio n' d' = true) :
    Calls Try.prog 45 #[.agg #[.int .i64 n, .int .i64 d], .agg #[.int .i64 n', .int .i64 d']] w fun e w' => e = .returned (.int .i64 (ordI n d n' d')) ∧ Below w.heap.size w w' := by
  have v1 := fun w => ValidRatio_any n d w
  have v2 := fun w => ValidRatio_any n' d' w
  rw [hv] at v1
  rw [hv'] at v2
  have cO := fun w => order_any n d n' d' w hv hv'
  generalize ordI n d n' d' = o at *
  have V1 := Lib.hid v1
  have V2 := Lib.hid v2
  have CO := Lib.hid cO
  clear v1 v2 cO hv hv'
  go_enter Try.func45, Try.ntmps45
  go_wp2_with fail
  refine (V1.out _).mono ?_
  rintro e w5 ⟨rfl, hb5⟩
  obtain ⟨hc5, hf5, hs5⟩ := bcell hb5
  (try (refine cut_ (p := w.heap.size < w5.heap.size) ?_ ?_; (focus (refine hs5 _ ?_; first | assumption | omega | (simp [go_sem]; done) | (simp [go_sem]; omega))); intro hl5a))
  (try (refine cut_ (p := w.heap.size + 1 < w5.heap.size) ?_ ?_; (focus (refine hs5 _ ?_; first | assumption | omega | (simp [go_sem]; done) | (simp [go_sem]; omega))); intro hl5b))
  (try (refine cut_ (p := w.heap.size + 1 + 1 < w5.heap.size) ?_ ?_; (focus (refine hs5 _ ?_; first | assumption | omega | (simp [go_sem]; done) | (simp [go_sem]; omega))); intro hl5c))
  go_wp2_with fail
  refine (V2.out _).mono ?_
  rintro e w6 ⟨rfl, hb6⟩
  obtain ⟨hc6, hf6, hs6⟩ := bcell hb6
  (try (refine cut_ (p := w.heap.size < w6.heap.size) ?_ ?_; (focus (refine hs6 _ ?_; first | assumption | omega | (simp [go_sem]; done) | (simp [go_sem]; omega))); intro hl6a))
  (try (refine cut_ (p := w.heap.size + 1 < w6.heap.size) ?_ ?_; (focus (refine hs6 _ ?_; first | assumption | omega | (simp [go_sem]; done) | (simp [go_sem]; omega))); intro hl6b))
  (try (refine cut_ (p := w.heap.size + 1 + 1 < w6.heap.size) ?_ ?_; (focus (refine hs6 _ ?_; first | assumption | omega | (simp [go_sem]; done) | (simp [go_sem]; omega))); intro hl6c))
  have g6 : w.heap.size + 1 < w6.heap.size := by first | assumption | omega | exact hs6 _ (hs5 _ (by simp [go_sem]))
  go_wp2_with fail
  refine (CO.out _).mono ?_
  rintro e w7 ⟨rfl, hb7⟩
  obtain ⟨hc7, hf7, hs7⟩ := bcell hb7
  (try (refine cut_ (p := w.heap.size < w7.heap.size) ?_ ?_; (focus (refine hs7 _ ?_; first | assumption | omega | (simp [go_sem]; done) | (simp [go_sem]; omega))); intro hl7a))
  (try (refine cut_ (p := w.heap.size + 1 < w7.heap.size) ?_ ?_; (focus (refine hs7 _ ?_; first | assumption | omega | (simp [go_sem]; done) | (simp [go_sem]; omega))); intro hl7b))
  (try (refine cut_ (p := w.heap.size + 1 + 1 < w7.heap.size) ?_ ?_; (focus (refine hs7 _ ?_; first | assumption | omega | (simp [go_sem]; done) | (simp [go_sem]; omega))); intro hl7c))
  go_wp2
  go_ret
  exact ⟨rfl, by (repeat (first | with_reducible exact Below.refl _ _ | with_reducible refine below_alloc ?_ _ | with_reducible refine below_drewN ?_ _ | with_reducible refine Below.drew ?_ | ((with_reducible refine below_set ?_ ?_ _); rotate_left; (focus (first | (simp; done) | (simp; omega) | omega))) | with_reducible refine below_call ?_ (by assumption)))⟩
set_option maxHeartbeats 2000000 in
theorem AddRatio_any (n d n' d' : Int) (w : World) (hv : vRatio n d = true) (hv' : vRatio n' d' = true) :
    Calls Try.prog 44 #[.agg #[.int .i64 n, .int .i64 d], .agg #[.int .i64 n', .int .i64 d']] w fun e w' => e = .returned (.tuple #[.agg #[.int .i64 (rN (n * d' + n' * d) (d * d')), .int .i64 (rD (n * d' + n' * d) (d * d'))], .int .i64 (rC (n * d' + n' * d) (d * d'))]) ∧ Below w.heap.size w w' := by
  obtain ⟨⟨a1, a2⟩, ⟨b1, b2⟩, c1, c2⟩ := sub_bd hv hv'
  have v1 := fun w => ValidRatio_any n d w
  have v2 := fun w => ValidRatio_any n' d' w
  rw [hv] at v1
  rw [hv'] at v2
  have hr := fun w => MakeRatio_any (n * d' + n' * d) (d * d') w (by omega) (by omega) (by omega) (by omega) (by omega)
  have w1 : IntKind.i64.wrap (n * d') = n * d' := IntWalk.i64_in _ (by omega)
  have w2 : IntKind.i64.wrap (n' * d) = n' * d := IntWalk.i64_in _ (by omega)
  have w3 : IntKind.i64.wrap (d * d') = d * d' := IntWalk.i64_in _ (by omega)
  have w4 : IntKind.i64.wrap (n * d' + n' * d) = n * d' + n' * d := IntWalk.i64_in _ (by omega)
  generalize rN (n * d' + n' * d) (d * d') = rn at *
  generalize rD (n * d' + n' * d) (d * d') = rd at *
  generalize rC (n * d' + n' * d) (d * d') = rc at *
  have V1 := Lib.hid v1
  have V2 := Lib.hid v2
  have HR := Lib.hid hr
  clear v1 v2 hr hv hv'
  go_enter Try.func44, Try.ntmps44
  go_wp2_with fail
  refine (V1.out _).mono ?_
  rintro e w5 ⟨rfl, hb5⟩
  obtain ⟨hc5, hf5, hs5⟩ := bcell hb5
  (try (refine cut_ (p := w.heap.size < w5.heap.size) ?_ ?_; (focus (refine hs5 _ ?_; first | assumption | omega | (simp [go_sem]; done) | (simp [go_sem]; omega))); intro hl5a))
  (try (refine cut_ (p := w.heap.size + 1 < w5.heap.size) ?_ ?_; (focus (refine hs5 _ ?_; first | assumption | omega | (simp [go_sem]; done) | (simp [go_sem]; omega))); intro hl5b))
  (try (refine cut_ (p := w.heap.size + 1 + 1 < w5.heap.size) ?_ ?_; (focus (refine hs5 _ ?_; first | assumption | omega | (simp [go_sem]; done) | (simp [go_sem]; omega))); intro hl5c))
  go_wp2_with fail
  refine (V2.out _).mono ?_
  rintro e w6 ⟨rfl, hb6⟩
  obtain ⟨hc6, hf6, hs6⟩ := bcell hb6
  (try (refine cut_ (p := w.heap.size < w6.heap.size) ?_ ?_; (focus (refine hs6 _ ?_; first | assumption | omega | (simp [go_sem]; done) | (simp [go_sem]; omega))); intro hl6a))
  (try (refine cut_ (p := w.heap.size + 1 < w6.heap.size) ?_ ?_; (focus (refine hs6 _ ?_; first | assumption | omega | (simp [go_sem]; done) | (simp [go_sem]; omega))); intro hl6b))
  (try (refine cut_ (p := w.heap.size + 1 + 1 < w6.heap.size) ?_ ?_; (focus (refine hs6 _ ?_; first | assumption | omega | (simp [go_sem]; done) | (simp [go_sem]; omega))); intro hl6c))
  have g6 : w.heap.size + 1 < w6.heap.size := by first | assumption | omega | exact hs6 _ (hs5 _ (by simp [go_sem]))
  have g7 : w.heap.size + 1 + 1 < w6.heap.size := by first | assumption | omega | exact hs6 _ (hs5 _ (by simp [go_sem]))
  go_wp2_with fail
  refine (HR.out _).mono ?_
  rintro e w7 ⟨rfl, hb7⟩
  obtain ⟨hc7, hf7, hs7⟩ := bcell hb7
  (try (refine cut_ (p := w.heap.size < w7.heap.size) ?_ ?_; (focus (refine hs7 _ ?_; first | assumption | omega | (simp [go_sem]; done) | (simp [go_sem]; omega))); intro hl7a))
  (try (refine cut_ (p := w.heap.size + 1 < w7.heap.size) ?_ ?_; (focus (refine hs7 _ ?_; first | assumption | omega | (simp [go_sem]; done) | (simp [go_sem]; omega))); intro hl7b))
  (try (refine cut_ (p := w.heap.size + 1 + 1 < w7.heap.size) ?_ ?_; (focus (refine hs7 _ ?_; first | assumption | omega | (simp [go_sem]; done) | (simp [go_sem]; omega))); intro hl7c))
  have r0 : w7.cell? ⟨w.heap.size + 1 + 1, 0, none⟩ = some (.int .i64 0) := by simp [go_sem, hc7, hc6, hc5, *]
  have r1 : w7.cell? ⟨w.heap.size + 1 + 1, 1, none⟩ = some (.int .i64 0) := by simp [go_sem, hc7, hc6, hc5, *]
  have r2 : w7.frozen? ⟨w.heap.size + 1 + 1, 0, none⟩ = false := by simp [go_sem, hf7, hf6, hf5, *]
  have r3 : w7.frozen? ⟨w.heap.size + 1 + 1, 1, none⟩ = false := by simp [go_sem, hf7, hf6, hf5, *]
  go_wp2
  refine bodyPost_ret (v := .tuple #[.agg #[.int .i64 rn, .int .i64 rd], .int .i64 rc]) ?_ rfl ⟨rfl, ?_⟩
  · simp [results, Try.results44, go_sem, r0, r1]
  · (repeat (first | with_reducible exact Below.refl _ _ | with_reducible refine below_alloc ?_ _ | with_reducible refine below_drewN ?_ _ | with_reducible refine Below.drew ?_ | ((with_reducible refine below_set ?_ ?_ _); rotate_left; (focus (first | (simp; done) | (simp; omega) | omega))) | with_reducible refine below_call ?_ (by assumption)))
theorem vRatio_mk {n d : Int} (h1 : 1 ≤ d) (h2 : d ≤ 1000000000) (h3 : -1000000000 ≤ n) (h4 : n ≤ 1000000000) (h5 : Int.gcd n d = 1) : vRatio n d = true := by
  unfold vRatio
  rw [inB_mk h1 h2, inB_mk h3 h4]
  simp [h5]
/-- what the ages of two days have to do with each other: x: the age as a ratio; y: the next day's -/
theorem ages_next {p d z day : Int} (hv : vMoon p d z = true) (x y u v : Int) (hx : x = rN (ageI p d z day) d) (hy : y = rD (ageI p d z day) d) (hu : u = rN (ageI p d z (day + 1)) d) (hv2 : v = rD (ageI p d z (day + 1)) d) :
    vRatio x y = true ∧ vRatio p d = true ∧ 0 ≤ x ∧ x ≤ 1000000000 ∧ 1 ≤ y ∧ y ≤ 1000000000 ∧ ordI x y p d = -1 ∧ rC (ageI p d z day) d = 0 ∧ rC (ageI p d z (day + 1)) d = 0 ∧
    ((1000000000 < x + y ∧ rC (x * 1 + 1 * y) (y * 1) = 2) ∨
     (rC (x * 1 + 1 * y) (y * 1) = 0 ∧ rN (x * 1 + 1 * y) (y * 1) = x + y ∧ rD (x * 1 + 1 * y) (y * 1) = y ∧ vRatio (x + y) y = true ∧
       ((ordI (x + y) y p d = -1 ∧ u = x + y ∧ v = y) ∨
        (0 ≤ ordI (x + y) y p d ∧ rN (dN (x + y) y p d) (y * d) = u ∧ rD (dN (x + y) y p d) (y * d) = v ∧ rC (dN (x + y) y p d) (y * d) = 0)))) := by
  have hm := vMoon_yes hv
  have ha := ageI_bd (day := day) hv
  have hb := ageI_bd (day := day + 1) hv
  have hs := age_step (x := day) hv
  obtain ⟨g, g1, e1, e2, e3, e4, e5, e6, e7, e8⟩ := red_facts (u := ageI p d z day) (v := d) ha.1 (by omega) (by omega) (by omega)
  obtain ⟨_, _, _, _, _, _, _, _, _, f8⟩ := red_facts (u := ageI p d z (day + 1)) (v := d) hb.1 (by omega) (by omega) (by omega)
  rw [← hx] at e1 e3 e4 e6
  rw [← hy] at e2 e3 e5 e7
  have hvr : vRatio p d = true := by simp only [vMoon, Bool.and_eq_true] at hv; exact hv.1
  have hvx : vRatio x y = true := vRatio_mk e5 e7 (by omega) e6 e3
  have hmul : ∀ a b : Int, a = x * g → b = y * g → x * b = a * y := by
    rintro _ _ rfl rfl
    rw [Int.mul_assoc x g y, Int.mul_comm g y]
  have hxd : x * d = ageI p d z day * y := hmul _ _ e1 e2
  have hcmp : x * d < p * y := by rw [hxd]; exact Int.mul_lt_mul_of_pos_right ha.2 (by omega)
  refine ⟨hvx, hvr, e4, e6, e5, e7, by unfold ordI; rw [if_pos hcmp], e8, f8, ?_⟩
  have q1 : x * 1 + 1 * y = x + y := by omega
  have q2 : y * 1 = y := by omega
  rw [q1, q2]
  have hg : Int.gcd (x + y) y = 1 := by rw [← e3]; exact Int.gcd_add_right_left_of_dvd x (Int.dvd_refl y)
  obtain ⟨r1, r2, r3⟩ := red_same (u := x + y) (v := y) (by omega) e5 hg
  by_cases hbig : 1000000000 < x + y
  · left
    refine ⟨hbig, rC_no ?_⟩
    rw [r3]; simp; omega
  · right
    have hB : redB (x + y) y = true := by rw [r3]; simp; omega
    have hvs : vRatio (x + y) y = true := vRatio_mk e5 e7 (by omega) (by omega) hg
    refine ⟨rC_yes hB, by unfold rN; rw [hB, r1]; rfl, by unfold rD; rw [hB, r2]; rfl, hvs, ?_⟩
    have hsd : (x + y) * d = (ageI p d z day + d) * y := by
      rw [Int.add_mul, Int.add_mul, hxd, Int.mul_comm y d]
    by_cases hlt : ageI p d z day + d < p
    · left
      rw [if_pos hlt] at hs
      have hc : (x + y) * d < p * y := by rw [hsd]; exact Int.mul_lt_mul_of_pos_right hlt (by omega)
      have ead : ageI p d z (day + 1) = g * (x + y) := by rw [hs, Int.mul_add, Int.mul_comm g x, Int.mul_comm g y, ← e1, ← e2]
      have ed : d = g * y := by rw [Int.mul_comm]; exact e2
      have hsc := red_scale (k := g) (u := x + y) (v := y) g1 (by omega) e5
      refine ⟨by unfold ordI; rw [if_pos hc], ?_, ?_⟩
      · rw [hu, ead]
        have h0 : rN (g * (x + y)) d = rN (g * (x + y)) (g * y) := by rw [← ed]
        rw [h0, hsc.1]; unfold rN; rw [hB, r1]; rfl
      · rw [hv2, ead]
        have h0 : rD (g * (x + y)) d = rD (g * (x + y)) (g * y) := by rw [← ed]
        rw [h0, hsc.2.1]; unfold rD; rw [hB, r2]; rfl
    · right
      rw [if_neg hlt] at hs
      have hc : ¬ (x + y) * d < p * y := by rw [hsd]; have := Int.mul_le_mul_of_nonneg_right (show p ≤ ageI p d z day + d by omega) (show 0 ≤ y by omega); omega
      have edn : dN (x + y) y p d = y * ageI p d z (day + 1) := by
        unfold dN
        rw [hsd, hs, ← Int.sub_mul, Int.mul_comm]
      have hsc := red_scale (k := y) (u := ageI p d z (day + 1)) (v := d) e5 hb.1 (by omega)
      rw [edn]
      refine ⟨?_, by rw [hsc.1, hu], by rw [hsc.2.1, hv2], ?_⟩
      · unfold ordI; rw [if_neg hc]; split <;> omega
      · unfold rC; rw [hsc.2.2]; exact f8
end Go.Proofs.Ytanfccdeacohfaa
