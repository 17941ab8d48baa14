/- Contracts of l02Add and of the two functions LunationsApart. No conditions. -/
import Derived.Test.YtanfccdeacohfaaLun
namespace Go.Proofs.Ytanfccdeacohfaa
open Go.RowKit
set_option linter.unusedVariables false
set_option linter.unusedSimpArgs false
set_option maxHeartbeats 2000000 in
theorem l02Add_any (n d n' d' : Int) (w : World) (hv : vRatio n d = true) (hv' : vRatio n' d' = true) :
    Calls Try.prog 65 #[.agg #[.int .i64 n, .int .i64 d], .agg #[.int .i64 (-n'), .int .i64 d']] w fun e w' => e = .returned (.tuple #[.agg #[.int .i64 (rN (dN n d n' d') (d * d')), .int .i64 (rD (dN n d n' d') (d * d'))], .bool (redB (dN n d n' d') (d * d'))]) ∧ Below w.heap.size w w' := by
  obtain ⟨⟨a1, a2⟩, ⟨b1, b2⟩, c1, c2⟩ := sub_bd hv hv'
  have e0 : -n' * d = -(n' * d) := Int.neg_mul _ _
  have hr := fun w => l02Make_any (dN n d n' d') (d * d') w (by unfold dN; omega) (by unfold dN; omega) (by omega) (by omega) (by omega)
  have w1 : IntKind.i64.wrap (n * d') = n * d' := IntWalk.i64_in _ (by omega)
  have w2 : IntKind.i64.wrap (-n' * d) = -n' * d := IntWalk.i64_in _ (by omega)
  have w3 : IntKind.i64.wrap (d * d') = d * d' := IntWalk.i64_in _ (by omega)
  have w4 : IntKind.i64.wrap (n * d' + -n' * d) = dN n d n' d' := by rw [IntWalk.i64_in _ (by omega)]; unfold dN; omega
  generalize rN (dN n d n' d') (d * d') = rn at *
  generalize rD (dN n d n' d') (d * d') = rd at *
  generalize redB (dN n d n' d') (d * d') = rc at *
  have HR := Lib.hid hr
  clear hr hv hv'
  go_enter Try.func65, Try.ntmps65
  go_wp2_with fail
  refine (HR.out _).mono ?_
  rintro e w7 ⟨rfl, hb7⟩
  obtain ⟨hc7, hf7, hs7⟩ := bcell hb7
  (try (refine cut_ (p := w.heap.size < w7.heap.size) ?_ ?_; (focus (refine hs7 _ ?_; first | assumption | omega | (simp [go_sem]; done) | (simp [go_sem]; omega))); intro hl7a))
  (try (refine cut_ (p := w.heap.size + 1 < w7.heap.size) ?_ ?_; (focus (refine hs7 _ ?_; first | assumption | omega | (simp [go_sem]; done) | (simp [go_sem]; omega))); intro hl7b))
  (try (refine cut_ (p := w.heap.size + 1 + 1 < w7.heap.size) ?_ ?_; (focus (refine hs7 _ ?_; first | assumption | omega | (simp [go_sem]; done) | (simp [go_sem]; omega))); intro hl7c))
  have r0 : w7.cell? ⟨w.heap.size + 1 + 1, 0, none⟩ = some (.int .i64 0) := by simp [go_sem, hc7, *]
  have r1 : w7.cell? ⟨w.heap.size + 1 + 1, 1, none⟩ = some (.int .i64 0) := by simp [go_sem, hc7, *]
  have r2 : w7.frozen? ⟨w.heap.size + 1 + 1, 0, none⟩ = false := by simp [go_sem, hf7, *]
  have r3 : w7.frozen? ⟨w.heap.size + 1 + 1, 1, none⟩ = false := by simp [go_sem, hf7, *]
  go_wp2
  refine bodyPost_ret (v := .tuple #[.agg #[.int .i64 rn, .int .i64 rd], .bool rc]) ?_ rfl ⟨rfl, ?_⟩
  · simp [results, Try.results65, go_sem, r0, r1]
  · (repeat (first | with_reducible exact Below.refl _ _ | with_reducible refine below_alloc ?_ _ | with_reducible refine below_drewN ?_ _ | with_reducible refine Below.drew ?_ | ((with_reducible refine below_set ?_ ?_ _); rotate_left; (focus (first | (simp; done) | (simp; omega) | omega))) | with_reducible refine below_call ?_ (by assumption)))
set_option maxHeartbeats 4000000 in
theorem LunationsApart_any (n d n' d' : Int) (w : World) :
    Calls Try.prog 33 #[.agg #[.int .i64 n, .int .i64 d], .agg #[.int .i64 n', .int .i64 d']] w fun e w' => e = .returned (lunT n d n' d') ∧ Below w.heap.size w w' := by
  have v1 := fun w => ValidRatio_any n d w
  have v2 := fun w => ValidRatio_any n' d' w
  cases h1 : vRatio n d
  · rw [lun_bad (by rw [h1]; rfl)]
    rw [h1] at v1
    have V1 := Lib.hid v1
    clear v1 v2
    go_enter Try.func33, Try.ntmps33
    go_wp2_with fail
    refine (V1.out _).mono ?_
    rintro e w5 ⟨rfl, hb5⟩
    obtain ⟨hc5, hf5, hs5⟩ := bcell hb5
    (try (refine cut_ (p := w.heap.size < w5.heap.size) ?_ ?_; (focus (refine hs5 _ ?_; first | assumption | omega | (simp [go_sem]; done) | (simp [go_sem]; omega))); intro hl5a))
    (try (refine cut_ (p := w.heap.size + 1 < w5.heap.size) ?_ ?_; (focus (refine hs5 _ ?_; first | assumption | omega | (simp [go_sem]; done) | (simp [go_sem]; omega))); intro hl5b))
    (try (refine cut_ (p := w.heap.size + 1 + 1 < w5.heap.size) ?_ ?_; (focus (refine hs5 _ ?_; first | assumption | omega | (simp [go_sem]; done) | (simp [go_sem]; omega))); intro hl5c))
    go_wp2
    go_ret2
    exact ⟨rfl, by (repeat (first | with_reducible exact Below.refl _ _ | with_reducible refine below_alloc ?_ _ | with_reducible refine below_drewN ?_ _ | with_reducible refine Below.drew ?_ | ((with_reducible refine below_set ?_ ?_ _); rotate_left; (focus (first | (simp; done) | (simp; omega) | omega))) | with_reducible refine below_call ?_ (by assumption)))⟩
  · rw [h1] at v1
    have V1 := Lib.hid v1
    clear v1
    cases h2 : vRatio n' d'
    · rw [lun_bad (by rw [h1, h2]; rfl)]
      rw [h2] at v2
      have V2 := Lib.hid v2
      clear v2
      go_enter Try.func33, Try.ntmps33
      go_wp2_with fail
      refine (V1.out _).mono ?_
      rintro e w5 ⟨rfl, hb5⟩
      obtain ⟨hc5, hf5, hs5⟩ := bcell hb5
      (try (refine cut_ (p := w.heap.size < w5.heap.size) ?_ ?_; (focus (refine hs5 _ ?_; first | assumption | omega | (simp [go_sem]; done) | (simp [go_sem]; omega))); intro hl5a))
      (try (refine cut_ (p := w.heap.size + 1 < w5.heap.size) ?_ ?_; (focus (refine hs5 _ ?_; first | assumption | omega | (simp [go_sem]; done) | (simp [go_sem]; omega))); intro hl5b))
      (try (refine cut_ (p := w.heap.size + 1 + 1 < w5.heap.size) ?_ ?_; (focus (refine hs5 _ ?_; first | assumption | omega | (simp [go_sem]; done) | (simp [go_sem]; omega))); intro hl5c))
      go_wp2_with fail
      refine (V2.out _).mono ?_
      rintro e w6 ⟨rfl, hb6⟩
      obtain ⟨hc6, hf6, hs6⟩ := bcell hb6
      (try (refine cut_ (p := w.heap.size < w6.heap.size) ?_ ?_; (focus (refine hs6 _ ?_; first | assumption | omega | (simp [go_sem]; done) | (simp [go_sem]; omega))); intro hl6a))
      (try (refine cut_ (p := w.heap.size + 1 < w6.heap.size) ?_ ?_; (focus (refine hs6 _ ?_; first | assumption | omega | (simp [go_sem]; done) | (simp [go_sem]; omega))); intro hl6b))
      (try (refine cut_ (p := w.heap.size + 1 + 1 < w6.heap.size) ?_ ?_; (focus (refine hs6 _ ?_; first | assumption | omega | (simp [go_sem]; done) | (simp [go_sem]; omega))); intro hl6c))
      go_wp2
      go_ret2
      exact ⟨rfl, by (repeat (first | with_reducible exact Below.refl _ _ | with_reducible refine below_alloc ?_ _ | with_reducible refine below_drewN ?_ _ | with_reducible refine Below.drew ?_ | ((with_reducible refine below_set ?_ ?_ _); rotate_left; (focus (first | (simp; done) | (simp; omega) | omega))) | with_reducible refine below_call ?_ (by assumption)))⟩
    · rw [h2] at v2
      have V2 := Lib.hid v2
      clear v2
      have hvv : (vRatio n d && vRatio n' d') = true := by rw [h1, h2]; rfl
      by_cases he : n = n' ∧ d = d'
      · rw [lun_eq hvv he]
        obtain ⟨rfl, rfl⟩ := he
        go_enter Try.func33, Try.ntmps33
        go_wp2_with fail
        refine (V1.out _).mono ?_
        rintro e w5 ⟨rfl, hb5⟩
        obtain ⟨hc5, hf5, hs5⟩ := bcell hb5
        (try (refine cut_ (p := w.heap.size < w5.heap.size) ?_ ?_; (focus (refine hs5 _ ?_; first | assumption | omega | (simp [go_sem]; done) | (simp [go_sem]; omega))); intro hl5a))
        (try (refine cut_ (p := w.heap.size + 1 < w5.heap.size) ?_ ?_; (focus (refine hs5 _ ?_; first | assumption | omega | (simp [go_sem]; done) | (simp [go_sem]; omega))); intro hl5b))
        (try (refine cut_ (p := w.heap.size + 1 + 1 < w5.heap.size) ?_ ?_; (focus (refine hs5 _ ?_; first | assumption | omega | (simp [go_sem]; done) | (simp [go_sem]; omega))); intro hl5c))
        go_wp2_with fail
        refine (V2.out _).mono ?_
        rintro e w6 ⟨rfl, hb6⟩
        obtain ⟨hc6, hf6, hs6⟩ := bcell hb6
        (try (refine cut_ (p := w.heap.size < w6.heap.size) ?_ ?_; (focus (refine hs6 _ ?_; first | assumption | omega | (simp [go_sem]; done) | (simp [go_sem]; omega))); intro hl6a))
        (try (refine cut_ (p := w.heap.size + 1 < w6.heap.size) ?_ ?_; (focus (refine hs6 _ ?_; first | assumption | omega | (simp [go_sem]; done) | (simp [go_sem]; omega))); intro hl6b))
        (try (refine cut_ (p := w.heap.size + 1 + 1 < w6.heap.size) ?_ ?_; (focus (refine hs6 _ ?_; first | assumption | omega | (simp [go_sem]; done) | (simp [go_sem]; omega))); intro hl6c))
        have g6 : w.heap.size + 1 < w6.heap.size := by first | assumption | omega | exact hs6 _ (hs5 _ (by simp [go_sem]))
        go_wp2
        go_ret2
        exact ⟨rfl, by (repeat (first | with_reducible exact Below.refl _ _ | with_reducible refine below_alloc ?_ _ | with_reducible refine below_drewN ?_ _ | with_reducible refine Below.drew ?_ | ((with_reducible refine below_set ?_ ?_ _); rotate_left; (focus (first | (simp; done) | (simp; omega) | omega))) | with_reducible refine below_call ?_ (by assumption)))⟩
      · have hx : dN n d n' d' ≠ 0 := fun h => he (ratio_same h1 h2 h)
        have hs := fun w => SubRatio_any n d n' d' w h1 h2
        have hy := (sub_bd h1 h2).2.2.1
        have hbd := @redB_bd (dN n d n' d') (d * d') hx hy
        have hf := @lun_far n d n' d' hvv he
        have hok := @lun_ok n d n' d' hvv he
        obtain ⟨D, hD⟩ : ∃ D, dN n d n' d' = D := ⟨_, rfl⟩
        obtain ⟨E, hE⟩ : ∃ E, d * d' = E := ⟨_, rfl⟩
        rw [hD, hE] at hs hbd hf hok
        have hcase : (n = n' ∧ (d == d') = false ∧ ¬ d = d') ∨ ((n == n') = false ∧ ¬ n = n') := by
          by_cases e : n = n'
          · exact .inl ⟨e, by simpa using fun h => he ⟨e, h⟩, fun h => he ⟨e, h⟩⟩
          · exact .inr ⟨by simpa using e, e⟩
        clear he
        cases hb : redB D E
        · rw [hf hb]
          simp only [rC_no hb] at hs
          have HS := Lib.hid hs
          clear hs hf hok hbd hD hE hx hy
          rcases hcase with ⟨rfl, e1, e2⟩ | ⟨e1, e2⟩
          all_goals
            go_enter Try.func33, Try.ntmps33
            go_wp2_with fail
            refine (V1.out _).mono ?_
            rintro e w5 ⟨rfl, hb5⟩
            obtain ⟨hc5, hf5, hs5⟩ := bcell hb5
            (try (refine cut_ (p := w.heap.size < w5.heap.size) ?_ ?_; (focus (refine hs5 _ ?_; first | assumption | omega | (simp [go_sem]; done) | (simp [go_sem]; omega))); intro hl5a))
            (try (refine cut_ (p := w.heap.size + 1 < w5.heap.size) ?_ ?_; (focus (refine hs5 _ ?_; first | assumption | omega | (simp [go_sem]; done) | (simp [go_sem]; omega))); intro hl5b))
            (try (refine cut_ (p := w.heap.size + 1 + 1 < w5.heap.size) ?_ ?_; (focus (refine hs5 _ ?_; first | assumption | omega | (simp [go_sem]; done) | (simp [go_sem]; omega))); intro hl5c))
            go_wp2_with fail
            refine (V2.out _).mono ?_
            rintro e w6 ⟨rfl, hb6⟩
            obtain ⟨hc6, hf6, hs6⟩ := bcell hb6
            (try (refine cut_ (p := w.heap.size < w6.heap.size) ?_ ?_; (focus (refine hs6 _ ?_; first | assumption | omega | (simp [go_sem]; done) | (simp [go_sem]; omega))); intro hl6a))
            (try (refine cut_ (p := w.heap.size + 1 < w6.heap.size) ?_ ?_; (focus (refine hs6 _ ?_; first | assumption | omega | (simp [go_sem]; done) | (simp [go_sem]; omega))); intro hl6b))
            (try (refine cut_ (p := w.heap.size + 1 + 1 < w6.heap.size) ?_ ?_; (focus (refine hs6 _ ?_; first | assumption | omega | (simp [go_sem]; done) | (simp [go_sem]; omega))); intro hl6c))
            have g6 : w.heap.size + 1 < w6.heap.size := by first | assumption | omega | exact hs6 _ (hs5 _ (by simp [go_sem]))
            go_wp2_with fail
            go_at_call 38
            refine (HS.out _).mono ?_
            rintro e w7 ⟨rfl, hb7⟩
            obtain ⟨hc7, hf7, hs7⟩ := bcell hb7
            (try (refine cut_ (p := w.heap.size < w7.heap.size) ?_ ?_; (focus (refine hs7 _ ?_; first | assumption | omega | (simp [go_sem]; done) | (simp [go_sem]; omega))); intro hl7a))
            (try (refine cut_ (p := w.heap.size + 1 < w7.heap.size) ?_ ?_; (focus (refine hs7 _ ?_; first | assumption | omega | (simp [go_sem]; done) | (simp [go_sem]; omega))); intro hl7b))
            (try (refine cut_ (p := w.heap.size + 1 + 1 < w7.heap.size) ?_ ?_; (focus (refine hs7 _ ?_; first | assumption | omega | (simp [go_sem]; done) | (simp [go_sem]; omega))); intro hl7c))
            go_wp2
            go_ret2
            exact ⟨rfl, by (repeat (first | with_reducible exact Below.refl _ _ | with_reducible refine below_alloc ?_ _ | with_reducible refine below_drewN ?_ _ | with_reducible refine Below.drew ?_ | ((with_reducible refine below_set ?_ ?_ _); rotate_left; (focus (first | (simp; done) | (simp; omega) | omega))) | with_reducible refine below_call ?_ (by assumption)))⟩
        · rw [hok hb]
          simp only [rC_yes hb] at hs
          obtain ⟨b1, b2, b3, b4, b5⟩ := hbd hb
          generalize rN D E = rn at *
          generalize rD D E = rd at *
          have HS := Lib.hid hs
          clear hs hf hok hbd hD hE hx hy
          rcases hcase with ⟨rfl, e1, e2⟩ | ⟨e1, e2⟩
          all_goals
            go_enter Try.func33, Try.ntmps33
            go_wp2_with fail
            refine (V1.out _).mono ?_
            rintro e w5 ⟨rfl, hb5⟩
            obtain ⟨hc5, hf5, hs5⟩ := bcell hb5
            (try (refine cut_ (p := w.heap.size < w5.heap.size) ?_ ?_; (focus (refine hs5 _ ?_; first | assumption | omega | (simp [go_sem]; done) | (simp [go_sem]; omega))); intro hl5a))
            (try (refine cut_ (p := w.heap.size + 1 < w5.heap.size) ?_ ?_; (focus (refine hs5 _ ?_; first | assumption | omega | (simp [go_sem]; done) | (simp [go_sem]; omega))); intro hl5b))
            (try (refine cut_ (p := w.heap.size + 1 + 1 < w5.heap.size) ?_ ?_; (focus (refine hs5 _ ?_; first | assumption | omega | (simp [go_sem]; done) | (simp [go_sem]; omega))); intro hl5c))
            go_wp2_with fail
            refine (V2.out _).mono ?_
            rintro e w6 ⟨rfl, hb6⟩
            obtain ⟨hc6, hf6, hs6⟩ := bcell hb6
            (try (refine cut_ (p := w.heap.size < w6.heap.size) ?_ ?_; (focus (refine hs6 _ ?_; first | assumption | omega | (simp [go_sem]; done) | (simp [go_sem]; omega))); intro hl6a))
            (try (refine cut_ (p := w.heap.size + 1 < w6.heap.size) ?_ ?_; (focus (refine hs6 _ ?_; first | assumption | omega | (simp [go_sem]; done) | (simp [go_sem]; omega))); intro hl6b))
            (try (refine cut_ (p := w.heap.size + 1 + 1 < w6.heap.size) ?_ ?_; (focus (refine hs6 _ ?_; first | assumption | omega | (simp [go_sem]; done) | (simp [go_sem]; omega))); intro hl6c))
            have g6 : w.heap.size + 1 < w6.heap.size := by first | assumption | omega | exact hs6 _ (hs5 _ (by simp [go_sem]))
            go_wp2_with fail
            go_at_call 38
            refine (HS.out _).mono ?_
            rintro e w7 ⟨rfl, hb7⟩
            obtain ⟨hc7, hf7, hs7⟩ := bcell hb7
            (try (refine cut_ (p := w.heap.size < w7.heap.size) ?_ ?_; (focus (refine hs7 _ ?_; first | assumption | omega | (simp [go_sem]; done) | (simp [go_sem]; omega))); intro hl7a))
            (try (refine cut_ (p := w.heap.size + 1 < w7.heap.size) ?_ ?_; (focus (refine hs7 _ ?_; first | assumption | omega | (simp [go_sem]; done) | (simp [go_sem]; omega))); intro hl7b))
            (try (refine cut_ (p := w.heap.size + 1 + 1 < w7.heap.size) ?_ ?_; (focus (refine hs7 _ ?_; first | assumption | omega | (simp [go_sem]; done) | (simp [go_sem]; omega))); intro hl7c))
            go_wp2
            go_quiet ((first | (go_at_call 69; exact quiet_left (abs_any _ _ (by omega))) | (go_at_call 68; exact quiet_left (ceilDiv_any _ _ _ (by omega) (by omega) (by omega) (by omega)))))
            go_wp2
            go_ret2
            exact ⟨rfl, by (repeat (first | with_reducible exact Below.refl _ _ | with_reducible refine below_alloc ?_ _ | with_reducible refine below_drewN ?_ _ | with_reducible refine Below.drew ?_ | ((with_reducible refine below_set ?_ ?_ _); rotate_left; (focus (first | (simp; done) | (simp; omega) | omega))) | with_reducible refine below_call ?_ (by assumption)))⟩
end Go.Proofs.Ytanfccdeacohfaa
