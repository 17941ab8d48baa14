/- Contract of the reference's LunationsApart. No conditions. -/
import Derived.Test.YtanfccdeacohfaaLun2
namespace Go.Proofs.Ytanfccdeacohfaa
open Go.RowKit
set_option linter.unusedVariables false
set_option linter.unusedSimpArgs false
set_option maxHeartbeats 16000000 in
theorem specLunationsApart_any (n d n' d' : Int) (w : World) :
    Calls Try.prog 31 #[.agg #[.int .i64 n, .int .i64 d], .agg #[.int .i64 n', .int .i64 d']] w fun e w' => e = .returned (lunT n d n' d') ∧ Below w.heap.size w w' := by
  have v1 := fun w => l02Ok_any n d w
  have v2 := fun w => l02Ok_any n' d' w
  cases h1 : vRatio n d
  · rw [lun_bad (by rw [h1]; rfl)]
    rw [h1] at v1
    have V1 := Lib.hid v1
    clear v1 v2
    go_enter Try.func31, Try.ntmps31
    go_wp2_with fail
    refine (V1.out _).mono ?_
    rintro e w5 ⟨rfl, hb5⟩
    obtain ⟨hc5, hf5, hs5⟩ := bcell hb5
    (try (refine cut_ (p := w.heap.size < w5.heap.size) ?_ ?_; (focus (refine hs5 _ ?_; first | assumption | omega | (simp [go_sem]; done) | (simp [go_sem]; omega))); intro hl5a))
    (try (refine cut_ (p := w.heap.size + 1 < w5.heap.size) ?_ ?_; (focus (refine hs5 _ ?_; first | assumption | omega | (simp [go_sem]; done) | (simp [go_sem]; omega))); intro hl5b))
    (try (refine cut_ (p := w.heap.size + 1 + 1 < w5.heap.size) ?_ ?_; (focus (refine hs5 _ ?_; first | assumption | omega | (simp [go_sem]; done) | (simp [go_sem]; omega))); intro hl5c))
    go_wp2
    go_ret2
    exact ⟨rfl, by (repeat (first | with_reducible exact Below.refl _ _ | with_reducible refine below_alloc ?_ _ | with_reducible refine below_drewN ?_ _ | with_reducible refine Below.drew ?_ | ((with_reducible refine below_set ?_ ?_ _); rotate_left; (focus (first | (simp; done) | (simp; omega) | omega))) | with_reducible refine below_call ?_ (by assumption)))⟩
  · rw [h1] at v1
    have V1 := Lib.hid v1
    clear v1
    cases h2 : vRatio n' d'
    · rw [lun_bad (by rw [h1, h2]; rfl)]
      rw [h2] at v2
      have V2 := Lib.hid v2
      clear v2
      go_enter Try.func31, Try.ntmps31
      go_wp2_with fail
      refine (V1.out _).mono ?_
      rintro e w5 ⟨rfl, hb5⟩
      obtain ⟨hc5, hf5, hs5⟩ := bcell hb5
      (try (refine cut_ (p := w.heap.size < w5.heap.size) ?_ ?_; (focus (refine hs5 _ ?_; first | assumption | omega | (simp [go_sem]; done) | (simp [go_sem]; omega))); intro hl5a))
      (try (refine cut_ (p := w.heap.size + 1 < w5.heap.size) ?_ ?_; (focus (refine hs5 _ ?_; first | assumption | omega | (simp [go_sem]; done) | (simp [go_sem]; omega))); intro hl5b))
      (try (refine cut_ (p := w.heap.size + 1 + 1 < w5.heap.size) ?_ ?_; (focus (refine hs5 _ ?_; first | assumption | omega | (simp [go_sem]; done) | (simp [go_sem]; omega))); intro hl5c))
      go_wp2_with fail
      refine (V2.out _).mono ?_
      rintro e w6 ⟨rfl, hb6⟩
      obtain ⟨hc6, hf6, hs6⟩ := bcell hb6
      (try (refine cut_ (p := w.heap.size < w6.heap.size) ?_ ?_; (focus (refine hs6 _ ?_; first | assumption | omega | (simp [go_sem]; done) | (simp [go_sem]; omega))); intro hl6a))
      (try (refine cut_ (p := w.heap.size + 1 < w6.heap.size) ?_ ?_; (focus (refine hs6 _ ?_; first | assumption | omega | (simp [go_sem]; done) | (simp [go_sem]; omega))); intro hl6b))
      (try (refine cut_ (p := w.heap.size + 1 + 1 < w6.heap.size) ?_ ?_; (focus (refine hs6 _ ?_; first | assumption | omega | (simp [go_sem]; done) | (simp [go_sem]; omega))); intro hl6c))
      go_wp2
      go_ret2
      exact ⟨rfl, by (repeat (first | with_reducible exact Below.refl _ _ | with_reducible refine below_alloc ?_ _ | with_reducible refine below_drewN ?_ _ | with_reducible refine Below.drew ?_ | ((with_reducible refine below_set ?_ ?_ _); rotate_left; (focus (first | (simp; done) | (simp; omega) | omega))) | with_reducible refine below_call ?_ (by assumption)))⟩
    · rw [h2] at v2
      have V2 := Lib.hid v2
      clear v2
      have hvv : (vRatio n d && vRatio n' d') = true := by rw [h1, h2]; rfl
      by_cases he : n = n' ∧ d = d'
      · rw [lun_eq hvv he]
        obtain ⟨rfl, rfl⟩ := he
        go_enter Try.func31, Try.ntmps31
        go_wp2_with fail
        refine (V1.out _).mono ?_
        rintro e w5 ⟨rfl, hb5⟩
        obtain ⟨hc5, hf5, hs5⟩ := bcell hb5
        (try (refine cut_ (p := w.heap.size < w5.heap.size) ?_ ?_; (focus (refine hs5 _ ?_; first | assumption | omega | (simp [go_sem]; done) | (simp [go_sem]; omega))); intro hl5a))
        (try (refine cut_ (p := w.heap.size + 1 < w5.heap.size) ?_ ?_; (focus (refine hs5 _ ?_; first | assumption | omega | (simp [go_sem]; done) | (simp [go_sem]; omega))); intro hl5b))
        (try (refine cut_ (p := w.heap.size + 1 + 1 < w5.heap.size) ?_ ?_; (focus (refine hs5 _ ?_; first | assumption | omega | (simp [go_sem]; done) | (simp [go_sem]; omega))); intro hl5c))
        go_wp2_with fail
        refine (V2.out _).mono ?_
        rintro e w6 ⟨rfl, hb6⟩
        obtain ⟨hc6, hf6, hs6⟩ := bcell hb6
        (try (refine cut_ (p := w.heap.size < w6.heap.size) ?_ ?_; (focus (refine hs6 _ ?_; first | assumption | omega | (simp [go_sem]; done) | (simp [go_sem]; omega))); intro hl6a))
        (try (refine cut_ (p := w.heap.size + 1 < w6.heap.size) ?_ ?_; (focus (refine hs6 _ ?_; first | assumption | omega | (simp [go_sem]; done) | (simp [go_sem]; omega))); intro hl6b))
        (try (refine cut_ (p := w.heap.size + 1 + 1 < w6.heap.size) ?_ ?_; (focus (refine hs6 _ ?_; first | assumption | omega | (simp [go_sem]; done) | (simp [go_sem]; omega))); intro hl6c))
        have g6 : w.heap.size + 1 < w6.heap.size := by first | assumption | omega | exact hs6 _ (hs5 _ (by simp [go_sem]))
        go_wp2
        go_ret2
        exact ⟨rfl, by (repeat (first | with_reducible exact Below.refl _ _ | with_reducible refine below_alloc ?_ _ | with_reducible refine below_drewN ?_ _ | with_reducible refine Below.drew ?_ | ((with_reducible refine below_set ?_ ?_ _); rotate_left; (focus (first | (simp; done) | (simp; omega) | omega))) | with_reducible refine below_call ?_ (by assumption)))⟩
      · have hx : dN n d n' d' ≠ 0 := fun h => he (ratio_same h1 h2 h)
        have hs := fun w => l02Add_any n d n' d' w h1 h2
        have hneg := fun w => l02Neg_any n' d' w (by have := vRatio_yes h2; omega) (by have := vRatio_yes h2; omega)
        have hy := (sub_bd h1 h2).2.2.1
        have hbd := @redB_bd (dN n d n' d') (d * d') hx hy
        have hf := @lun_far n d n' d' hvv he
        have hok := @lun_ok n d n' d' hvv he
        obtain ⟨D, hD⟩ : ∃ D, dN n d n' d' = D := ⟨_, rfl⟩
        obtain ⟨E, hE⟩ : ∃ E, d * d' = E := ⟨_, rfl⟩
        rw [hD, hE] at hs hbd hf hok
        have hcase : (n = n' ∧ (d == d') = false ∧ ¬ d = d') ∨ ((n == n') = false ∧ ¬ n = n') := by
          by_cases e : n = n'
          · exact .inl ⟨e, by simpa using fun h => he ⟨e, h⟩, fun h => he ⟨e, h⟩⟩
          · exact .inr ⟨by simpa using e, e⟩
        clear he
        have HN := Lib.hid hneg
        clear hneg
        obtain ⟨V, hV⟩ : ∃ V, lunT n d n' d' = V := ⟨_, rfl⟩
        rw [hV] at hf hok ⊢
        have hdiv : ∀ q r : Int, 1 ≤ q → 1 ≤ r → q ≤ 1000000000 → r ≤ 1000000000 → (q + r - 1).tdiv r = (q + r - 1) / r ∧ 0 ≤ (q + r - 1) / r ∧ (q + r - 1) / r ≤ 4000000000 := by
          intro q r h1 h2 h3 h4
          refine ⟨Int.tdiv_eq_ediv_of_nonneg (by omega), Int.ediv_nonneg (by omega) (by omega), ?_⟩
          have := Int.ediv_le_self r (show 0 ≤ q + r - 1 by omega)
          omega
        have hT : redB D E = true → ∃ s : Int, ((rN D E).natAbs : Int) = s ∧ 1 ≤ s ∧ s ≤ 1000000000 ∧ -1000000000 ≤ rN D E ∧ 1 ≤ rD D E ∧ rD D E ≤ 1000000000 ∧ (rD D E + s - 1).tdiv s = (rD D E + s - 1) / s ∧ 0 ≤ (rD D E + s - 1) / s ∧ (rD D E + s - 1) / s ≤ 4000000000 ∧ V = .tuple #[.int .i64 ((rD D E + s - 1) / s), .int .i64 0] := by
          intro hb
          obtain ⟨b1, b2, b3, b4, b5⟩ := hbd hb
          obtain ⟨q1, q2, q3⟩ := hdiv (rD D E) ((rN D E).natAbs : Int) b1 (by omega) b2 (by omega)
          exact ⟨_, rfl, by omega, by omega, b4, b1, b2, q1, q2, q3, hok hb⟩
        generalize rN D E = rn at *
        generalize rD D E = rd at *
        generalize redB D E = rb at *
        have HS := Lib.hid hs
        have HT := Lib.hid hT
        have HF := Lib.hid hf
        clear hs hf hok hbd hD hE hx hy hT hV hdiv
        rcases hcase with ⟨rfl, e1, e2⟩ | ⟨e1, e2⟩
        all_goals
          go_enter Try.func31, Try.ntmps31
          go_wp2_with fail
          refine (V1.out _).mono ?_
          rintro e w5 ⟨rfl, hb5⟩
          obtain ⟨hc5, hf5, hs5⟩ := bcell hb5
          (try (refine cut_ (p := w.heap.size < w5.heap.size) ?_ ?_; (focus (refine hs5 _ ?_; first | assumption | omega | (simp [go_sem]; done) | (simp [go_sem]; omega))); intro hl5a))
          (try (refine cut_ (p := w.heap.size + 1 < w5.heap.size) ?_ ?_; (focus (refine hs5 _ ?_; first | assumption | omega | (simp [go_sem]; done) | (simp [go_sem]; omega))); intro hl5b))
          (try (refine cut_ (p := w.heap.size + 1 + 1 < w5.heap.size) ?_ ?_; (focus (refine hs5 _ ?_; first | assumption | omega | (simp [go_sem]; done) | (simp [go_sem]; omega))); intro hl5c))
          go_wp2_with fail
          refine (V2.out _).mono ?_
          rintro e w6 ⟨rfl, hb6⟩
          obtain ⟨hc6, hf6, hs6⟩ := bcell hb6
          (try (refine cut_ (p := w.heap.size < w6.heap.size) ?_ ?_; (focus (refine hs6 _ ?_; first | assumption | omega | (simp [go_sem]; done) | (simp [go_sem]; omega))); intro hl6a))
          (try (refine cut_ (p := w.heap.size + 1 < w6.heap.size) ?_ ?_; (focus (refine hs6 _ ?_; first | assumption | omega | (simp [go_sem]; done) | (simp [go_sem]; omega))); intro hl6b))
          (try (refine cut_ (p := w.heap.size + 1 + 1 < w6.heap.size) ?_ ?_; (focus (refine hs6 _ ?_; first | assumption | omega | (simp [go_sem]; done) | (simp [go_sem]; omega))); intro hl6c))
          have g6 : w.heap.size + 1 < w6.heap.size := by first | assumption | omega | exact hs6 _ (hs5 _ (by simp [go_sem]))
          have g5 : w.heap.size < w6.heap.size := by omega
          have la : w6.cell? ⟨w.heap.size, 0, none⟩ = some (.int .i64 n) := by simp [go_sem, hc6, hc5, *]
          have lb : w6.cell? ⟨w.heap.size, 1, none⟩ = some (.int .i64 d) := by simp [go_sem, hc6, hc5, *]
          have B6 : Below w.heap.size w w6 := by (repeat (first | with_reducible exact Below.refl _ _ | with_reducible refine below_alloc ?_ _ | with_reducible refine below_drewN ?_ _ | with_reducible refine Below.drew ?_ | ((with_reducible refine below_set ?_ ?_ _); rotate_left; (focus (first | (simp; done) | (simp; omega) | omega))) | with_reducible refine below_call ?_ (by assumption)))
          have lc := show w6.cell? ⟨w.heap.size + 1, 0, none⟩ = _ from (by simp [go_sem, hc6, hc5, *]; rfl)
          have ld := show w6.cell? ⟨w.heap.size + 1, 1, none⟩ = _ from (by simp [go_sem, hc6, hc5, *]; rfl)
          clear hc5 hf5 hs5 hb5 hc6 hf6 hs6 hb6
          go_wp2
          have g5' : w.heap.size < w6.heap.size + 1 := by omega
          have g6' : w.heap.size + 1 < w6.heap.size + 1 := by omega
          go_region_with (first | (go_at_call 66; refine (HN.out _).mono ?_; rintro e w7 ⟨rfl, hb7⟩; obtain ⟨hc7, hf7, hs7⟩ := bcell hb7; have la7 := cell_call (p := ⟨w.heap.size, 0, none⟩) (v := .int .i64 n) hb7 (by first | assumption | omega | (simp [go_sem]; done) | (simp [go_sem]; omega)) (by first | exact la | (simp [go_sem, la, g5]; done) | exact (World.cell?_alloc_lt _ _ _ (by simp; omega)).trans la); have lb7 := cell_call (p := ⟨w.heap.size, 1, none⟩) (v := .int .i64 d) hb7 (by first | assumption | omega | (simp [go_sem]; done) | (simp [go_sem]; omega)) (by first | exact lb | (simp [go_sem, lb, g5]; done) | exact (World.cell?_alloc_lt _ _ _ (by simp; omega)).trans lb); have g7 : w.heap.size < w7.heap.size := hs7 _ (by first | assumption | omega | (simp [go_sem]; done) | (simp [go_sem]; omega)); have g7b : w.heap.size + 1 < w7.heap.size := hs7 _ (by first | assumption | omega | (simp [go_sem]; done) | (simp [go_sem]; omega)); (try have g7c : w6.heap.size < w7.heap.size := hs7 _ (by first | assumption | omega | (simp [go_sem]; done) | (simp [go_sem]; omega)))) | (go_at_call 65; refine (HS.out _).mono ?_; rintro e w8 ⟨rfl, hb8⟩; obtain ⟨hc8, hf8, hs8⟩ := bcell hb8; (try have g8c : w7.heap.size < w8.heap.size := hs8 _ (by first | assumption | omega | (simp [go_sem]; done) | (simp [go_sem]; omega))); (try have g8d : w6.heap.size < w8.heap.size := hs8 _ (by first | assumption | omega | (simp [go_sem]; done) | (simp [go_sem]; omega)))))
          all_goals
            cases rb
            · have HV := Lib.hid (HF.out rfl)
              go_wp2
              go_ret2
              exact ⟨by rw [HV.out]; rfl, by (repeat (first | with_reducible exact Below.refl _ _ | with_reducible refine below_alloc ?_ _ | with_reducible refine below_drewN ?_ _ | with_reducible refine Below.drew ?_ | ((with_reducible refine below_set ?_ ?_ _); rotate_left; (focus (first | (simp; done) | (simp; omega) | omega))) | with_reducible refine below_call ?_ (by assumption)))⟩
            · obtain ⟨s, hs0, s1, s2, s3, s4, s5, q1, q2, q3, hv⟩ := HT.out rfl
              have HV := Lib.hid hv
              clear hv
              have cs := fun w => l02Size_any rn w (by omega)
              rw [hs0] at cs
              have CS := Lib.hid cs
              clear cs
              have k1 : IntKind.i64.wrap (rd + s) = rd + s := IntWalk.i64_in _ (by omega)
              have k2 : IntKind.i64.wrap (rd + s - 1) = rd + s - 1 := IntWalk.i64_in _ (by omega)
              have k3 : IntKind.i64.wrap ((rd + s - 1) / s) = (rd + s - 1) / s := IntWalk.i64_in _ (by omega)
              have k4 : (s == 0) = false := by rw [beq_eq_false_iff_ne]; omega
              have k5 : ¬ s = 0 := by omega
              go_wp2_with (go_at_call 67; refine (CS.out _).mono ?_; rintro e w' ⟨rfl, rfl⟩)
              go_ret2
              exact ⟨by rw [HV.out]; first | rfl | (congr; done), by (repeat (first | with_reducible exact Below.refl _ _ | with_reducible refine below_alloc ?_ _ | with_reducible refine below_drewN ?_ _ | with_reducible refine Below.drew ?_ | ((with_reducible refine below_set ?_ ?_ _); rotate_left; (focus (first | (simp; done) | (simp; omega) | omega))) | with_reducible refine below_call ?_ (by assumption)))⟩
end Go.Proofs.Ytanfccdeacohfaa
