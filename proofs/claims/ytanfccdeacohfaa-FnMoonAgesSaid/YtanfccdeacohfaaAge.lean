/- Contracts of the two functions MoonAge. No conditions. -/
import Derived.Test.YtanfccdeacohfaaMake2
import Derived.Test.YtanfccdeacohfaaMoonAge
namespace Go.Proofs.Ytanfccdeacohfaa
open Go.RowKit
set_option linter.unusedVariables false
set_option linter.unusedSimpArgs false

def ageT (n d z day : Int) : Value :=
  if vMoon n d z then if inB day (-10000000) 10000000 then ratT (rN (ageI n d z day) d) (rD (ageI n d z day) d) (rC (ageI n d z day) d) else ratT 0 0 2 else ratT 0 0 1
theorem age_bad {n d z day : Int} (h : vMoon n d z = false) : ageT n d z day = .tuple #[.agg #[.int .i64 0, .int .i64 0], .int .i64 1] := by simp [ageT, h, ratT]
theorem age_far {n d z day : Int} (h : vMoon n d z = true) (h' : inB day (-10000000) 10000000 = false) : ageT n d z day = .tuple #[.agg #[.int .i64 0, .int .i64 0], .int .i64 2] := by simp [ageT, h, h', ratT]
theorem age_ok {n d z day : Int} (h : vMoon n d z = true) (h' : inB day (-10000000) 10000000 = true) : ageT n d z day = .tuple #[.agg #[.int .i64 (rN (ageI n d z day) d), .int .i64 (rD (ageI n d z day) d)], .int .i64 (rC (ageI n d z day) d)] := by simp [ageT, h, h', ratT]
theorem ageT_form (n d z day : Int) : ∃ a b c : Int, ageT n d z day = .tuple #[.agg #[.int .i64 a, .int .i64 b], .int .i64 c] := by
  unfold ageT
  split
  · split <;> exact ⟨_, _, _, rfl⟩
  · exact ⟨_, _, _, rfl⟩
set_option maxHeartbeats 2000000 in
theorem MoonAge_any (n d z day : Int) (w : World) :
    Calls Try.prog 35 #[.agg #[.int .i64 n, .int .i64 d, .int .i64 z], .int .i64 day] w fun e w' => e = .returned (ageT n d z day) ∧ Below w.heap.size w w' := by
  by_cases h : vMoon n d z = true
  · by_cases h' : inB day (-10000000) 10000000 = true
    · rw [age_ok h h']
      have hm := vMoon_yes h
      have hd := inB_yes h'
      have ha := ageI_bd (day := day) h
      have hr := fun w => MakeRatio_any (ageI n d z day) d w (by omega) (by omega) (by omega) (by omega) (by omega)
      have HR := Lib.hid hr
      clear hr
      go_enter Try.func35, Try.ntmps35
      go_wp2_with (first | (go_at_call 16; refine (ValidMoon_any _ _ _ _).mono ?_; rintro e w1 ⟨rfl, hb1⟩; obtain ⟨hc1, hf1, hs1⟩ := bcell hb1; have hz1 := hb1.size; (try simp at hz1); (try (refine cut_ (p := w.heap.size < w1.heap.size) ?_ ?_; (focus (refine hs1 _ ?_; first | assumption | omega | (simp [go_sem]; done) | (simp [go_sem]; omega))); intro hl1a)); (try (refine cut_ (p := w.heap.size + 1 < w1.heap.size) ?_ ?_; (focus (refine hs1 _ ?_; first | assumption | omega | (simp [go_sem]; done) | (simp [go_sem]; omega))); intro hl1b)); (try (refine cut_ (p := w.heap.size + 1 + 1 < w1.heap.size) ?_ ?_; (focus (refine hs1 _ ?_; first | assumption | omega | (simp [go_sem]; done) | (simp [go_sem]; omega))); intro hl1c))) | (go_at_call 48; refine (isMoonDay_any _ _).mono ?_; rintro e w' ⟨rfl, rfl⟩))
      have l1 : w1.cell? ⟨w.heap.size, 1, none⟩ = some (.int .i64 d) := by simp [go_sem, hc1]
      have m1 : w.heap.size + 1 < w1.heap.size := hs1 _ (by simp [go_sem])
      have m0 : w.heap.size < w1.heap.size := by omega
      have r0 : w1.cell? ⟨w.heap.size + 1, 0, none⟩ = some (.int .i64 0) := by simp [go_sem, hc1]
      have r1 : w1.cell? ⟨w.heap.size + 1, 1, none⟩ = some (.int .i64 0) := by simp [go_sem, hc1]
      have f0 : w1.frozen? ⟨w.heap.size + 1, 0, none⟩ = false := by simp [go_sem, hf1]
      have f1 : w1.frozen? ⟨w.heap.size + 1, 1, none⟩ = false := by simp [go_sem, hf1]
      go_region_with (first | (go_at_call 58; refine (ageOf_any _ _ _ _ _ h (by omega) (by omega)).mono ?_; rintro e w2 ⟨rfl, hb2⟩; obtain ⟨hc2, hf2, hs2⟩ := bcell hb2; have l2 := cell_call hb2 m0 l1; have m2 := lt_call hb2 m1; have r02 := cell_call hb2 m1 r0; have r12 := cell_call hb2 m1 r1; have f02 := fro_call hb2 m1 f0; have f12 := fro_call hb2 m1 f1) | (go_at_call 72; refine (HR.out _).mono ?_; rintro e w3 ⟨rfl, hb3⟩; obtain ⟨hc3, hf3, hs3⟩ := bcell hb3; have r03 := cell_call hb3 m2 r02; have r13 := cell_call hb3 m2 r12; have f03 := fro_call hb3 m2 f02; have f13 := fro_call hb3 m2 f12; have m3 := lt_call hb3 m2))
      all_goals go_wp2
      all_goals refine bodyPost_ret (v := .tuple #[.agg #[.int .i64 (rN (ageI n d z day) d), .int .i64 (rD (ageI n d z day) d)], .int .i64 (rC (ageI n d z day) d)]) ?_ rfl ⟨rfl, ?_⟩
      all_goals first
        | (simp [results, Try.results35, go_sem, r03, r13]; done)
        | ((repeat (first | with_reducible exact Below.refl _ _ | with_reducible refine below_alloc ?_ _ | with_reducible refine below_drewN ?_ _ | with_reducible refine Below.drew ?_ | ((with_reducible refine below_set ?_ ?_ _); rotate_left; (focus (first | (simp; done) | (simp; omega) | omega))) | with_reducible refine below_call ?_ (by assumption))); done)
    · have h2 : inB day (-10000000) 10000000 = false := by simpa using h'
      rw [age_far h h2]
      clear h'
      go_enter Try.func35, Try.ntmps35
      go_wp2_with (first | (go_at_call 16; refine (ValidMoon_any _ _ _ _).mono ?_; rintro e w1 ⟨rfl, hb1⟩; obtain ⟨hc1, hf1, hs1⟩ := bcell hb1; have hz1 := hb1.size; (try simp at hz1); (try (refine cut_ (p := w.heap.size < w1.heap.size) ?_ ?_; (focus (refine hs1 _ ?_; first | assumption | omega | (simp [go_sem]; done) | (simp [go_sem]; omega))); intro hl1a)); (try (refine cut_ (p := w.heap.size + 1 < w1.heap.size) ?_ ?_; (focus (refine hs1 _ ?_; first | assumption | omega | (simp [go_sem]; done) | (simp [go_sem]; omega))); intro hl1b)); (try (refine cut_ (p := w.heap.size + 1 + 1 < w1.heap.size) ?_ ?_; (focus (refine hs1 _ ?_; first | assumption | omega | (simp [go_sem]; done) | (simp [go_sem]; omega))); intro hl1c))) | (go_at_call 48; refine (isMoonDay_any _ _).mono ?_; rintro e w' ⟨rfl, rfl⟩))
      refine bodyPost_ret (v := .tuple #[.agg #[.int .i64 0, .int .i64 0], .int .i64 2]) (by simp [results, Try.results35, go_sem, hc1, hf1, hs1]) rfl ⟨rfl, ?_⟩
      (repeat (first | with_reducible exact Below.refl _ _ | with_reducible refine below_alloc ?_ _ | with_reducible refine below_drewN ?_ _ | with_reducible refine Below.drew ?_ | ((with_reducible refine below_set ?_ ?_ _); rotate_left; (focus (first | (simp; done) | (simp; omega) | omega))) | with_reducible refine below_call ?_ (by assumption)))
  · have h2 : vMoon n d z = false := by simpa using h
    rw [age_bad h2]
    clear h
    go_enter Try.func35, Try.ntmps35
    go_wp2_with (go_at_call 16; refine (ValidMoon_any _ _ _ _).mono ?_; rintro e w1 ⟨rfl, hb1⟩; obtain ⟨hc1, hf1, hs1⟩ := bcell hb1; have hz1 := hb1.size; (try simp at hz1); (try (refine cut_ (p := w.heap.size < w1.heap.size) ?_ ?_; (focus (refine hs1 _ ?_; first | assumption | omega | (simp [go_sem]; done) | (simp [go_sem]; omega))); intro hl1a)); (try (refine cut_ (p := w.heap.size + 1 < w1.heap.size) ?_ ?_; (focus (refine hs1 _ ?_; first | assumption | omega | (simp [go_sem]; done) | (simp [go_sem]; omega))); intro hl1b)); (try (refine cut_ (p := w.heap.size + 1 + 1 < w1.heap.size) ?_ ?_; (focus (refine hs1 _ ?_; first | assumption | omega | (simp [go_sem]; done) | (simp [go_sem]; omega))); intro hl1c)))
    refine bodyPost_ret (v := .tuple #[.agg #[.int .i64 0, .int .i64 0], .int .i64 1]) (by simp [results, Try.results35, go_sem, hc1, hf1, hs1]) rfl ⟨rfl, ?_⟩
    (repeat (first | with_reducible exact Below.refl _ _ | with_reducible refine below_alloc ?_ _ | with_reducible refine below_drewN ?_ _ | with_reducible refine Below.drew ?_ | ((with_reducible refine below_set ?_ ?_ _); rotate_left; (focus (first | (simp; done) | (simp; omega) | omega))) | with_reducible refine below_call ?_ (by assumption)))
set_option maxHeartbeats 2000000 in
theorem specMoonAge_any (n d z day : Int) (w : World) :
    Calls Try.prog 34 #[.agg #[.int .i64 n, .int .i64 d, .int .i64 z], .int .i64 day] w fun e w' => e = .returned (ageT n d z day) ∧ Below w.heap.size w w' := by
  by_cases h : vMoon n d z = true
  · by_cases h' : inB day (-10000000) 10000000 = true
    · rw [age_ok h h']
      have hm := vMoon_yes h
      have hd := inB_yes h'
      have ha := ageI_bd (day := day) h
      have hr := fun w => l02Make_any (ageI n d z day) d w (by omega) (by omega) (by omega) (by omega) (by omega)
      have HR := Lib.hid hr
      clear hr
      go_enter Try.func34, Try.ntmps34
      go_wp2_with (first | (go_at_call 46; refine (l19Ok_any _ _ _ _).mono ?_; rintro e w1 ⟨rfl, hb1⟩; obtain ⟨hc1, hf1, hs1⟩ := bcell hb1; have hz1 := hb1.size; (try simp at hz1); (try (refine cut_ (p := w.heap.size < w1.heap.size) ?_ ?_; (focus (refine hs1 _ ?_; first | assumption | omega | (simp [go_sem]; done) | (simp [go_sem]; omega))); intro hl1a)); (try (refine cut_ (p := w.heap.size + 1 < w1.heap.size) ?_ ?_; (focus (refine hs1 _ ?_; first | assumption | omega | (simp [go_sem]; done) | (simp [go_sem]; omega))); intro hl1b)); (try (refine cut_ (p := w.heap.size + 1 + 1 < w1.heap.size) ?_ ?_; (focus (refine hs1 _ ?_; first | assumption | omega | (simp [go_sem]; done) | (simp [go_sem]; omega))); intro hl1c))) | (go_at_call 53; refine (l19Day_any _ _).mono ?_; rintro e w' ⟨rfl, rfl⟩))
      have l1 : w1.cell? ⟨w.heap.size, 1, none⟩ = some (.int .i64 d) := by simp [go_sem, hc1]
      have m1 : w.heap.size + 1 < w1.heap.size := hs1 _ (by simp [go_sem])
      have m0 : w.heap.size < w1.heap.size := by omega
      have r0 : w1.cell? ⟨w.heap.size + 1, 0, none⟩ = some (.int .i64 0) := by simp [go_sem, hc1]
      have r1 : w1.cell? ⟨w.heap.size + 1, 1, none⟩ = some (.int .i64 0) := by simp [go_sem, hc1]
      have f0 : w1.frozen? ⟨w.heap.size + 1, 0, none⟩ = false := by simp [go_sem, hf1]
      have f1 : w1.frozen? ⟨w.heap.size + 1, 1, none⟩ = false := by simp [go_sem, hf1]
      go_region_with (first | (go_at_call 54; refine (l19Age_any _ _ _ _ _ h (by omega) (by omega)).mono ?_; rintro e w2 ⟨rfl, hb2⟩; obtain ⟨hc2, hf2, hs2⟩ := bcell hb2; have l2 := cell_call hb2 m0 l1; have m2 := lt_call hb2 m1; have r02 := cell_call hb2 m1 r0; have r12 := cell_call hb2 m1 r1; have f02 := fro_call hb2 m1 f0; have f12 := fro_call hb2 m1 f1) | (go_at_call 71; refine (HR.out _).mono ?_; rintro e w3 ⟨rfl, hb3⟩; obtain ⟨hc3, hf3, hs3⟩ := bcell hb3; have r03 := cell_call hb3 m2 r02; have r13 := cell_call hb3 m2 r12; have f03 := fro_call hb3 m2 f02; have f13 := fro_call hb3 m2 f12; have m3 := lt_call hb3 m2) | (go_at_call 70; refine (l02Code_any _ _ _).mono ?_; rintro e w4 ⟨rfl, hb4⟩; obtain ⟨hc4, hf4, hs4⟩ := bcell hb4; have r04 := cell_call hb4 m3 r03; have r14 := cell_call hb4 m3 r13; have f04 := fro_call hb4 m3 f03; have f14 := fro_call hb4 m3 f13; have m4 := lt_call hb4 m3))
      all_goals go_wp2
      all_goals refine bodyPost_ret (v := .tuple #[.agg #[.int .i64 (rN (ageI n d z day) d), .int .i64 (rD (ageI n d z day) d)], .int .i64 (rC (ageI n d z day) d)]) ?_ rfl ⟨rfl, ?_⟩
      all_goals first
        | (simp [results, Try.results34, go_sem, r04, r14]; done)
        | ((repeat (first | with_reducible exact Below.refl _ _ | with_reducible refine below_alloc ?_ _ | with_reducible refine below_drewN ?_ _ | with_reducible refine Below.drew ?_ | ((with_reducible refine below_set ?_ ?_ _); rotate_left; (focus (first | (simp; done) | (simp; omega) | omega))) | with_reducible refine below_call ?_ (by assumption))); done)
    · have h2 : inB day (-10000000) 10000000 = false := by simpa using h'
      rw [age_far h h2]
      clear h'
      go_enter Try.func34, Try.ntmps34
      go_wp2_with (first | (go_at_call 46; refine (l19Ok_any _ _ _ _).mono ?_; rintro e w1 ⟨rfl, hb1⟩; obtain ⟨hc1, hf1, hs1⟩ := bcell hb1; have hz1 := hb1.size; (try simp at hz1); (try (refine cut_ (p := w.heap.size < w1.heap.size) ?_ ?_; (focus (refine hs1 _ ?_; first | assumption | omega | (simp [go_sem]; done) | (simp [go_sem]; omega))); intro hl1a)); (try (refine cut_ (p := w.heap.size + 1 < w1.heap.size) ?_ ?_; (focus (refine hs1 _ ?_; first | assumption | omega | (simp [go_sem]; done) | (simp [go_sem]; omega))); intro hl1b)); (try (refine cut_ (p := w.heap.size + 1 + 1 < w1.heap.size) ?_ ?_; (focus (refine hs1 _ ?_; first | assumption | omega | (simp [go_sem]; done) | (simp [go_sem]; omega))); intro hl1c))) | (go_at_call 53; refine (l19Day_any _ _).mono ?_; rintro e w' ⟨rfl, rfl⟩))
      refine bodyPost_ret (v := .tuple #[.agg #[.int .i64 0, .int .i64 0], .int .i64 2]) (by simp [results, Try.results34, go_sem, hc1, hf1, hs1]) rfl ⟨rfl, ?_⟩
      (repeat (first | with_reducible exact Below.refl _ _ | with_reducible refine below_alloc ?_ _ | with_reducible refine below_drewN ?_ _ | with_reducible refine Below.drew ?_ | ((with_reducible refine below_set ?_ ?_ _); rotate_left; (focus (first | (simp; done) | (simp; omega) | omega))) | with_reducible refine below_call ?_ (by assumption)))
  · have h2 : vMoon n d z = false := by simpa using h
    rw [age_bad h2]
    clear h
    go_enter Try.func34, Try.ntmps34
    go_wp2_with (go_at_call 46; refine (l19Ok_any _ _ _ _).mono ?_; rintro e w1 ⟨rfl, hb1⟩; obtain ⟨hc1, hf1, hs1⟩ := bcell hb1; have hz1 := hb1.size; (try simp at hz1); (try (refine cut_ (p := w.heap.size < w1.heap.size) ?_ ?_; (focus (refine hs1 _ ?_; first | assumption | omega | (simp [go_sem]; done) | (simp [go_sem]; omega))); intro hl1a)); (try (refine cut_ (p := w.heap.size + 1 < w1.heap.size) ?_ ?_; (focus (refine hs1 _ ?_; first | assumption | omega | (simp [go_sem]; done) | (simp [go_sem]; omega))); intro hl1b)); (try (refine cut_ (p := w.heap.size + 1 + 1 < w1.heap.size) ?_ ?_; (focus (refine hs1 _ ?_; first | assumption | omega | (simp [go_sem]; done) | (simp [go_sem]; omega))); intro hl1c)))
    refine bodyPost_ret (v := .tuple #[.agg #[.int .i64 0, .int .i64 0], .int .i64 1]) (by simp [results, Try.results34, go_sem, hc1, hf1, hs1]) rfl ⟨rfl, ?_⟩
    (repeat (first | with_reducible exact Below.refl _ _ | with_reducible refine below_alloc ?_ _ | with_reducible refine below_drewN ?_ _ | with_reducible refine Below.drew ?_ | ((with_reducible refine below_set ?_ ?_ _); rotate_left; (focus (first | (simp; done) | (simp; omega) | omega))) | with_reducible refine below_call ?_ (by assumption)))
set_option maxHeartbeats 400000 in
theorem eqRatio_same (a b : Int) (w : World) :
    Calls Try.prog 36 #[.agg #[.int .i64 a, .int .i64 b], .agg #[.int .i64 a, .int .i64 b]] w fun e w' => e = .returned (.bool true) ∧ Below w.heap.size w w' := by
  go_enter Try.func36, Try.ntmps36
  go_wp2
  go_ret
  exact ⟨rfl, by (repeat (first | with_reducible exact Below.refl _ _ | with_reducible refine below_alloc ?_ _ | with_reducible refine below_drewN ?_ _ | with_reducible refine Below.drew ?_ | ((with_reducible refine below_set ?_ ?_ _); rotate_left; (focus (first | (simp; done) | (simp; omega) | omega))) | with_reducible refine below_call ?_ (by assumption)))⟩
end Go.Proofs.Ytanfccdeacohfaa
