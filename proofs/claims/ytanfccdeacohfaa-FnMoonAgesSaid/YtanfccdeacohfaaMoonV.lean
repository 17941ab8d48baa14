/- Contracts of the conversions of ratios and moon works, and of their validity. No conditions. -/
import Derived.Test.YtanfccdeacohfaaRatio
namespace Go.Proofs.Ytanfccdeacohfaa
open Go.RowKit
set_option linter.unusedVariables false
set_option linter.unusedSimpArgs false

set_option maxHeartbeats 400000 in
theorem toRatio_any (n d : Int) (w : World) :
    Calls Try.prog 32 #[.agg #[.int .i64 n, .int .i64 d]] w fun e w' => e = .returned (.agg #[.int .i64 n, .int .i64 d]) ∧ Below w.heap.size w w' := by
  go_enter Try.func32, Try.ntmps32
  go_wp2
  refine bodyPost_ret (v := .agg #[.int .i64 n, .int .i64 d]) (by simp [results, Try.results32, go_sem]) rfl ⟨rfl, ?_⟩
  exact (((Below.refl _ _).alloc (Nat.le_refl _) _).alloc (by simp) _).alloc (by simp; omega) _
set_option maxHeartbeats 400000 in
theorem toMoon_any (n d z : Int) (w : World) :
    Calls Try.prog 15 #[.agg #[.int .i64 n, .int .i64 d, .int .i64 z]] w fun e w' => e = .returned (.agg #[.int .i64 n, .int .i64 d, .int .i64 z]) ∧ Below w.heap.size w w' := by
  go_enter Try.func15, Try.ntmps15
  go_wp2_with (go_at_call 32; refine (toRatio_any _ _ _).mono ?_; rintro e w1 ⟨rfl, hb1⟩; obtain ⟨hc1, hf1, hs1⟩ := bcell hb1; have hz1 := hb1.size; (try simp at hz1); (try (refine cut_ (p := w.heap.size < w1.heap.size) ?_ ?_; (focus (refine hs1 _ ?_; first | assumption | omega | (simp [go_sem]; done) | (simp [go_sem]; omega))); intro hl1a)); (try (refine cut_ (p := w.heap.size + 1 < w1.heap.size) ?_ ?_; (focus (refine hs1 _ ?_; first | assumption | omega | (simp [go_sem]; done) | (simp [go_sem]; omega))); intro hl1b)); (try (refine cut_ (p := w.heap.size + 1 + 1 < w1.heap.size) ?_ ?_; (focus (refine hs1 _ ?_; first | assumption | omega | (simp [go_sem]; done) | (simp [go_sem]; omega))); intro hl1c)))
  refine bodyPost_ret (v := .agg #[.int .i64 n, .int .i64 d, .int .i64 z]) (by simp [results, Try.results15, go_sem, hc1, hf1]) rfl ⟨rfl, ?_⟩
  (repeat (first | with_reducible exact Below.refl _ _ | with_reducible refine below_alloc ?_ _ | with_reducible refine below_drewN ?_ _ | with_reducible refine Below.drew ?_ | ((with_reducible refine below_set ?_ ?_ _); rotate_left; (focus (first | (simp; done) | (simp; omega) | omega))) | with_reducible refine below_call ?_ (by assumption)))
/-- a moon work is valid -/
def vMoon (n d z : Int) : Bool := vRatio n d && (decide (2 * d ≤ n) && (decide (n ≤ 1000 * d) && inB z (-10000000) 10000000))
theorem vMoon_yes {n d z : Int} (h : vMoon n d z = true) : 1 ≤ d ∧ d ≤ 1000000000 ∧ n ≤ 1000000000 ∧ Int.gcd n d = 1 ∧ 2 * d ≤ n ∧ n ≤ 1000 * d ∧ -10000000 ≤ z ∧ z ≤ 10000000 := by
  simp only [vMoon, Bool.and_eq_true, decide_eq_true_eq] at h
  obtain ⟨h1, h2, h3, h4⟩ := h
  have := vRatio_yes h1
  have := inB_yes h4
  omega
set_option maxHeartbeats 2000000 in
theorem ValidMoon_any (n d z : Int) (w : World) :
    Calls Try.prog 16 #[.agg #[.int .i64 n, .int .i64 d, .int .i64 z]] w fun e w' => e = .returned (.bool (vMoon n d z)) ∧ Below w.heap.size w w' := by
  by_cases h1 : vRatio n d = true
  · have k1 := vRatio_yes h1
    by_cases h2 : 2 * d ≤ n
    · by_cases h3 : n ≤ 1000 * d
      · go_enter Try.func16, Try.ntmps16
        go_wp2_with (first | (go_at_call 47; refine (ValidRatio_any _ _ _).mono ?_; rintro e w1 ⟨rfl, hb1⟩; obtain ⟨hc1, hf1, hs1⟩ := bcell hb1; have hz1 := hb1.size; (try simp at hz1); (try (refine cut_ (p := w.heap.size < w1.heap.size) ?_ ?_; (focus (refine hs1 _ ?_; first | assumption | omega | (simp [go_sem]; done) | (simp [go_sem]; omega))); intro hl1a)); (try (refine cut_ (p := w.heap.size + 1 < w1.heap.size) ?_ ?_; (focus (refine hs1 _ ?_; first | assumption | omega | (simp [go_sem]; done) | (simp [go_sem]; omega))); intro hl1b)); (try (refine cut_ (p := w.heap.size + 1 + 1 < w1.heap.size) ?_ ?_; (focus (refine hs1 _ ?_; first | assumption | omega | (simp [go_sem]; done) | (simp [go_sem]; omega))); intro hl1c))) | (go_at_call 48; refine (isMoonDay_any _ _).mono ?_; rintro e w' ⟨rfl, rfl⟩))
        go_ret
        exact ⟨ret_bool (by rw [vMoon, h1, decide_eq_true h2, decide_eq_true h3]; rfl), by (repeat (first | with_reducible exact Below.refl _ _ | with_reducible refine below_alloc ?_ _ | with_reducible refine below_drewN ?_ _ | with_reducible refine Below.drew ?_ | ((with_reducible refine below_set ?_ ?_ _); rotate_left; (focus (first | (simp; done) | (simp; omega) | omega))) | with_reducible refine below_call ?_ (by assumption)))⟩
      · have h3' : decide (n ≤ 1000 * d) = false := by simpa using h3
        go_enter Try.func16, Try.ntmps16
        go_wp2_with (first | (go_at_call 47; refine (ValidRatio_any _ _ _).mono ?_; rintro e w1 ⟨rfl, hb1⟩; obtain ⟨hc1, hf1, hs1⟩ := bcell hb1; have hz1 := hb1.size; (try simp at hz1); (try (refine cut_ (p := w.heap.size < w1.heap.size) ?_ ?_; (focus (refine hs1 _ ?_; first | assumption | omega | (simp [go_sem]; done) | (simp [go_sem]; omega))); intro hl1a)); (try (refine cut_ (p := w.heap.size + 1 < w1.heap.size) ?_ ?_; (focus (refine hs1 _ ?_; first | assumption | omega | (simp [go_sem]; done) | (simp [go_sem]; omega))); intro hl1b)); (try (refine cut_ (p := w.heap.size + 1 + 1 < w1.heap.size) ?_ ?_; (focus (refine hs1 _ ?_; first | assumption | omega | (simp [go_sem]; done) | (simp [go_sem]; omega))); intro hl1c))) | (go_at_call 48; refine (isMoonDay_any _ _).mono ?_; rintro e w' ⟨rfl, rfl⟩))
        go_ret
        exact ⟨ret_bool (by rw [vMoon, h3']; simp), by (repeat (first | with_reducible exact Below.refl _ _ | with_reducible refine below_alloc ?_ _ | with_reducible refine below_drewN ?_ _ | with_reducible refine Below.drew ?_ | ((with_reducible refine below_set ?_ ?_ _); rotate_left; (focus (first | (simp; done) | (simp; omega) | omega))) | with_reducible refine below_call ?_ (by assumption)))⟩
    · have h2' : decide (2 * d ≤ n) = false := by simpa using h2
      go_enter Try.func16, Try.ntmps16
      go_wp2_with (first | (go_at_call 47; refine (ValidRatio_any _ _ _).mono ?_; rintro e w1 ⟨rfl, hb1⟩; obtain ⟨hc1, hf1, hs1⟩ := bcell hb1; have hz1 := hb1.size; (try simp at hz1); (try (refine cut_ (p := w.heap.size < w1.heap.size) ?_ ?_; (focus (refine hs1 _ ?_; first | assumption | omega | (simp [go_sem]; done) | (simp [go_sem]; omega))); intro hl1a)); (try (refine cut_ (p := w.heap.size + 1 < w1.heap.size) ?_ ?_; (focus (refine hs1 _ ?_; first | assumption | omega | (simp [go_sem]; done) | (simp [go_sem]; omega))); intro hl1b)); (try (refine cut_ (p := w.heap.size + 1 + 1 < w1.heap.size) ?_ ?_; (focus (refine hs1 _ ?_; first | assumption | omega | (simp [go_sem]; done) | (simp [go_sem]; omega))); intro hl1c))) | (go_at_call 48; refine (isMoonDay_any _ _).mono ?_; rintro e w' ⟨rfl, rfl⟩))
      go_ret
      exact ⟨ret_bool (by rw [vMoon, h2']; simp), by (repeat (first | with_reducible exact Below.refl _ _ | with_reducible refine below_alloc ?_ _ | with_reducible refine below_drewN ?_ _ | with_reducible refine Below.drew ?_ | ((with_reducible refine below_set ?_ ?_ _); rotate_left; (focus (first | (simp; done) | (simp; omega) | omega))) | with_reducible refine below_call ?_ (by assumption)))⟩
  · have h1' : vRatio n d = false := by simpa using h1
    clear h1
    go_enter Try.func16, Try.ntmps16
    go_wp2_with (first | (go_at_call 47; refine (ValidRatio_any _ _ _).mono ?_; rintro e w1 ⟨rfl, hb1⟩; obtain ⟨hc1, hf1, hs1⟩ := bcell hb1; have hz1 := hb1.size; (try simp at hz1); (try (refine cut_ (p := w.heap.size < w1.heap.size) ?_ ?_; (focus (refine hs1 _ ?_; first | assumption | omega | (simp [go_sem]; done) | (simp [go_sem]; omega))); intro hl1a)); (try (refine cut_ (p := w.heap.size + 1 < w1.heap.size) ?_ ?_; (focus (refine hs1 _ ?_; first | assumption | omega | (simp [go_sem]; done) | (simp [go_sem]; omega))); intro hl1b)); (try (refine cut_ (p := w.heap.size + 1 + 1 < w1.heap.size) ?_ ?_; (focus (refine hs1 _ ?_; first | assumption | omega | (simp [go_sem]; done) | (simp [go_sem]; omega))); intro hl1c))) | (go_at_call 48; refine (isMoonDay_any _ _).mono ?_; rintro e w' ⟨rfl, rfl⟩))
    go_ret
    exact ⟨ret_bool (by rw [vMoon, h1']; rfl), by (repeat (first | with_reducible exact Below.refl _ _ | with_reducible refine below_alloc ?_ _ | with_reducible refine below_drewN ?_ _ | with_reducible refine Below.drew ?_ | ((with_reducible refine below_set ?_ ?_ _); rotate_left; (focus (first | (simp; done) | (simp; omega) | omega))) | with_reducible refine below_call ?_ (by assumption)))⟩
set_option maxHeartbeats 2000000 in
theorem l19Ok_any (n d z : Int) (w : World) :
    Calls Try.prog 46 #[.agg #[.int .i64 n, .int .i64 d, .int .i64 z]] w fun e w' => e = .returned (.bool (vMoon n d z)) ∧ Below w.heap.size w w' := by
  by_cases h1 : vRatio n d = true
  · have k1 := vRatio_yes h1
    by_cases h2 : 2 * d ≤ n
    · by_cases h3 : n ≤ 1000 * d
      · go_enter Try.func46, Try.ntmps46
        go_wp2_with (first | (go_at_call 64; refine (l02Ok_any _ _ _).mono ?_; rintro e w1 ⟨rfl, hb1⟩; obtain ⟨hc1, hf1, hs1⟩ := bcell hb1; have hz1 := hb1.size; (try simp at hz1); (try (refine cut_ (p := w.heap.size < w1.heap.size) ?_ ?_; (focus (refine hs1 _ ?_; first | assumption | omega | (simp [go_sem]; done) | (simp [go_sem]; omega))); intro hl1a)); (try (refine cut_ (p := w.heap.size + 1 < w1.heap.size) ?_ ?_; (focus (refine hs1 _ ?_; first | assumption | omega | (simp [go_sem]; done) | (simp [go_sem]; omega))); intro hl1b)); (try (refine cut_ (p := w.heap.size + 1 + 1 < w1.heap.size) ?_ ?_; (focus (refine hs1 _ ?_; first | assumption | omega | (simp [go_sem]; done) | (simp [go_sem]; omega))); intro hl1c))) | (go_at_call 49; refine (l00In_any _ _ _ _).mono ?_; rintro e w' ⟨rfl, rfl⟩))
        go_ret
        exact ⟨ret_bool (by rw [vMoon, h1, decide_eq_true h2, decide_eq_true h3]; rfl), by (repeat (first | with_reducible exact Below.refl _ _ | with_reducible refine below_alloc ?_ _ | with_reducible refine below_drewN ?_ _ | with_reducible refine Below.drew ?_ | ((with_reducible refine below_set ?_ ?_ _); rotate_left; (focus (first | (simp; done) | (simp; omega) | omega))) | with_reducible refine below_call ?_ (by assumption)))⟩
      · have h3' : decide (n ≤ 1000 * d) = false := by simpa using h3
        go_enter Try.func46, Try.ntmps46
        go_wp2_with (first | (go_at_call 64; refine (l02Ok_any _ _ _).mono ?_; rintro e w1 ⟨rfl, hb1⟩; obtain ⟨hc1, hf1, hs1⟩ := bcell hb1; have hz1 := hb1.size; (try simp at hz1); (try (refine cut_ (p := w.heap.size < w1.heap.size) ?_ ?_; (focus (refine hs1 _ ?_; first | assumption | omega | (simp [go_sem]; done) | (simp [go_sem]; omega))); intro hl1a)); (try (refine cut_ (p := w.heap.size + 1 < w1.heap.size) ?_ ?_; (focus (refine hs1 _ ?_; first | assumption | omega | (simp [go_sem]; done) | (simp [go_sem]; omega))); intro hl1b)); (try (refine cut_ (p := w.heap.size + 1 + 1 < w1.heap.size) ?_ ?_; (focus (refine hs1 _ ?_; first | assumption | omega | (simp [go_sem]; done) | (simp [go_sem]; omega))); intro hl1c))) | (go_at_call 49; refine (l00In_any _ _ _ _).mono ?_; rintro e w' ⟨rfl, rfl⟩))
        go_ret
        exact ⟨ret_bool (by rw [vMoon, h3']; simp), by (repeat (first | with_reducible exact Below.refl _ _ | with_reducible refine below_alloc ?_ _ | with_reducible refine below_drewN ?_ _ | with_reducible refine Below.drew ?_ | ((with_reducible refine below_set ?_ ?_ _); rotate_left; (focus (first | (simp; done) | (simp; omega) | omega))) | with_reducible refine below_call ?_ (by assumption)))⟩
    · have h2' : decide (2 * d ≤ n) = false := by simpa using h2
      go_enter Try.func46, Try.ntmps46
      go_wp2_with (first | (go_at_call 64; refine (l02Ok_any _ _ _).mono ?_; rintro e w1 ⟨rfl, hb1⟩; obtain ⟨hc1, hf1, hs1⟩ := bcell hb1; have hz1 := hb1.size; (try simp at hz1); (try (refine cut_ (p := w.heap.size < w1.heap.size) ?_ ?_; (focus (refine hs1 _ ?_; first | assumption | omega | (simp [go_sem]; done) | (simp [go_sem]; omega))); intro hl1a)); (try (refine cut_ (p := w.heap.size + 1 < w1.heap.size) ?_ ?_; (focus (refine hs1 _ ?_; first | assumption | omega | (simp [go_sem]; done) | (simp [go_sem]; omega))); intro hl1b)); (try (refine cut_ (p := w.heap.size + 1 + 1 < w1.heap.size) ?_ ?_; (focus (refine hs1 _ ?_; first | assumption | omega | (simp [go_sem]; done) | (simp [go_sem]; omega))); intro hl1c))) | (go_at_call 49; refine (l00In_any _ _ _ _).mono ?_; rintro e w' ⟨rfl, rfl⟩))
      go_ret
      exact ⟨ret_bool (by rw [vMoon, h2']; simp), by (repeat (first | with_reducible exact Below.refl _ _ | with_reducible refine below_alloc ?_ _ | with_reducible refine below_drewN ?_ _ | with_reducible refine Below.drew ?_ | ((with_reducible refine below_set ?_ ?_ _); rotate_left; (focus (first | (simp; done) | (simp; omega) | omega))) | with_reducible refine below_call ?_ (by assumption)))⟩
  · have h1' : vRatio n d = false := by simpa using h1
    clear h1
    go_enter Try.func46, Try.ntmps46
    go_wp2_with (first | (go_at_call 64; refine (l02Ok_any _ _ _).mono ?_; rintro e w1 ⟨rfl, hb1⟩; obtain ⟨hc1, hf1, hs1⟩ := bcell hb1; have hz1 := hb1.size; (try simp at hz1); (try (refine cut_ (p := w.heap.size < w1.heap.size) ?_ ?_; (focus (refine hs1 _ ?_; first | assumption | omega | (simp [go_sem]; done) | (simp [go_sem]; omega))); intro hl1a)); (try (refine cut_ (p := w.heap.size + 1 < w1.heap.size) ?_ ?_; (focus (refine hs1 _ ?_; first | assumption | omega | (simp [go_sem]; done) | (simp [go_sem]; omega))); intro hl1b)); (try (refine cut_ (p := w.heap.size + 1 + 1 < w1.heap.size) ?_ ?_; (focus (refine hs1 _ ?_; first | assumption | omega | (simp [go_sem]; done) | (simp [go_sem]; omega))); intro hl1c))) | (go_at_call 49; refine (l00In_any _ _ _ _).mono ?_; rintro e w' ⟨rfl, rfl⟩))
    go_ret
    exact ⟨ret_bool (by rw [vMoon, h1']; rfl), by (repeat (first | with_reducible exact Below.refl _ _ | with_reducible refine below_alloc ?_ _ | with_reducible refine below_drewN ?_ _ | with_reducible refine Below.drew ?_ | ((with_reducible refine below_set ?_ ?_ _); rotate_left; (focus (first | (simp; done) | (simp; omega) | omega))) | with_reducible refine below_call ?_ (by assumption)))⟩
set_option maxHeartbeats 400000 in
theorem specValidMoon_any (n d z : Int) (w : World) :
    Calls Try.prog 14 #[.agg #[.int .i64 n, .int .i64 d, .int .i64 z]] w fun e w' => e = .returned (.bool (vMoon n d z)) ∧ Below w.heap.size w w' := by
  go_enter Try.func14, Try.ntmps14
  go_wp2_with (go_at_call 46; refine (l19Ok_any _ _ _ _).mono ?_; rintro e w1 ⟨rfl, hb1⟩; obtain ⟨hc1, hf1, hs1⟩ := bcell hb1; have hz1 := hb1.size; (try simp at hz1); (try (refine cut_ (p := w.heap.size < w1.heap.size) ?_ ?_; (focus (refine hs1 _ ?_; first | assumption | omega | (simp [go_sem]; done) | (simp [go_sem]; omega))); intro hl1a)); (try (refine cut_ (p := w.heap.size + 1 < w1.heap.size) ?_ ?_; (focus (refine hs1 _ ?_; first | assumption | omega | (simp [go_sem]; done) | (simp [go_sem]; omega))); intro hl1b)); (try (refine cut_ (p := w.heap.size + 1 + 1 < w1.heap.size) ?_ ?_; (focus (refine hs1 _ ?_; first | assumption | omega | (simp [go_sem]; done) | (simp [go_sem]; omega))); intro hl1c)))
  go_ret
  exact ⟨rfl, by (repeat (first | with_reducible exact Below.refl _ _ | with_reducible refine below_alloc ?_ _ | with_reducible refine below_drewN ?_ _ | with_reducible refine Below.drew ?_ | ((with_reducible refine below_set ?_ ?_ _); rotate_left; (focus (first | (simp; done) | (simp; omega) | omega))) | with_reducible refine below_call ?_ (by assumption)))⟩
end Go.Proofs.Ytanfccdeacohfaa
