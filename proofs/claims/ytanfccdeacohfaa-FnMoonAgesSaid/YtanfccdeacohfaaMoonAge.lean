/- Contracts of the moon's age, of new moons and phases. No conditions but that the moon work and the days are valid. -/
import Derived.Test.YtanfccdeacohfaaMoonV
import Derived.Deep.RegionHeld3
namespace Go.Proofs.Ytanfccdeacohfaa
open Go.RowKit
set_option linter.unusedVariables false
set_option linter.unusedSimpArgs false

/-- the age of the moon, times d -/
def ageI (n d z day : Int) : Int := ((day - z) * d) % n
theorem mul_bd {a b A B : Int} (h1 : -A ≤ a) (h2 : a ≤ A) (h3 : 0 ≤ b) (h4 : b ≤ B) : -(A * B) ≤ a * b ∧ a * b ≤ A * B := by
  have hA : 0 ≤ A := by omega
  have k1 : a * b ≤ A * b := Int.mul_le_mul_of_nonneg_right h2 h3
  have k2 : A * b ≤ A * B := Int.mul_le_mul_of_nonneg_left h4 hA
  have k3 : -A * b ≤ a * b := Int.mul_le_mul_of_nonneg_right h1 h3
  rw [Int.neg_mul] at k3
  omega
theorem ageI_bd {n d z day : Int} (h : vMoon n d z = true) : 0 ≤ ageI n d z day ∧ ageI n d z day < n := by
  have := vMoon_yes h
  exact ⟨Int.emod_nonneg _ (by omega), Int.emod_lt_of_pos _ (by omega)⟩
set_option maxHeartbeats 400000 in
theorem ageOf_any (n d z day : Int) (w : World) (h : vMoon n d z = true) (h1 : -20000000 ≤ day) (h2 : day ≤ 20000000) :
    Calls Try.prog 58 #[.agg #[.int .i64 n, .int .i64 d, .int .i64 z], .int .i64 day] w fun e w' => e = .returned (.int .i64 (ageI n d z day)) ∧ Below w.heap.size w w' := by
  have hm := vMoon_yes h
  have hp := mul_bd (a := day - z) (b := d) (A := 30000000) (B := 1000000000) (by omega) (by omega) (by omega) (by omega)
  clear h
  go_enter Try.func58, Try.ntmps58
  go_wp2_with (go_at_call 52; refine (floorMod_any _ _ _ (by omega) (by omega) (by omega) (by omega)).mono ?_; rintro e w' ⟨rfl, rfl⟩)
  go_ret
  exact ⟨rfl, by (repeat (first | with_reducible exact Below.refl _ _ | with_reducible refine below_alloc ?_ _ | with_reducible refine below_drewN ?_ _ | with_reducible refine Below.drew ?_ | ((with_reducible refine below_set ?_ ?_ _); rotate_left; (focus (first | (simp; done) | (simp; omega) | omega))) | with_reducible refine below_call ?_ (by assumption)))⟩
set_option maxHeartbeats 400000 in
theorem l19Age_any (n d z day : Int) (w : World) (h : vMoon n d z = true) (h1 : -20000000 ≤ day) (h2 : day ≤ 20000000) :
    Calls Try.prog 54 #[.agg #[.int .i64 n, .int .i64 d, .int .i64 z], .int .i64 day] w fun e w' => e = .returned (.int .i64 (ageI n d z day)) ∧ Below w.heap.size w w' := by
  have hm := vMoon_yes h
  have hp := mul_bd (a := day - z) (b := d) (A := 30000000) (B := 1000000000) (by omega) (by omega) (by omega) (by omega)
  clear h
  go_enter Try.func54, Try.ntmps54
  go_wp2_with (go_at_call 50; refine (l19Mod_any _ _ _ (by omega) (by omega) (by omega) (by omega)).mono ?_; rintro e w' ⟨rfl, rfl⟩)
  go_ret
  exact ⟨rfl, by (repeat (first | with_reducible exact Below.refl _ _ | with_reducible refine below_alloc ?_ _ | with_reducible refine below_drewN ?_ _ | with_reducible refine Below.drew ?_ | ((with_reducible refine below_set ?_ ?_ _); rotate_left; (focus (first | (simp; done) | (simp; omega) | omega))) | with_reducible refine below_call ?_ (by assumption)))⟩
set_option maxHeartbeats 800000 in
theorem isNew_any (n d z day : Int) (w : World) (h : vMoon n d z = true) (h1 : -20000000 ≤ day) (h2 : day ≤ 20000000) :
    Calls Try.prog 55 #[.agg #[.int .i64 n, .int .i64 d, .int .i64 z], .int .i64 day] w fun e w' => e = .returned (.bool (decide (ageI n d z day < d))) ∧ Below w.heap.size w w' := by
  go_enter Try.func55, Try.ntmps55
  go_wp2
  go_region_held3 (fun w' => w'.cell? ⟨w.heap.size, 0, none⟩ = some (.int .i64 n) ∧ w'.cell? ⟨w.heap.size, 1, none⟩ = some (.int .i64 d) ∧ w'.cell? ⟨w.heap.size, 2, none⟩ = some (.int .i64 z) ∧ w.heap.size < w'.heap.size ∧ Below w.heap.size w w')
    (first | ((try go_split_ands); (try dsimp only); refine ⟨?_, ?_, ?_, ?_, ?_⟩ <;> first | (exact cell_call (by assumption) (by assumption) (by assumption)) | (exact lt_call (by assumption) (by assumption)) | (exact below_call' (by assumption) (by assumption)) | (exact Below.drew (by assumption)) | (with_reducible assumption) | (simp; done) | (simp [*]; done) | ((repeat (first | with_reducible exact Below.refl _ _ | with_reducible refine below_alloc ?_ _ | with_reducible refine below_drewN ?_ _ | with_reducible refine Below.drew ?_ | ((with_reducible refine below_set ?_ ?_ _); rotate_left; (focus (first | (simp; done) | (simp; omega) | omega))) | with_reducible refine below_call ?_ (by assumption))); done) | omega))
    (first | (go_at_call 58; refine (ageOf_any _ _ _ _ _ h h1 h2).mono ?_; rintro e w1 ⟨rfl, hb1⟩; obtain ⟨hc1, hf1, hs1⟩ := bcell hb1; have hz1 := hb1.size; (try simp at hz1); (try (refine cut_ (p := w.heap.size < w1.heap.size) ?_ ?_; (focus (refine hs1 _ ?_; first | assumption | omega | (simp [go_sem]; done) | (simp [go_sem]; omega))); intro hl1a)); (try (refine cut_ (p := w.heap.size + 1 < w1.heap.size) ?_ ?_; (focus (refine hs1 _ ?_; first | assumption | omega | (simp [go_sem]; done) | (simp [go_sem]; omega))); intro hl1b)); (try (refine cut_ (p := w.heap.size + 1 + 1 < w1.heap.size) ?_ ?_; (focus (refine hs1 _ ?_; first | assumption | omega | (simp [go_sem]; done) | (simp [go_sem]; omega))); intro hl1c))))
  go_wp2
  go_ret
  exact ⟨rfl, by (repeat (first | with_reducible exact Below.refl _ _ | with_reducible refine below_alloc ?_ _ | with_reducible refine below_drewN ?_ _ | with_reducible refine Below.drew ?_ | ((with_reducible refine below_set ?_ ?_ _); rotate_left; (focus (first | (simp; done) | (simp; omega) | omega))) | with_reducible refine below_call ?_ (by assumption)))⟩
/-- what PhaseOf returns -/
def phaseI (n d z day : Int) : Int := near (8 * ageI n d z day) n % 8
def phaseT (n d z day : Int) : Value :=
  if vMoon n d z then if inB day (-10000000) 10000000 then .tuple #[.int .i64 (phaseI n d z day), .int .i64 0] else .tuple #[.int .i64 0, .int .i64 2] else .tuple #[.int .i64 0, .int .i64 1]
theorem phase_bad {n d z day : Int} (h : vMoon n d z = false) : phaseT n d z day = .tuple #[.int .i64 0, .int .i64 1] := by simp [phaseT, h]
theorem phase_far {n d z day : Int} (h : vMoon n d z = true) (h' : inB day (-10000000) 10000000 = false) : phaseT n d z day = .tuple #[.int .i64 0, .int .i64 2] := by simp [phaseT, h, h']
theorem phase_ok {n d z day : Int} (h : vMoon n d z = true) (h' : inB day (-10000000) 10000000 = true) : phaseT n d z day = .tuple #[.int .i64 (phaseI n d z day), .int .i64 0] := by simp [phaseT, h, h']
theorem phaseT_form (n d z day : Int) : ∃ a b : Int, phaseT n d z day = .tuple #[.int .i64 a, .int .i64 b] := by
  unfold phaseT
  split
  · split <;> exact ⟨_, _, rfl⟩
  · exact ⟨_, _, rfl⟩
theorem near_nonneg {n d : Int} (hn : 0 ≤ n) (hd : 0 < d) : 0 ≤ near n d := Int.ediv_nonneg (by omega) (by omega)
set_option maxHeartbeats 2000000 in
theorem PhaseOf_any (n d z day : Int) (w : World) :
    Calls Try.prog 22 #[.agg #[.int .i64 n, .int .i64 d, .int .i64 z], .int .i64 day] w fun e w' => e = .returned (phaseT n d z day) ∧ Below w.heap.size w w' := by
  by_cases h : vMoon n d z = true
  · by_cases h' : inB day (-10000000) 10000000 = true
    · rw [phase_ok h h']
      have hm := vMoon_yes h
      have hd := inB_yes h'
      have ha := ageI_bd (day := day) h
      have hw : IntKind.i64.wrap (8 * ageI n d z day) = 8 * ageI n d z day := IntWalk.i64_in _ (by omega)
      have ht : (near (8 * ageI n d z day) n).tmod 8 = phaseI n d z day := by rw [Int.tmod_eq_emod_of_nonneg (near_nonneg (by omega) (by omega))]; rfl
      go_enter Try.func22, Try.ntmps22
      go_wp2_with (first | (go_at_call 16; refine (ValidMoon_any _ _ _ _).mono ?_; rintro e w1 ⟨rfl, hb1⟩; obtain ⟨hc1, hf1, hs1⟩ := bcell hb1; have hz1 := hb1.size; (try simp at hz1); (try (refine cut_ (p := w.heap.size < w1.heap.size) ?_ ?_; (focus (refine hs1 _ ?_; first | assumption | omega | (simp [go_sem]; done) | (simp [go_sem]; omega))); intro hl1a)); (try (refine cut_ (p := w.heap.size + 1 < w1.heap.size) ?_ ?_; (focus (refine hs1 _ ?_; first | assumption | omega | (simp [go_sem]; done) | (simp [go_sem]; omega))); intro hl1b)); (try (refine cut_ (p := w.heap.size + 1 + 1 < w1.heap.size) ?_ ?_; (focus (refine hs1 _ ?_; first | assumption | omega | (simp [go_sem]; done) | (simp [go_sem]; omega))); intro hl1c))) | (go_at_call 48; refine (isMoonDay_any _ _).mono ?_; rintro e w' ⟨rfl, rfl⟩))
      go_region_held3 (fun w' => w'.cell? ⟨w.heap.size, 0, none⟩ = some (.int .i64 n) ∧ w'.cell? ⟨w.heap.size, 1, none⟩ = some (.int .i64 d) ∧ w'.cell? ⟨w.heap.size, 2, none⟩ = some (.int .i64 z) ∧ w.heap.size < w'.heap.size ∧ Below w.heap.size w w')
        (first | ((try go_split_ands); (try dsimp only); refine ⟨?_, ?_, ?_, ?_, ?_⟩ <;> first | (exact cell_call (by assumption) (by assumption) (by assumption)) | (exact lt_call (by assumption) (by assumption)) | (exact below_call' (by assumption) (by assumption)) | (exact Below.drew (by assumption)) | (with_reducible assumption) | (simp; done) | (simp [*]; done) | ((repeat (first | with_reducible exact Below.refl _ _ | with_reducible refine below_alloc ?_ _ | with_reducible refine below_drewN ?_ _ | with_reducible refine Below.drew ?_ | ((with_reducible refine below_set ?_ ?_ _); rotate_left; (focus (first | (simp; done) | (simp; omega) | omega))) | with_reducible refine below_call ?_ (by assumption))); done) | omega))
        (first | (go_at_call 58; refine (ageOf_any _ _ _ _ _ h (by omega) (by omega)).mono ?_; rintro e w2 ⟨rfl, hb2⟩; obtain ⟨hc2, hf2, hs2⟩ := bcell hb2; have hz2 := hb2.size; (try simp at hz2); (try (refine cut_ (p := w.heap.size < w2.heap.size) ?_ ?_; (focus (refine hs2 _ ?_; first | assumption | omega | (simp [go_sem]; done) | (simp [go_sem]; omega))); intro hl2a)); (try (refine cut_ (p := w.heap.size + 1 < w2.heap.size) ?_ ?_; (focus (refine hs2 _ ?_; first | assumption | omega | (simp [go_sem]; done) | (simp [go_sem]; omega))); intro hl2b)); (try (refine cut_ (p := w.heap.size + 1 + 1 < w2.heap.size) ?_ ?_; (focus (refine hs2 _ ?_; first | assumption | omega | (simp [go_sem]; done) | (simp [go_sem]; omega))); intro hl2c))) | (go_at_call 57; refine (nearestDiv_any _ _ _ (by omega) (by omega) (by omega) (by omega)).mono ?_; rintro e w' ⟨rfl, rfl⟩))
      go_wp2
      go_ret2
      exact ⟨rfl, by (repeat (first | with_reducible exact Below.refl _ _ | with_reducible refine below_alloc ?_ _ | with_reducible refine below_drewN ?_ _ | with_reducible refine Below.drew ?_ | ((with_reducible refine below_set ?_ ?_ _); rotate_left; (focus (first | (simp; done) | (simp; omega) | omega))) | with_reducible refine below_call ?_ (by assumption)))⟩
    · have h2 : inB day (-10000000) 10000000 = false := by simpa using h'
      rw [phase_far h h2]
      clear h'
      go_enter Try.func22, Try.ntmps22
      go_wp2_with (first | (go_at_call 16; refine (ValidMoon_any _ _ _ _).mono ?_; rintro e w1 ⟨rfl, hb1⟩; obtain ⟨hc1, hf1, hs1⟩ := bcell hb1; have hz1 := hb1.size; (try simp at hz1); (try (refine cut_ (p := w.heap.size < w1.heap.size) ?_ ?_; (focus (refine hs1 _ ?_; first | assumption | omega | (simp [go_sem]; done) | (simp [go_sem]; omega))); intro hl1a)); (try (refine cut_ (p := w.heap.size + 1 < w1.heap.size) ?_ ?_; (focus (refine hs1 _ ?_; first | assumption | omega | (simp [go_sem]; done) | (simp [go_sem]; omega))); intro hl1b)); (try (refine cut_ (p := w.heap.size + 1 + 1 < w1.heap.size) ?_ ?_; (focus (refine hs1 _ ?_; first | assumption | omega | (simp [go_sem]; done) | (simp [go_sem]; omega))); intro hl1c))) | (go_at_call 48; refine (isMoonDay_any _ _).mono ?_; rintro e w' ⟨rfl, rfl⟩))
      go_ret2
      exact ⟨rfl, by (repeat (first | with_reducible exact Below.refl _ _ | with_reducible refine below_alloc ?_ _ | with_reducible refine below_drewN ?_ _ | with_reducible refine Below.drew ?_ | ((with_reducible refine below_set ?_ ?_ _); rotate_left; (focus (first | (simp; done) | (simp; omega) | omega))) | with_reducible refine below_call ?_ (by assumption)))⟩
  · have h2 : vMoon n d z = false := by simpa using h
    rw [phase_bad h2]
    clear h
    go_enter Try.func22, Try.ntmps22
    go_wp2_with (go_at_call 16; refine (ValidMoon_any _ _ _ _).mono ?_; rintro e w1 ⟨rfl, hb1⟩; obtain ⟨hc1, hf1, hs1⟩ := bcell hb1; have hz1 := hb1.size; (try simp at hz1); (try (refine cut_ (p := w.heap.size < w1.heap.size) ?_ ?_; (focus (refine hs1 _ ?_; first | assumption | omega | (simp [go_sem]; done) | (simp [go_sem]; omega))); intro hl1a)); (try (refine cut_ (p := w.heap.size + 1 < w1.heap.size) ?_ ?_; (focus (refine hs1 _ ?_; first | assumption | omega | (simp [go_sem]; done) | (simp [go_sem]; omega))); intro hl1b)); (try (refine cut_ (p := w.heap.size + 1 + 1 < w1.heap.size) ?_ ?_; (focus (refine hs1 _ ?_; first | assumption | omega | (simp [go_sem]; done) | (simp [go_sem]; omega))); intro hl1c)))
    go_ret2
    exact ⟨rfl, by (repeat (first | with_reducible exact Below.refl _ _ | with_reducible refine below_alloc ?_ _ | with_reducible refine below_drewN ?_ _ | with_reducible refine Below.drew ?_ | ((with_reducible refine below_set ?_ ?_ _); rotate_left; (focus (first | (simp; done) | (simp; omega) | omega))) | with_reducible refine below_call ?_ (by assumption)))⟩
set_option maxHeartbeats 2000000 in
theorem specPhaseOf_any (n d z day : Int) (w : World) :
    Calls Try.prog 21 #[.agg #[.int .i64 n, .int .i64 d, .int .i64 z], .int .i64 day] w fun e w' => e = .returned (phaseT n d z day) ∧ Below w.heap.size w w' := by
  by_cases h : vMoon n d z = true
  · by_cases h' : inB day (-10000000) 10000000 = true
    · rw [phase_ok h h']
      have hm := vMoon_yes h
      have hd := inB_yes h'
      have ha := ageI_bd (day := day) h
      have hw : IntKind.i64.wrap (8 * ageI n d z day) = 8 * ageI n d z day := IntWalk.i64_in _ (by omega)
      have ht : (near (8 * ageI n d z day) n).tmod 8 = phaseI n d z day := by rw [Int.tmod_eq_emod_of_nonneg (near_nonneg (by omega) (by omega))]; rfl
      go_enter Try.func21, Try.ntmps21
      go_wp2_with (first | (go_at_call 46; refine (l19Ok_any _ _ _ _).mono ?_; rintro e w1 ⟨rfl, hb1⟩; obtain ⟨hc1, hf1, hs1⟩ := bcell hb1; have hz1 := hb1.size; (try simp at hz1); (try (refine cut_ (p := w.heap.size < w1.heap.size) ?_ ?_; (focus (refine hs1 _ ?_; first | assumption | omega | (simp [go_sem]; done) | (simp [go_sem]; omega))); intro hl1a)); (try (refine cut_ (p := w.heap.size + 1 < w1.heap.size) ?_ ?_; (focus (refine hs1 _ ?_; first | assumption | omega | (simp [go_sem]; done) | (simp [go_sem]; omega))); intro hl1b)); (try (refine cut_ (p := w.heap.size + 1 + 1 < w1.heap.size) ?_ ?_; (focus (refine hs1 _ ?_; first | assumption | omega | (simp [go_sem]; done) | (simp [go_sem]; omega))); intro hl1c))) | (go_at_call 53; refine (l19Day_any _ _).mono ?_; rintro e w' ⟨rfl, rfl⟩))
      go_region_held3 (fun w' => w'.cell? ⟨w.heap.size, 0, none⟩ = some (.int .i64 n) ∧ w'.cell? ⟨w.heap.size, 1, none⟩ = some (.int .i64 d) ∧ w'.cell? ⟨w.heap.size, 2, none⟩ = some (.int .i64 z) ∧ w.heap.size < w'.heap.size ∧ Below w.heap.size w w')
        (first | ((try go_split_ands); (try dsimp only); refine ⟨?_, ?_, ?_, ?_, ?_⟩ <;> first | (exact cell_call (by assumption) (by assumption) (by assumption)) | (exact lt_call (by assumption) (by assumption)) | (exact below_call' (by assumption) (by assumption)) | (exact Below.drew (by assumption)) | (with_reducible assumption) | (simp; done) | (simp [*]; done) | ((repeat (first | with_reducible exact Below.refl _ _ | with_reducible refine below_alloc ?_ _ | with_reducible refine below_drewN ?_ _ | with_reducible refine Below.drew ?_ | ((with_reducible refine below_set ?_ ?_ _); rotate_left; (focus (first | (simp; done) | (simp; omega) | omega))) | with_reducible refine below_call ?_ (by assumption))); done) | omega))
        (first | (go_at_call 54; refine (l19Age_any _ _ _ _ _ h (by omega) (by omega)).mono ?_; rintro e w2 ⟨rfl, hb2⟩; obtain ⟨hc2, hf2, hs2⟩ := bcell hb2; have hz2 := hb2.size; (try simp at hz2); (try (refine cut_ (p := w.heap.size < w2.heap.size) ?_ ?_; (focus (refine hs2 _ ?_; first | assumption | omega | (simp [go_sem]; done) | (simp [go_sem]; omega))); intro hl2a)); (try (refine cut_ (p := w.heap.size + 1 < w2.heap.size) ?_ ?_; (focus (refine hs2 _ ?_; first | assumption | omega | (simp [go_sem]; done) | (simp [go_sem]; omega))); intro hl2b)); (try (refine cut_ (p := w.heap.size + 1 + 1 < w2.heap.size) ?_ ?_; (focus (refine hs2 _ ?_; first | assumption | omega | (simp [go_sem]; done) | (simp [go_sem]; omega))); intro hl2c))) | (go_at_call 56; refine (l02Near_any _ _ _ (by omega) (by omega) (by omega) (by omega)).mono ?_; rintro e w' ⟨rfl, rfl⟩))
      go_wp2
      go_ret2
      exact ⟨rfl, by (repeat (first | with_reducible exact Below.refl _ _ | with_reducible refine below_alloc ?_ _ | with_reducible refine below_drewN ?_ _ | with_reducible refine Below.drew ?_ | ((with_reducible refine below_set ?_ ?_ _); rotate_left; (focus (first | (simp; done) | (simp; omega) | omega))) | with_reducible refine below_call ?_ (by assumption)))⟩
    · have h2 : inB day (-10000000) 10000000 = false := by simpa using h'
      rw [phase_far h h2]
      clear h'
      go_enter Try.func21, Try.ntmps21
      go_wp2_with (first | (go_at_call 46; refine (l19Ok_any _ _ _ _).mono ?_; rintro e w1 ⟨rfl, hb1⟩; obtain ⟨hc1, hf1, hs1⟩ := bcell hb1; have hz1 := hb1.size; (try simp at hz1); (try (refine cut_ (p := w.heap.size < w1.heap.size) ?_ ?_; (focus (refine hs1 _ ?_; first | assumption | omega | (simp [go_sem]; done) | (simp [go_sem]; omega))); intro hl1a)); (try (refine cut_ (p := w.heap.size + 1 < w1.heap.size) ?_ ?_; (focus (refine hs1 _ ?_; first | assumption | omega | (simp [go_sem]; done) | (simp [go_sem]; omega))); intro hl1b)); (try (refine cut_ (p := w.heap.size + 1 + 1 < w1.heap.size) ?_ ?_; (focus (refine hs1 _ ?_; first | assumption | omega | (simp [go_sem]; done) | (simp [go_sem]; omega))); intro hl1c))) | (go_at_call 53; refine (l19Day_any _ _).mono ?_; rintro e w' ⟨rfl, rfl⟩))
      go_ret2
      exact ⟨rfl, by (repeat (first | with_reducible exact Below.refl _ _ | with_reducible refine below_alloc ?_ _ | with_reducible refine below_drewN ?_ _ | with_reducible refine Below.drew ?_ | ((with_reducible refine below_set ?_ ?_ _); rotate_left; (focus (first | (simp; done) | (simp; omega) | omega))) | with_reducible refine below_call ?_ (by assumption)))⟩
  · have h2 : vMoon n d z = false := by simpa using h
    rw [phase_bad h2]
    clear h
    go_enter Try.func21, Try.ntmps21
    go_wp2_with (go_at_call 46; refine (l19Ok_any _ _ _ _).mono ?_; rintro e w1 ⟨rfl, hb1⟩; obtain ⟨hc1, hf1, hs1⟩ := bcell hb1; have hz1 := hb1.size; (try simp at hz1); (try (refine cut_ (p := w.heap.size < w1.heap.size) ?_ ?_; (focus (refine hs1 _ ?_; first | assumption | omega | (simp [go_sem]; done) | (simp [go_sem]; omega))); intro hl1a)); (try (refine cut_ (p := w.heap.size + 1 < w1.heap.size) ?_ ?_; (focus (refine hs1 _ ?_; first | assumption | omega | (simp [go_sem]; done) | (simp [go_sem]; omega))); intro hl1b)); (try (refine cut_ (p := w.heap.size + 1 + 1 < w1.heap.size) ?_ ?_; (focus (refine hs1 _ ?_; first | assumption | omega | (simp [go_sem]; done) | (simp [go_sem]; omega))); intro hl1c)))
    go_ret2
    exact ⟨rfl, by (repeat (first | with_reducible exact Below.refl _ _ | with_reducible refine below_alloc ?_ _ | with_reducible refine below_drewN ?_ _ | with_reducible refine Below.drew ?_ | ((with_reducible refine below_set ?_ ?_ _); rotate_left; (focus (first | (simp; done) | (simp; omega) | omega))) | with_reducible refine below_call ?_ (by assumption)))⟩
end Go.Proofs.Ytanfccdeacohfaa
