/- Contracts of the two functions NextNewMoon: both return the first day of new moon from a day on. No conditions. -/
import Derived.Test.YtanfccdeacohfaaMoonAge
namespace Go.Proofs.Ytanfccdeacohfaa
open Go.RowKit
set_option linter.unusedVariables false
set_option linter.unusedSimpArgs false

theorem age_step {n d z x : Int} (h : vMoon n d z = true) : ageI n d z (x + 1) = if ageI n d z x + d < n then ageI n d z x + d else ageI n d z x + d - n := by
  have hm := vMoon_yes h
  have ha := ageI_bd (day := x) h
  have e : (x + 1 - z) * d = (x - z) * d + d := by
    rw [show x + 1 - z = (x - z) + 1 from by omega, Int.add_mul, Int.one_mul]
  have e1 : ageI n d z (x + 1) = (ageI n d z x + d) % n := by
    unfold ageI
    rw [e, Int.emod_add_emod]
  rw [e1]
  split
  · exact Int.emod_eq_of_lt (by omega) (by omega)
  · rw [← Int.sub_emod_right]
    exact Int.emod_eq_of_lt (by omega) (by omega)
/-- after k days, none of them a day of new moon -/
def Old (n d z day : Int) (k : Nat) : Prop := ∀ j : Nat, j < k → d ≤ ageI n d z (day + j) ∧ ageI n d z (day + j) = ageI n d z day + j * d
theorem Old.none_ {n d z day : Int} : Old n d z day 0 := fun j hj => absurd hj (by omega)
theorem Old.more {n d z day : Int} {k : Nat} (hv : vMoon n d z = true) (h : Old n d z day k) (hk : d ≤ ageI n d z (day + k)) : Old n d z day (k + 1) := by
  intro j hj
  by_cases e : j < k
  · exact h j e
  · have e : j = k := by omega
    subst e
    refine ⟨hk, ?_⟩
    rcases Nat.eq_zero_or_pos j with h0 | h0
    · subst h0; simp
    · obtain ⟨i, rfl⟩ : ∃ i, j = i + 1 := ⟨j - 1, by omega⟩
      obtain ⟨h1, h2⟩ := h i (by omega)
      have hs := age_step (x := day + i) hv
      have hb := ageI_bd (day := day + (i : Int)) hv
      have hm := vMoon_yes hv
      have e2 : day + ((i + 1 : Nat) : Int) = day + i + 1 := by omega
      rw [e2] at hk ⊢
      have e3 : (((i + 1 : Nat) : Int)) * d = (i : Int) * d + d := by
        rw [show ((i + 1 : Nat) : Int) = (i : Int) + 1 from by omega, Int.add_mul, Int.one_mul]
      rw [e3]
      split at hs <;> omega
theorem Old.bound {n d z day : Int} {k : Nat} (hv : vMoon n d z = true) (h : Old n d z day k) : k ≤ 1001 := by
  rcases Nat.lt_or_ge 1001 k with hk | hk
  · obtain ⟨h1, h2⟩ := h 1001 hk
    have hb := ageI_bd (day := day + ((1001 : Nat) : Int)) hv
    have hb' := ageI_bd (day := day) hv
    have hm := vMoon_yes hv
    rw [h2] at hb
    omega
  · exact hk
/-- k days behind the day is the first day of new moon -/
def IsNext (n d z day : Int) (k : Nat) : Prop := Old n d z day k ∧ ageI n d z (day + k) < d
theorem IsNext.only {n d z day : Int} {k k' : Nat} (h : IsNext n d z day k) (h' : IsNext n d z day k') : k = k' := by
  rcases Nat.lt_trichotomy k k' with e | e | e
  · have := (h'.1 k e).1; have := h.2; omega
  · exact e
  · have := (h.1 k' e).1; have := h'.2; omega
open Classical in
noncomputable def nextI (n d z day : Int) : Nat := if h : ∃ k, IsNext n d z day k then h.choose else 0
theorem nextI_of {n d z day : Int} {k : Nat} (h : IsNext n d z day k) : nextI n d z day = k := by
  have hh : ∃ k, IsNext n d z day k := ⟨k, h⟩
  unfold nextI
  rw [dif_pos hh]
  exact IsNext.only hh.choose_spec h
noncomputable def nextT (n d z day : Int) : Value :=
  if vMoon n d z then if inB day (-10000000) 10000000 then .tuple #[.int .i64 (day + nextI n d z day), .int .i64 0] else .tuple #[.int .i64 0, .int .i64 2] else .tuple #[.int .i64 0, .int .i64 1]
theorem next_bad {n d z day : Int} (h : vMoon n d z = false) : nextT n d z day = .tuple #[.int .i64 0, .int .i64 1] := by simp [nextT, h]
theorem next_far {n d z day : Int} (h : vMoon n d z = true) (h' : inB day (-10000000) 10000000 = false) : nextT n d z day = .tuple #[.int .i64 0, .int .i64 2] := by simp [nextT, h, h']
theorem next_ok {n d z day : Int} (h : vMoon n d z = true) (h' : inB day (-10000000) 10000000 = true) : nextT n d z day = .tuple #[.int .i64 (day + nextI n d z day), .int .i64 0] := by simp [nextT, h, h']
theorem nextT_form (n d z day : Int) : ∃ a b : Int, nextT n d z day = .tuple #[.int .i64 a, .int .i64 b] := by
  unfold nextT
  split
  · split <;> exact ⟨_, _, rfl⟩
  · exact ⟨_, _, rfl⟩
theorem ret_two {a b : Int} (h : a = b) : Ending.returned (.tuple #[.int .i64 a, .int .i64 0]) = .returned (.tuple #[.int .i64 b, .int .i64 0]) := by rw [h]
set_option maxHeartbeats 2000000 in
theorem NextNewMoon_any (n d z day : Int) (w : World) :
    Calls Try.prog 20 #[.agg #[.int .i64 n, .int .i64 d, .int .i64 z], .int .i64 day] w fun e w' => e = .returned (nextT n d z day) ∧ Below w.heap.size w w' := by
  by_cases h : vMoon n d z = true
  · by_cases h' : inB day (-10000000) 10000000 = true
    · rw [next_ok h h']
      have hd := inB_yes h'
      go_enter Try.func20, Try.ntmps20
      go_wp2_with (first | (go_at_call 16; refine (ValidMoon_any _ _ _ _).mono ?_; rintro e w1 ⟨rfl, hb1⟩; obtain ⟨hc1, hf1, hs1⟩ := bcell hb1; have hz1 := hb1.size; (try simp at hz1); (try (refine cut_ (p := w.heap.size < w1.heap.size) ?_ ?_; (focus (refine hs1 _ ?_; first | assumption | omega | (simp [go_sem]; done) | (simp [go_sem]; omega))); intro hl1a)); (try (refine cut_ (p := w.heap.size + 1 < w1.heap.size) ?_ ?_; (focus (refine hs1 _ ?_; first | assumption | omega | (simp [go_sem]; done) | (simp [go_sem]; omega))); intro hl1b)); (try (refine cut_ (p := w.heap.size + 1 + 1 < w1.heap.size) ?_ ?_; (focus (refine hs1 _ ?_; first | assumption | omega | (simp [go_sem]; done) | (simp [go_sem]; omega))); intro hl1c))) | (go_at_call 48; refine (isMoonDay_any _ _).mono ?_; rintro e w' ⟨rfl, rfl⟩))
      go_loopw [1] (fun t wr => ∃ k : Nat, t = .int .i64 (day + k) ∧ Old n d z day k ∧ wr.cell? ⟨w.heap.size, 0, none⟩ = some (.int .i64 n) ∧ wr.cell? ⟨w.heap.size, 1, none⟩ = some (.int .i64 d) ∧ wr.cell? ⟨w.heap.size, 2, none⟩ = some (.int .i64 z) ∧ w.heap.size < wr.heap.size ∧ Below w.heap.size w wr)
        (fun t _ => (day + 1002 - intOf t).toNat)
      case atStart => exact ⟨0, by simp, Old.none_, by simp [hc1], by simp [hc1], by simp [hc1], by omega, by (repeat (first | with_reducible exact Below.refl _ _ | with_reducible refine below_alloc ?_ _ | with_reducible refine below_drewN ?_ _ | with_reducible refine Below.drew ?_ | ((with_reducible refine below_set ?_ ?_ _); rotate_left; (focus (first | (simp; done) | (simp; omega) | omega))) | with_reducible refine below_call ?_ (by assumption)))⟩
      case round =>
        obtain ⟨k, rfl, ho, g0, g1, g2, hlt, hB⟩ := hrel
        have hk := ho.bound h
        have HO := Lib.hid ho
        clear ho hc1 hf1 hs1
        by_cases hnew : ageI n d z (day + k) < d
        · have hdec : decide (ageI n d z (day + k) < d) = true := by simpa using hnew
          have HN := Lib.hid (nextI_of ⟨HO.out, hnew⟩)
          go_wp2_with (go_at_call 55; refine (isNew_any _ _ _ _ _ h (by omega) (by omega)).mono ?_; rintro e w2 ⟨rfl, hb2⟩; obtain ⟨hc2, hf2, hs2⟩ := bcell hb2; have hz2 := hb2.size; (try simp at hz2); (try (refine cut_ (p := w.heap.size < w2.heap.size) ?_ ?_; (focus (refine hs2 _ ?_; first | assumption | omega | (simp [go_sem]; done) | (simp [go_sem]; omega))); intro hl2a)); (try (refine cut_ (p := w.heap.size + 1 < w2.heap.size) ?_ ?_; (focus (refine hs2 _ ?_; first | assumption | omega | (simp [go_sem]; done) | (simp [go_sem]; omega))); intro hl2b)); (try (refine cut_ (p := w.heap.size + 1 + 1 < w2.heap.size) ?_ ?_; (focus (refine hs2 _ ?_; first | assumption | omega | (simp [go_sem]; done) | (simp [go_sem]; omega))); intro hl2c)))
          go_ret2
          exact ⟨ret_two (by rw [HN.out]), by (repeat (first | with_reducible exact Below.refl _ _ | with_reducible refine below_alloc ?_ _ | with_reducible refine below_drewN ?_ _ | with_reducible refine Below.drew ?_ | ((with_reducible refine below_set ?_ ?_ _); rotate_left; (focus (first | (simp; done) | (simp; omega) | omega))) | with_reducible refine below_call ?_ (by assumption)))⟩
        · have hdec : decide (ageI n d z (day + k) < d) = false := by simpa using hnew
          have HO2 := Lib.hid (HO.out.more h (by omega))
          go_wp2_with (go_at_call 55; refine (isNew_any _ _ _ _ _ h (by omega) (by omega)).mono ?_; rintro e w2 ⟨rfl, hb2⟩; obtain ⟨hc2, hf2, hs2⟩ := bcell hb2; have hz2 := hb2.size; (try simp at hz2); (try (refine cut_ (p := w.heap.size < w2.heap.size) ?_ ?_; (focus (refine hs2 _ ?_; first | assumption | omega | (simp [go_sem]; done) | (simp [go_sem]; omega))); intro hl2a)); (try (refine cut_ (p := w.heap.size + 1 < w2.heap.size) ?_ ?_; (focus (refine hs2 _ ?_; first | assumption | omega | (simp [go_sem]; done) | (simp [go_sem]; omega))); intro hl2b)); (try (refine cut_ (p := w.heap.size + 1 + 1 < w2.heap.size) ?_ ?_; (focus (refine hs2 _ ?_; first | assumption | omega | (simp [go_sem]; done) | (simp [go_sem]; omega))); intro hl2c)))
          go_roundw
          case rel => exact ⟨k + 1, by go_num, HO2.out, by first | assumption | simp [*], by first | assumption | simp [*], by first | assumption | simp [*], by first | omega | assumption, by (repeat (first | with_reducible exact Below.refl _ _ | with_reducible refine below_alloc ?_ _ | with_reducible refine below_drewN ?_ _ | with_reducible refine Below.drew ?_ | ((with_reducible refine below_set ?_ ?_ _); rotate_left; (focus (first | (simp; done) | (simp; omega) | omega))) | with_reducible refine below_call ?_ (by assumption)))⟩
          case measure => simp [intOf]; omega
    · have h2 : inB day (-10000000) 10000000 = false := by simpa using h'
      rw [next_far h h2]
      clear h'
      go_enter Try.func20, Try.ntmps20
      go_wp2_with (first | (go_at_call 16; refine (ValidMoon_any _ _ _ _).mono ?_; rintro e w1 ⟨rfl, hb1⟩; obtain ⟨hc1, hf1, hs1⟩ := bcell hb1; have hz1 := hb1.size; (try simp at hz1); (try (refine cut_ (p := w.heap.size < w1.heap.size) ?_ ?_; (focus (refine hs1 _ ?_; first | assumption | omega | (simp [go_sem]; done) | (simp [go_sem]; omega))); intro hl1a)); (try (refine cut_ (p := w.heap.size + 1 < w1.heap.size) ?_ ?_; (focus (refine hs1 _ ?_; first | assumption | omega | (simp [go_sem]; done) | (simp [go_sem]; omega))); intro hl1b)); (try (refine cut_ (p := w.heap.size + 1 + 1 < w1.heap.size) ?_ ?_; (focus (refine hs1 _ ?_; first | assumption | omega | (simp [go_sem]; done) | (simp [go_sem]; omega))); intro hl1c))) | (go_at_call 48; refine (isMoonDay_any _ _).mono ?_; rintro e w' ⟨rfl, rfl⟩))
      go_ret2
      exact ⟨rfl, by (repeat (first | with_reducible exact Below.refl _ _ | with_reducible refine below_alloc ?_ _ | with_reducible refine below_drewN ?_ _ | with_reducible refine Below.drew ?_ | ((with_reducible refine below_set ?_ ?_ _); rotate_left; (focus (first | (simp; done) | (simp; omega) | omega))) | with_reducible refine below_call ?_ (by assumption)))⟩
  · have h2 : vMoon n d z = false := by simpa using h
    rw [next_bad h2]
    clear h
    go_enter Try.func20, Try.ntmps20
    go_wp2_with (go_at_call 16; refine (ValidMoon_any _ _ _ _).mono ?_; rintro e w1 ⟨rfl, hb1⟩; obtain ⟨hc1, hf1, hs1⟩ := bcell hb1; have hz1 := hb1.size; (try simp at hz1); (try (refine cut_ (p := w.heap.size < w1.heap.size) ?_ ?_; (focus (refine hs1 _ ?_; first | assumption | omega | (simp [go_sem]; done) | (simp [go_sem]; omega))); intro hl1a)); (try (refine cut_ (p := w.heap.size + 1 < w1.heap.size) ?_ ?_; (focus (refine hs1 _ ?_; first | assumption | omega | (simp [go_sem]; done) | (simp [go_sem]; omega))); intro hl1b)); (try (refine cut_ (p := w.heap.size + 1 + 1 < w1.heap.size) ?_ ?_; (focus (refine hs1 _ ?_; first | assumption | omega | (simp [go_sem]; done) | (simp [go_sem]; omega))); intro hl1c)))
    go_ret2
    exact ⟨rfl, by (repeat (first | with_reducible exact Below.refl _ _ | with_reducible refine below_alloc ?_ _ | with_reducible refine below_drewN ?_ _ | with_reducible refine Below.drew ?_ | ((with_reducible refine below_set ?_ ?_ _); rotate_left; (focus (first | (simp; done) | (simp; omega) | omega))) | with_reducible refine below_call ?_ (by assumption)))⟩
set_option maxHeartbeats 2000000 in
theorem specNextNewMoon_any (n d z day : Int) (w : World) :
    Calls Try.prog 19 #[.agg #[.int .i64 n, .int .i64 d, .int .i64 z], .int .i64 day] w fun e w' => e = .returned (nextT n d z day) ∧ Below w.heap.size w w' := by
  by_cases h : vMoon n d z = true
  · by_cases h' : inB day (-10000000) 10000000 = true
    · rw [next_ok h h']
      have hd := inB_yes h'
      go_enter Try.func19, Try.ntmps19
      go_wp2_with (first | (go_at_call 46; refine (l19Ok_any _ _ _ _).mono ?_; rintro e w1 ⟨rfl, hb1⟩; obtain ⟨hc1, hf1, hs1⟩ := bcell hb1; have hz1 := hb1.size; (try simp at hz1); (try (refine cut_ (p := w.heap.size < w1.heap.size) ?_ ?_; (focus (refine hs1 _ ?_; first | assumption | omega | (simp [go_sem]; done) | (simp [go_sem]; omega))); intro hl1a)); (try (refine cut_ (p := w.heap.size + 1 < w1.heap.size) ?_ ?_; (focus (refine hs1 _ ?_; first | assumption | omega | (simp [go_sem]; done) | (simp [go_sem]; omega))); intro hl1b)); (try (refine cut_ (p := w.heap.size + 1 + 1 < w1.heap.size) ?_ ?_; (focus (refine hs1 _ ?_; first | assumption | omega | (simp [go_sem]; done) | (simp [go_sem]; omega))); intro hl1c))) | (go_at_call 53; refine (l19Day_any _ _).mono ?_; rintro e w' ⟨rfl, rfl⟩))
      go_loopw [1] (fun t wr => ∃ k : Nat, t = .int .i64 (day + k) ∧ Old n d z day k ∧ wr.cell? ⟨w.heap.size, 0, none⟩ = some (.int .i64 n) ∧ wr.cell? ⟨w.heap.size, 1, none⟩ = some (.int .i64 d) ∧ wr.cell? ⟨w.heap.size, 2, none⟩ = some (.int .i64 z) ∧ w.heap.size < wr.heap.size ∧ Below w.heap.size w wr)
        (fun t _ => (day + 1002 - intOf t).toNat)
      case atStart => exact ⟨0, by simp, Old.none_, by simp [hc1], by simp [hc1], by simp [hc1], by omega, by (repeat (first | with_reducible exact Below.refl _ _ | with_reducible refine below_alloc ?_ _ | with_reducible refine below_drewN ?_ _ | with_reducible refine Below.drew ?_ | ((with_reducible refine below_set ?_ ?_ _); rotate_left; (focus (first | (simp; done) | (simp; omega) | omega))) | with_reducible refine below_call ?_ (by assumption)))⟩
      case round =>
        obtain ⟨k, rfl, ho, g0, g1, g2, hlt, hB⟩ := hrel
        have hk := ho.bound h
        have HO := Lib.hid ho
        clear ho hc1 hf1 hs1
        by_cases hnew : ageI n d z (day + k) < d
        · have hdec : decide (ageI n d z (day + k) < d) = true := by simpa using hnew
          have HN := Lib.hid (nextI_of ⟨HO.out, hnew⟩)
          go_wp2
          go_region_held3 (fun w' => w'.cell? ⟨w.heap.size, 0, none⟩ = some (.int .i64 n) ∧ w'.cell? ⟨w.heap.size, 1, none⟩ = some (.int .i64 d) ∧ w'.cell? ⟨w.heap.size, 2, none⟩ = some (.int .i64 z) ∧ w.heap.size < w'.heap.size ∧ Below w.heap.size w w') (first | ((try go_split_ands); (try dsimp only); refine ⟨?_, ?_, ?_, ?_, ?_⟩ <;> first | (exact cell_call (by assumption) (by assumption) (by assumption)) | (exact lt_call (by assumption) (by assumption)) | (exact below_call' (by assumption) (by assumption)) | (exact Below.drew (by assumption)) | (with_reducible assumption) | (simp; done) | (simp [*]; done) | ((repeat (first | with_reducible exact Below.refl _ _ | with_reducible refine below_alloc ?_ _ | with_reducible refine below_drewN ?_ _ | with_reducible refine Below.drew ?_ | ((with_reducible refine below_set ?_ ?_ _); rotate_left; (focus (first | (simp; done) | (simp; omega) | omega))) | with_reducible refine below_call ?_ (by assumption))); done) | omega)) (first | (go_at_call 54; refine (l19Age_any _ _ _ _ _ h (by omega) (by omega)).mono ?_; rintro e w2 ⟨rfl, hb2⟩; obtain ⟨hc2, hf2, hs2⟩ := bcell hb2; have hz2 := hb2.size; (try simp at hz2); (try (refine cut_ (p := w.heap.size < w2.heap.size) ?_ ?_; (focus (refine hs2 _ ?_; first | assumption | omega | (simp [go_sem]; done) | (simp [go_sem]; omega))); intro hl2a)); (try (refine cut_ (p := w.heap.size + 1 < w2.heap.size) ?_ ?_; (focus (refine hs2 _ ?_; first | assumption | omega | (simp [go_sem]; done) | (simp [go_sem]; omega))); intro hl2b)); (try (refine cut_ (p := w.heap.size + 1 + 1 < w2.heap.size) ?_ ?_; (focus (refine hs2 _ ?_; first | assumption | omega | (simp [go_sem]; done) | (simp [go_sem]; omega))); intro hl2c))))
          go_wp2
          go_ret2
          exact ⟨ret_two (by rw [HN.out]), by (repeat (first | with_reducible exact Below.refl _ _ | with_reducible refine below_alloc ?_ _ | with_reducible refine below_drewN ?_ _ | with_reducible refine Below.drew ?_ | ((with_reducible refine below_set ?_ ?_ _); rotate_left; (focus (first | (simp; done) | (simp; omega) | omega))) | with_reducible refine below_call ?_ (by assumption)))⟩
        · have hdec : decide (ageI n d z (day + k) < d) = false := by simpa using hnew
          have HO2 := Lib.hid (HO.out.more h (by omega))
          go_wp2
          go_region_held3 (fun w' => w'.cell? ⟨w.heap.size, 0, none⟩ = some (.int .i64 n) ∧ w'.cell? ⟨w.heap.size, 1, none⟩ = some (.int .i64 d) ∧ w'.cell? ⟨w.heap.size, 2, none⟩ = some (.int .i64 z) ∧ w.heap.size < w'.heap.size ∧ Below w.heap.size w w') (first | ((try go_split_ands); (try dsimp only); refine ⟨?_, ?_, ?_, ?_, ?_⟩ <;> first | (exact cell_call (by assumption) (by assumption) (by assumption)) | (exact lt_call (by assumption) (by assumption)) | (exact below_call' (by assumption) (by assumption)) | (exact Below.drew (by assumption)) | (with_reducible assumption) | (simp; done) | (simp [*]; done) | ((repeat (first | with_reducible exact Below.refl _ _ | with_reducible refine below_alloc ?_ _ | with_reducible refine below_drewN ?_ _ | with_reducible refine Below.drew ?_ | ((with_reducible refine below_set ?_ ?_ _); rotate_left; (focus (first | (simp; done) | (simp; omega) | omega))) | with_reducible refine below_call ?_ (by assumption))); done) | omega)) (first | (go_at_call 54; refine (l19Age_any _ _ _ _ _ h (by omega) (by omega)).mono ?_; rintro e w2 ⟨rfl, hb2⟩; obtain ⟨hc2, hf2, hs2⟩ := bcell hb2; have hz2 := hb2.size; (try simp at hz2); (try (refine cut_ (p := w.heap.size < w2.heap.size) ?_ ?_; (focus (refine hs2 _ ?_; first | assumption | omega | (simp [go_sem]; done) | (simp [go_sem]; omega))); intro hl2a)); (try (refine cut_ (p := w.heap.size + 1 < w2.heap.size) ?_ ?_; (focus (refine hs2 _ ?_; first | assumption | omega | (simp [go_sem]; done) | (simp [go_sem]; omega))); intro hl2b)); (try (refine cut_ (p := w.heap.size + 1 + 1 < w2.heap.size) ?_ ?_; (focus (refine hs2 _ ?_; first | assumption | omega | (simp [go_sem]; done) | (simp [go_sem]; omega))); intro hl2c))))
          go_wp2
          go_roundw
          case rel => exact ⟨k + 1, by go_num, HO2.out, by first | assumption | simp [*], by first | assumption | simp [*], by first | assumption | simp [*], by first | omega | assumption, by (repeat (first | with_reducible exact Below.refl _ _ | with_reducible refine below_alloc ?_ _ | with_reducible refine below_drewN ?_ _ | with_reducible refine Below.drew ?_ | ((with_reducible refine below_set ?_ ?_ _); rotate_left; (focus (first | (simp; done) | (simp; omega) | omega))) | with_reducible refine below_call ?_ (by assumption)))⟩
          case measure => simp [intOf]; omega
    · have h2 : inB day (-10000000) 10000000 = false := by simpa using h'
      rw [next_far h h2]
      clear h'
      go_enter Try.func19, Try.ntmps19
      go_wp2_with (first | (go_at_call 46; refine (l19Ok_any _ _ _ _).mono ?_; rintro e w1 ⟨rfl, hb1⟩; obtain ⟨hc1, hf1, hs1⟩ := bcell hb1; have hz1 := hb1.size; (try simp at hz1); (try (refine cut_ (p := w.heap.size < w1.heap.size) ?_ ?_; (focus (refine hs1 _ ?_; first | assumption | omega | (simp [go_sem]; done) | (simp [go_sem]; omega))); intro hl1a)); (try (refine cut_ (p := w.heap.size + 1 < w1.heap.size) ?_ ?_; (focus (refine hs1 _ ?_; first | assumption | omega | (simp [go_sem]; done) | (simp [go_sem]; omega))); intro hl1b)); (try (refine cut_ (p := w.heap.size + 1 + 1 < w1.heap.size) ?_ ?_; (focus (refine hs1 _ ?_; first | assumption | omega | (simp [go_sem]; done) | (simp [go_sem]; omega))); intro hl1c))) | (go_at_call 53; refine (l19Day_any _ _).mono ?_; rintro e w' ⟨rfl, rfl⟩))
      go_ret2
      exact ⟨rfl, by (repeat (first | with_reducible exact Below.refl _ _ | with_reducible refine below_alloc ?_ _ | with_reducible refine below_drewN ?_ _ | with_reducible refine Below.drew ?_ | ((with_reducible refine below_set ?_ ?_ _); rotate_left; (focus (first | (simp; done) | (simp; omega) | omega))) | with_reducible refine below_call ?_ (by assumption)))⟩
  · have h2 : vMoon n d z = false := by simpa using h
    rw [next_bad h2]
    clear h
    go_enter Try.func19, Try.ntmps19
    go_wp2_with (go_at_call 46; refine (l19Ok_any _ _ _ _).mono ?_; rintro e w1 ⟨rfl, hb1⟩; obtain ⟨hc1, hf1, hs1⟩ := bcell hb1; have hz1 := hb1.size; (try simp at hz1); (try (refine cut_ (p := w.heap.size < w1.heap.size) ?_ ?_; (focus (refine hs1 _ ?_; first | assumption | omega | (simp [go_sem]; done) | (simp [go_sem]; omega))); intro hl1a)); (try (refine cut_ (p := w.heap.size + 1 < w1.heap.size) ?_ ?_; (focus (refine hs1 _ ?_; first | assumption | omega | (simp [go_sem]; done) | (simp [go_sem]; omega))); intro hl1b)); (try (refine cut_ (p := w.heap.size + 1 + 1 < w1.heap.size) ?_ ?_; (focus (refine hs1 _ ?_; first | assumption | omega | (simp [go_sem]; done) | (simp [go_sem]; omega))); intro hl1c)))
    go_ret2
    exact ⟨rfl, by (repeat (first | with_reducible exact Below.refl _ _ | with_reducible refine below_alloc ?_ _ | with_reducible refine below_drewN ?_ _ | with_reducible refine Below.drew ?_ | ((with_reducible refine below_set ?_ ?_ _); rotate_left; (focus (first | (simp; done) | (simp; omega) | omega))) | with_reducible refine below_call ?_ (by assumption)))⟩
end Go.Proofs.Ytanfccdeacohfaa
