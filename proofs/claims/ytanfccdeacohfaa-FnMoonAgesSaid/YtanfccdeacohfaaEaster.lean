/- Contracts of the two functions EasterOf: both return the same month and day. No conditions. -/
import Derived.Test.YtanfccdeacohfaaBase
namespace Go.Proofs.Ytanfccdeacohfaa
open Go.RowKit
set_option linter.unusedVariables false
set_option linter.unusedSimpArgs false

/-- the day of Easter, counted from the first of March, out of the epact e, the golden number g and the number d of the Sundays -/
def paschal (e g d : Int) : Int :=
  let e1 := if e = 24 ∨ e = 25 ∧ 11 < g then e + 1 else e
  let n := if 44 - e1 < 21 then 44 - e1 + 30 else 44 - e1
  n + 7 - (d + n) % 7
def eX (y : Int) : Int := 3 * (y / 100 + 1) / 4 - 12
def eZ (y : Int) : Int := (8 * (y / 100 + 1) + 5) / 25 - 5
def easterDay (y : Int) : Int := paschal ((11 * (y % 19 + 1) + 20 + eZ y - eX y) % 30) (y % 19 + 1) (5 * y / 4 - eX y - 10)
def easterT (y : Int) : Value :=
  if inB y 1583 9999 then
    if 31 < easterDay y then .tuple #[.int .i64 4, .int .i64 (easterDay y - 31), .int .i64 0] else .tuple #[.int .i64 3, .int .i64 (easterDay y), .int .i64 0]
  else .tuple #[.int .i64 0, .int .i64 0, .int .i64 2]
theorem easter_bd (y : Int) : 22 ≤ easterDay y ∧ easterDay y ≤ 57 := by
  unfold easterDay paschal
  simp only
  split <;> split <;> omega
theorem easter_late {y D : Int} (h0 : inB y 1583 9999 = true) (h : easterDay y = D) (h1 : 31 < D) : Value.tuple #[.int .i64 4, .int .i64 (D - 31), .int .i64 0] = easterT y := by
  subst h; rw [easterT, if_pos h0, if_pos h1]
theorem easter_early {y D : Int} (h0 : inB y 1583 9999 = true) (h : easterDay y = D) (h1 : ¬ 31 < D) : Value.tuple #[.int .i64 3, .int .i64 D, .int .i64 0] = easterT y := by
  subst h; rw [easterT, if_pos h0, if_neg h1]
theorem easter_none {y : Int} (h0 : inB y 1583 9999 = false) : Value.tuple #[.int .i64 0, .int .i64 0, .int .i64 2] = easterT y := by
  rw [easterT, if_neg (by rw [h0]; decide)]
theorem ret_val {a b : Value} (h : a = b) : Ending.returned a = .returned b := by rw [h]

set_option maxHeartbeats 4000000 in
theorem EasterOf_any (y : Int) (w : World) :
    Calls Try.prog 18 #[.int .i64 y] w fun e w' => e = .returned (easterT y) ∧ w = w' := by
  by_cases h0 : inB y 1583 9999 = true
  · have hb := inB_yes h0
    go_enter Try.func18, Try.ntmps18
    go_wp2_with (first | (go_at_call 51; refine (within_any _ _ _ _).mono ?_; rintro e w' ⟨rfl, rfl⟩) | (go_at_call 52; refine (floorMod_any _ _ _ (by omega) (by omega) (by omega) (by omega)).mono ?_; rintro e w' ⟨rfl, rfl⟩))
    all_goals
      go_ret3
      first
        | exact ⟨ret_val (easter_late h0 (by unfold easterDay paschal eX eZ; simp only; (split <;> try split) <;> omega) (by assumption)), rfl⟩
        | exact ⟨ret_val (easter_early h0 (by unfold easterDay paschal eX eZ; simp only; (split <;> try split) <;> omega) (by omega)), rfl⟩
  · have h0' : inB y 1583 9999 = false := by simpa using h0
    clear h0
    go_enter Try.func18, Try.ntmps18
    go_wp2_with (go_at_call 51; refine (within_any _ _ _ _).mono ?_; rintro e w' ⟨rfl, rfl⟩)
    go_ret3
    exact ⟨ret_val (easter_none h0'), rfl⟩
set_option maxHeartbeats 4000000 in
theorem specEasterOf_any (y : Int) (w : World) :
    Calls Try.prog 17 #[.int .i64 y] w fun e w' => e = .returned (easterT y) ∧ w = w' := by
  by_cases h0 : inB y 1583 9999 = true
  · have hb := inB_yes h0
    go_enter Try.func17, Try.ntmps17
    go_wp2_with (first | (go_at_call 49; refine (l00In_any _ _ _ _).mono ?_; rintro e w' ⟨rfl, rfl⟩) | (go_at_call 50; refine (l19Mod_any _ _ _ (by omega) (by omega) (by omega) (by omega)).mono ?_; rintro e w' ⟨rfl, rfl⟩))
    all_goals
      go_ret3
      first
        | exact ⟨ret_val (easter_late h0 (by unfold easterDay paschal eX eZ; simp only; (split <;> try split) <;> omega) (by assumption)), rfl⟩
        | exact ⟨ret_val (easter_early h0 (by unfold easterDay paschal eX eZ; simp only; (split <;> try split) <;> omega) (by omega)), rfl⟩
  · have h0' : inB y 1583 9999 = false := by simpa using h0
    clear h0
    go_enter Try.func17, Try.ntmps17
    go_wp2_with (go_at_call 49; refine (l00In_any _ _ _ _).mono ?_; rintro e w' ⟨rfl, rfl⟩)
    go_ret3
    exact ⟨ret_val (easter_none h0'), rfl⟩
end Go.Proofs.Ytanfccdeacohfaa
