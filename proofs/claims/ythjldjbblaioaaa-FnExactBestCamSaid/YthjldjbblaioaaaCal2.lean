/- Contracts of the sizes, copies and comparisons of calendars. No conditions but that a calendar that is copied has at most 2^20 months and rules. -/
import Derived.Test.YthjldjbblaioaaaCal1
import Derived.Deep.RegionHeld3
namespace Go.Proofs.Ythjldjbblaioaaa
open Go.RowKit
set_option linter.unusedVariables false
set_option linter.unusedSimpArgs false
set_option maxHeartbeats 1000000 in
theorem eqMonth_same (m : Mth) (w : World) :
    Calls Try.prog 117 #[.agg #[.string m.nm, .int .i64 m.dy, .int .i64 m.lp], .agg #[.string m.nm, .int .i64 m.dy, .int .i64 m.lp]] w fun e w' => e = .returned (.bool true) ∧ Below w.heap.size w w' := by
  go_enter Try.func117, Try.ntmps117
  go_wp2
  go_ret
  exact ⟨rfl, by (repeat (first | with_reducible exact Below.refl _ _ | with_reducible refine below_alloc ?_ _ | with_reducible refine below_drewN ?_ _ | with_reducible refine Below.drew ?_ | ((with_reducible refine below_set ?_ ?_ _); rotate_left; (focus (first | (simp; done) | (simp; omega) | omega))) | with_reducible refine below_call ?_ (by assumption)))⟩
set_option maxHeartbeats 2000000 in
theorem eqMonthS_same (A A' : Option Addr) (n c c' B B' : Nat) (ms : List Mth) (w : World) (h : Months w B A n ms) (h' : Months w B' A' n ms) (hB : B ≤ w.heap.size) (hB' : B' ≤ w.heap.size) (hn : n ≤ 9223372036854775807) :
    Calls Try.prog 68 #[.slice A n c, .slice A' n c'] w fun e w' => e = .returned (.bool true) ∧ Below w.heap.size w w' := by
  have H := Lib.hid (Tri.more h hB)
  have H' := Lib.hid (Tri.more h' hB')
  clear h h'
  go_enter Try.func68, Try.ntmps68
  go_wp2
  go_loopw [5] (fun t wr => ∃ k : Nat, t = .int .i64 k ∧ k ≤ n ∧ Below w.heap.size w wr) (fun t _ => n - (intOf t).toNat)
  case atStart => exact ⟨0, rfl, Nat.zero_le _, Below.refl _ _⟩
  case round =>
    obtain ⟨k, rfl, hk, hb⟩ := hrel
    have i0 : (0 : Int) ≤ (k : Int) := Int.natCast_nonneg _
    by_cases hlt : k < n
    · have i1 : (k : Int) < (n : Int) := by omega
      obtain ⟨b, off, rfl, hbl, c1, c2, c3⟩ := Months.at_ (Tri.below H.out hb) hlt
      obtain ⟨b', off', rfl, hbl', d1, d2, d3⟩ := Months.at_ (Tri.below H'.out hb) hlt
      obtain ⟨m, hm⟩ : ∃ m, ms.getD k m0 = m := ⟨_, rfl⟩
      rw [hm] at c1 c2 c3 d1 d2 d3
      clear hm
      have hzb : b < wr.heap.size := by have := hb.size; omega
      have hzb' : b' < wr.heap.size := by have := hb.size; omega
      have yr := Below.refl wr.heap.size wr
      go_wp2
      go_region_held3 (fun w' => w'.cell? ⟨b, off + k * 3, none⟩ = some (.string m.nm) ∧ w'.cell? ⟨b, off + k * 3 + 1, none⟩ = some (.int .i64 m.dy) ∧ w'.cell? ⟨b, off + k * 3 + 2, none⟩ = some (.int .i64 m.lp) ∧ w'.cell? ⟨b', off' + k * 3, none⟩ = some (.string m.nm) ∧ w'.cell? ⟨b', off' + k * 3 + 1, none⟩ = some (.int .i64 m.dy) ∧ w'.cell? ⟨b', off' + k * 3 + 2, none⟩ = some (.int .i64 m.lp) ∧ b < w'.heap.size ∧ b' < w'.heap.size ∧ Below w.heap.size w w' ∧ Below wr.heap.size wr w')
        (first | ((try go_split_ands); (try dsimp only); refine ⟨?_, ?_, ?_, ?_, ?_, ?_, ?_, ?_, ?_, ?_⟩ <;> first | (exact cell_call (by assumption) (by assumption) (by assumption)) | (exact lt_call (by assumption) (by assumption)) | (exact below_call' (by assumption) (by assumption)) | (exact Below.drew (by assumption)) | (with_reducible assumption) | (simp; done) | (simp [*]; done) | ((repeat (first | with_reducible exact Below.refl _ _ | with_reducible refine below_alloc ?_ _ | with_reducible refine below_drewN ?_ _ | with_reducible refine Below.drew ?_ | ((with_reducible refine below_set ?_ ?_ _); rotate_left; (focus (first | (simp; done) | (simp; omega) | omega))) | with_reducible refine below_call ?_ (by assumption))); done) | omega | (simp; omega) | (simp [go_sem]; done) | (simp [go_sem, *]; done)))
        (first
          | (go_at_call 117; go_split_ands; refine (eqMonth_same m _).mono ?_; rintro e w3 ⟨rfl, hb3⟩))
      go_split_ands
      have HB3 : Below w.heap.size w w3 := by assumption
      clear hb
      go_wp2
      go_roundw
      case rel => exact ⟨k + 1, by go_num, by omega, HB3⟩
      case measure => simp [intOf]; omega
    · go_wp2
      go_ret
      exact ⟨rfl, hb⟩
set_option maxHeartbeats 1000000 in
theorem eqLeapRule_same (m : Rul) (w : World) :
    Calls Try.prog 118 #[.agg #[.int .i64 m.ev, .int .i64 m.rs, .bool m.lp], .agg #[.int .i64 m.ev, .int .i64 m.rs, .bool m.lp]] w fun e w' => e = .returned (.bool true) ∧ Below w.heap.size w w' := by
  go_enter Try.func118, Try.ntmps118
  go_wp2
  go_ret
  exact ⟨rfl, by (repeat (first | with_reducible exact Below.refl _ _ | with_reducible refine below_alloc ?_ _ | with_reducible refine below_drewN ?_ _ | with_reducible refine Below.drew ?_ | ((with_reducible refine below_set ?_ ?_ _); rotate_left; (focus (first | (simp; done) | (simp; omega) | omega))) | with_reducible refine below_call ?_ (by assumption)))⟩
set_option maxHeartbeats 2000000 in
theorem eqLeapRuleS_same (A A' : Option Addr) (n c c' B B' : Nat) (ms : List Rul) (w : World) (h : Rules w B A n ms) (h' : Rules w B' A' n ms) (hB : B ≤ w.heap.size) (hB' : B' ≤ w.heap.size) (hn : n ≤ 9223372036854775807) :
    Calls Try.prog 69 #[.slice A n c, .slice A' n c'] w fun e w' => e = .returned (.bool true) ∧ Below w.heap.size w w' := by
  have H := Lib.hid (Tri.more h hB)
  have H' := Lib.hid (Tri.more h' hB')
  clear h h'
  go_enter Try.func69, Try.ntmps69
  go_wp2
  go_loopw [5] (fun t wr => ∃ k : Nat, t = .int .i64 k ∧ k ≤ n ∧ Below w.heap.size w wr) (fun t _ => n - (intOf t).toNat)
  case atStart => exact ⟨0, rfl, Nat.zero_le _, Below.refl _ _⟩
  case round =>
    obtain ⟨k, rfl, hk, hb⟩ := hrel
    have i0 : (0 : Int) ≤ (k : Int) := Int.natCast_nonneg _
    by_cases hlt : k < n
    · have i1 : (k : Int) < (n : Int) := by omega
      obtain ⟨b, off, rfl, hbl, c1, c2, c3⟩ := Rules.at_ (Tri.below H.out hb) hlt
      obtain ⟨b', off', rfl, hbl', d1, d2, d3⟩ := Rules.at_ (Tri.below H'.out hb) hlt
      obtain ⟨m, hm⟩ : ∃ m, ms.getD k r0 = m := ⟨_, rfl⟩
      rw [hm] at c1 c2 c3 d1 d2 d3
      clear hm
      have hzb : b < wr.heap.size := by have := hb.size; omega
      have hzb' : b' < wr.heap.size := by have := hb.size; omega
      have yr := Below.refl wr.heap.size wr
      go_wp2
      go_region_held3 (fun w' => w'.cell? ⟨b, off + k * 3, none⟩ = some (.int .i64 m.ev) ∧ w'.cell? ⟨b, off + k * 3 + 1, none⟩ = some (.int .i64 m.rs) ∧ w'.cell? ⟨b, off + k * 3 + 2, none⟩ = some (.bool m.lp) ∧ w'.cell? ⟨b', off' + k * 3, none⟩ = some (.int .i64 m.ev) ∧ w'.cell? ⟨b', off' + k * 3 + 1, none⟩ = some (.int .i64 m.rs) ∧ w'.cell? ⟨b', off' + k * 3 + 2, none⟩ = some (.bool m.lp) ∧ b < w'.heap.size ∧ b' < w'.heap.size ∧ Below w.heap.size w w' ∧ Below wr.heap.size wr w')
        (first | ((try go_split_ands); (try dsimp only); refine ⟨?_, ?_, ?_, ?_, ?_, ?_, ?_, ?_, ?_, ?_⟩ <;> first | (exact cell_call (by assumption) (by assumption) (by assumption)) | (exact lt_call (by assumption) (by assumption)) | (exact below_call' (by assumption) (by assumption)) | (exact Below.drew (by assumption)) | (with_reducible assumption) | (simp; done) | (simp [*]; done) | ((repeat (first | with_reducible exact Below.refl _ _ | with_reducible refine below_alloc ?_ _ | with_reducible refine below_drewN ?_ _ | with_reducible refine Below.drew ?_ | ((with_reducible refine below_set ?_ ?_ _); rotate_left; (focus (first | (simp; done) | (simp; omega) | omega))) | with_reducible refine below_call ?_ (by assumption))); done) | omega | (simp; omega) | (simp [go_sem]; done) | (simp [go_sem, *]; done)))
        (first
          | (go_at_call 118; go_split_ands; refine (eqLeapRule_same m _).mono ?_; rintro e w3 ⟨rfl, hb3⟩))
      go_split_ands
      have HB3 : Below w.heap.size w w3 := by assumption
      clear hb
      go_wp2
      go_roundw
      case rel => exact ⟨k + 1, by go_num, by omega, HB3⟩
      case measure => simp [intOf]; omega
    · go_wp2
      go_ret
      exact ⟨rfl, hb⟩
/-- what is known of a calendar whose size is none of the too great ones -/
def SzOut (nm : ByteArray) (n n' : Nat) (ms : List Mth) (r : Int) : Prop := r = -1 ∨ (0 ≤ r ∧ r ≤ 1048576 ∧ nm.size ≤ 1048576 ∧ n ≤ 1048576 ∧ n' ≤ 1048576 ∧ ∀ j, j < n → (ms.getD j m0).nm.size ≤ 1048576)
set_option maxHeartbeats 1000000 in
theorem szCalendar_any (nm : ByteArray) (A A' : Option Addr) (n n' c c' B : Nat) (ms : List Mth) (we : Int) (left : Int) (w : World) (h : Months w B A n ms) (hB : B ≤ w.heap.size) (h1 : 0 ≤ left) (h2 : left ≤ 1048576) (hn : n ≤ 9223372036854775807) (hn' : n' ≤ 9223372036854775807) (hnm : nm.size ≤ 9223372036854775807) (hs : ∀ j, j < n → (ms.getD j m0).nm.size ≤ 9223372036854775807) :
    Calls Try.prog 14 #[.agg #[.string nm, .slice A n c, .slice A' n' c', .int .i64 we], .int .i64 left] w fun e w' => ∃ r : Int, e = .returned (.int .i64 r) ∧ Below w.heap.size w w' ∧ SzOut nm n n' ms r := by
  have H := Lib.hid (Tri.more h hB)
  have HS := Lib.hid hs
  clear h hs
  by_cases hl : left < (nm.size : Int)
  · go_enter Try.func14, Try.ntmps14
    go_wp2
    go_ret
    exact ⟨_, rfl, by (repeat (first | with_reducible exact Below.refl _ _ | with_reducible refine below_alloc ?_ _ | with_reducible refine below_drewN ?_ _ | with_reducible refine Below.drew ?_ | ((with_reducible refine below_set ?_ ?_ _); rotate_left; (focus (first | (simp; done) | (simp; omega) | omega))) | with_reducible refine below_call ?_ (by assumption))), .inl rfl⟩
  · go_enter Try.func14, Try.ntmps14
    have q1 : ¬ (left - (nm.size : Int) < 0) := by omega
    go_wp2_with fail
    refine (szMonthS_any A n c w.heap.size ms _ _ (Tri.alloc H.out (Nat.le_refl _) _) (by simp) (by omega) (by omega) hn HS.out).mono ?_
    rintro e w1 ⟨r, rfl, hb1, hr⟩
    obtain ⟨hc1, hf1, hs1⟩ := bcell hb1
    have HR := Lib.hid hr
    clear hr
    rcases HR.out with hr | hr
    · subst hr
      go_wp2
      go_ret
      exact ⟨_, rfl, by (repeat (first | with_reducible exact Below.refl _ _ | with_reducible refine below_alloc ?_ _ | with_reducible refine below_drewN ?_ _ | with_reducible refine Below.drew ?_ | ((with_reducible refine below_set ?_ ?_ _); rotate_left; (focus (first | (simp; done) | (simp; omega) | omega))) | with_reducible refine below_call ?_ (by assumption))), .inl rfl⟩
    · obtain ⟨r0, r1, r2, r3⟩ := hr
      have R3 := Lib.hid r3
      clear r3
      have q2 : ¬ (r < 0) := by omega
      go_wp2_with fail
      refine (szLeapRuleS_any A' n' c' r _ r0 (by omega) hn').mono ?_
      rintro e w2 ⟨r', rfl, hb2, hr2⟩
      have HR2 := Lib.hid hr2
      clear hr2
      rcases HR2.out with hr2 | hr2
      · subst hr2
        go_wp2
        go_ret
        exact ⟨_, rfl, by (repeat (first | with_reducible exact Below.refl _ _ | with_reducible refine below_alloc ?_ _ | with_reducible refine below_drewN ?_ _ | with_reducible refine Below.drew ?_ | ((with_reducible refine below_set ?_ ?_ _); rotate_left; (focus (first | (simp; done) | (simp; omega) | omega))) | with_reducible refine below_call ?_ (by assumption))), .inl rfl⟩
      · have HR3 := Lib.hid hr2
        have q3 : ¬ (r' < 0) := by omega
        clear hr2
        go_wp2
        go_ret
        exact ⟨_, rfl, by (repeat (first | with_reducible exact Below.refl _ _ | with_reducible refine below_alloc ?_ _ | with_reducible refine below_drewN ?_ _ | with_reducible refine Below.drew ?_ | ((with_reducible refine below_set ?_ ?_ _); rotate_left; (focus (first | (simp; done) | (simp; omega) | omega))) | with_reducible refine below_call ?_ (by assumption))), .inr ⟨HR3.out.1, by have := HR3.out.2.1; omega, by omega, by omega, by have := HR3.out.2.2; omega, fun j hj => by have := R3.out j hj; omega⟩⟩
set_option maxHeartbeats 1000000 in
theorem eqCalendar_same (nm : ByteArray) (A1 A1' A2 A2' : Option Addr) (n n' c1 c1' c2 c2' B1 B2 : Nat) (ms : List Mth) (rs : List Rul) (we : Int) (w : World) (h1 : Months w B1 A1 n ms) (h1' : Rules w B1 A1' n' rs) (h2 : Months w B2 A2 n ms) (h2' : Rules w B2 A2' n' rs) (hB1 : B1 ≤ w.heap.size) (hB2 : B2 ≤ w.heap.size) (hn : n ≤ 9223372036854775807) (hn' : n' ≤ 9223372036854775807) :
    Calls Try.prog 19 #[.agg #[.string nm, .slice A1 n c1, .slice A1' n' c1', .int .i64 we], .agg #[.string nm, .slice A2 n c2, .slice A2' n' c2', .int .i64 we]] w fun e w' => e = .returned (.bool true) ∧ Below w.heap.size w w' := by
  have H1 := Lib.hid (Tri.more h1 hB1)
  have H1' := Lib.hid (Tri.more h1' hB1)
  have H2 := Lib.hid (Tri.more h2 hB2)
  have H2' := Lib.hid (Tri.more h2' hB2)
  clear h1 h1' h2 h2'
  go_enter Try.func19, Try.ntmps19
  go_wp2_with fail
  refine (eqMonthS_same A1 A2 n c1 c2 w.heap.size w.heap.size ms _ (Tri.below H1.out (by (repeat (first | with_reducible exact Below.refl _ _ | with_reducible refine below_alloc ?_ _ | with_reducible refine below_drewN ?_ _ | with_reducible refine Below.drew ?_ | ((with_reducible refine below_set ?_ ?_ _); rotate_left; (focus (first | (simp; done) | (simp; omega) | omega))) | with_reducible refine below_call ?_ (by assumption))))) (Tri.below H2.out (by (repeat (first | with_reducible exact Below.refl _ _ | with_reducible refine below_alloc ?_ _ | with_reducible refine below_drewN ?_ _ | with_reducible refine Below.drew ?_ | ((with_reducible refine below_set ?_ ?_ _); rotate_left; (focus (first | (simp; done) | (simp; omega) | omega))) | with_reducible refine below_call ?_ (by assumption))))) (by simp; omega) (by simp; omega) hn).mono ?_
  rintro e w1 ⟨rfl, hb1⟩
  obtain ⟨hc1, hf1, hs1⟩ := bcell hb1
  have z1 := hb1.size
  simp at z1
  go_wp2_with fail
  refine (eqLeapRuleS_same A1' A2' n' c1' c2' w.heap.size w.heap.size rs _ (Tri.below H1'.out (by (repeat (first | with_reducible exact Below.refl _ _ | with_reducible refine below_alloc ?_ _ | with_reducible refine below_drewN ?_ _ | with_reducible refine Below.drew ?_ | ((with_reducible refine below_set ?_ ?_ _); rotate_left; (focus (first | (simp; done) | (simp; omega) | omega))) | with_reducible refine below_call ?_ (by assumption))))) (Tri.below H2'.out (by (repeat (first | with_reducible exact Below.refl _ _ | with_reducible refine below_alloc ?_ _ | with_reducible refine below_drewN ?_ _ | with_reducible refine Below.drew ?_ | ((with_reducible refine below_set ?_ ?_ _); rotate_left; (focus (first | (simp; done) | (simp; omega) | omega))) | with_reducible refine below_call ?_ (by assumption))))) (by omega) (by omega) hn').mono ?_
  rintro e w2 ⟨rfl, hb2⟩
  obtain ⟨hc2, hf2, hs2⟩ := bcell hb2
  have l1 : w.heap.size < w1.heap.size := by omega
  have l2 : w.heap.size + 1 < w1.heap.size := by omega
  go_wp2
  go_ret
  exact ⟨rfl, by (repeat (first | with_reducible exact Below.refl _ _ | with_reducible refine below_alloc ?_ _ | with_reducible refine below_drewN ?_ _ | with_reducible refine Below.drew ?_ | ((with_reducible refine below_set ?_ ?_ _); rotate_left; (focus (first | (simp; done) | (simp; omega) | omega))) | with_reducible refine below_call ?_ (by assumption)))⟩
end Go.Proofs.Ythjldjbblaioaaa
