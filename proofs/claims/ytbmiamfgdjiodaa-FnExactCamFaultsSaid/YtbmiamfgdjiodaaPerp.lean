/- Contracts of the laws' conversions of perpetual works. No conditions but that a cam that is copied has at most 2^20 steps. -/
import Derived.Test.YtbmiamfgdjiodaaInts
import Derived.Deep.RegionHeld3
namespace Go.Proofs.Ytbmiamfgdjiodaa
open Go.RowKit
set_option linter.unusedVariables false
set_option linter.unusedSimpArgs false

set_option maxHeartbeats 2000000 in
theorem szPerpetual_any (A : Option Addr) (n c : Nat) (mo te ix da we wd : Int) (left : Int) (w : World) (h1 : 0 ≤ left) (h2 : left ≤ 1048576) (hn : n ≤ 9223372036854775807) :
    Calls Try.prog 28 #[.agg #[.slice A n c, .int .i64 mo, .int .i64 te, .int .i64 ix, .int .i64 da, .int .i64 we, .int .i64 wd], .int .i64 left] w fun e w' => e = .returned (.int .i64 (if left < n then -1 else left - n)) ∧ Below w.heap.size w w' := by
  have hz := fun w => szInt64S_any A n c left w h1 h2 hn
  by_cases h : left < n
  · simp only [if_pos h] at hz ⊢
    have HZ := Lib.hid hz
    clear hz
    go_enter Try.func28, Try.ntmps28
    go_wp2_with (go_at_call 67; refine (HZ.out _).mono ?_; rintro e w' ⟨rfl, rfl⟩)
    go_ret
    exact ⟨rfl, by (repeat (first | with_reducible exact Below.refl _ _ | with_reducible refine below_alloc ?_ _ | with_reducible refine below_drewN ?_ _ | with_reducible refine Below.drew ?_ | ((with_reducible refine below_set ?_ ?_ _); rotate_left; (focus (first | (simp; done) | (simp; omega) | omega))) | with_reducible refine below_call ?_ (by assumption)))⟩
  · simp only [if_neg h] at hz ⊢
    have HZ := Lib.hid hz
    clear hz
    go_enter Try.func28, Try.ntmps28
    go_wp2_with (go_at_call 67; refine (HZ.out _).mono ?_; rintro e w' ⟨rfl, rfl⟩)
    go_ret
    exact ⟨rfl, by (repeat (first | with_reducible exact Below.refl _ _ | with_reducible refine below_alloc ?_ _ | with_reducible refine below_drewN ?_ _ | with_reducible refine Below.drew ?_ | ((with_reducible refine below_set ?_ ?_ _); rotate_left; (focus (first | (simp; done) | (simp; omega) | omega))) | with_reducible refine below_call ?_ (by assumption)))⟩
set_option maxHeartbeats 2000000 in
theorem toPerpetual_any (A : Option Addr) (n c B : Nat) (zs : List Int) (mo te ix da we wd : Int) (w : World) (h : Ints w B A n zs) (hB : B ≤ w.heap.size) (hn : n ≤ 1048576) :
    Calls Try.prog 30 #[.agg #[.slice A n c, .int .i64 mo, .int .i64 te, .int .i64 ix, .int .i64 da, .int .i64 we, .int .i64 wd]] w fun e w' => e = .returned (.agg #[.slice (some ⟨w.heap.size + 1 + 1 + 1, 0, none⟩) n n, .int .i64 mo, .int .i64 te, .int .i64 ix, .int .i64 da, .int .i64 we, .int .i64 wd]) ∧ Own w' w.heap.size (some ⟨w.heap.size + 1 + 1 + 1, 0, none⟩) n n zs ∧ Below w.heap.size w w' := by
  have H := Lib.hid h
  clear h
  go_enter Try.func30, Try.ntmps30
  go_wp2_with fail
  refine (toInt64S_any A n c B zs _ (((H.out.alloc hB _).alloc (by simp [go_sem]; omega) _).alloc (by simp [go_sem]; omega) _) (by simp [go_sem]; omega) hn).mono ?_
  rintro e w1 ⟨rfl, hown, hb1⟩
  obtain ⟨hc1, hf1, hs1⟩ := bcell hb1
  have HO := Lib.hid hown
  clear hown
  go_wp2
  refine bodyPost_ret (v := .agg #[.slice (some ⟨w.heap.size + 1 + 1 + 1, 0, none⟩) n n, .int .i64 mo, .int .i64 te, .int .i64 ix, .int .i64 da, .int .i64 we, .int .i64 wd]) ?_ rfl ⟨rfl, ?_, ?_⟩
  · simp [results, Try.results30, go_sem, hc1, hf1, hs1]
  · have h3 := HO.out
    simp [go_sem] at h3
    refine Own.low (b0 := w.heap.size) (base := w.heap.size + 1 + 1 + 1) ?_ (by omega)
    repeat (first | with_reducible exact h3 | with_reducible refine Own.far ?_ (by simp) _)
  · (repeat (first | with_reducible exact Below.refl _ _ | with_reducible refine below_alloc ?_ _ | with_reducible refine below_drewN ?_ _ | with_reducible refine Below.drew ?_ | ((with_reducible refine below_set ?_ ?_ _); rotate_left; (focus (first | (simp; done) | (simp; omega) | omega))) | with_reducible refine below_call ?_ (by assumption)))
set_option maxHeartbeats 2000000 in
theorem eqPerpetual_any (A A' : Option Addr) (n n' c c' B B' : Nat) (zs ys : List Int) (mo te ix da we wd : Int) (w : World) (h : Ints w B A n zs) (h' : Ints w B' A' n' ys) (hB : B ≤ w.heap.size) (hB' : B' ≤ w.heap.size) (hn : n ≤ 9223372036854775807) (hn' : n' ≤ 9223372036854775807) :
    Calls Try.prog 25 #[.agg #[.slice A n c, .int .i64 mo, .int .i64 te, .int .i64 ix, .int .i64 da, .int .i64 we, .int .i64 wd], .agg #[.slice A' n' c', .int .i64 mo, .int .i64 te, .int .i64 ix, .int .i64 da, .int .i64 we, .int .i64 wd]] w fun e w' => e = .returned (.bool (decide (zs = ys))) ∧ Below w.heap.size w w' := by
  have H := Lib.hid h
  have H' := Lib.hid h'
  clear h h'
  cases hd : decide (zs = ys)
  all_goals
    have HD := Lib.hid hd
    clear hd
    go_enter Try.func25, Try.ntmps25
    go_wp2_with fail
    refine (eqInt64S_any A A' n n' c c' B B' zs ys _ ((H.out.alloc hB _).alloc (by simp [go_sem]; omega) _) ((H'.out.alloc hB' _).alloc (by simp [go_sem]; omega) _) hn hn').mono ?_
    rintro e w' ⟨rfl, nq, rfl⟩
    rw [HD.out]
    go_wp2
    go_ret
    exact ⟨rfl, by (repeat (first | with_reducible exact Below.refl _ _ | with_reducible refine below_alloc ?_ _ | with_reducible refine below_drewN ?_ _ | with_reducible refine Below.drew ?_ | ((with_reducible refine below_set ?_ ?_ _); rotate_left; (focus (first | (simp; done) | (simp; omega) | omega))) | with_reducible refine below_call ?_ (by assumption)))⟩
theorem eqPerpetual_same (A A' : Option Addr) (n n' c c' B B' : Nat) (zs : List Int) (mo te ix da we wd : Int) (w : World) (h : Ints w B A n zs) (h' : Ints w B' A' n' zs) (hB : B ≤ w.heap.size) (hB' : B' ≤ w.heap.size) (hn : n ≤ 9223372036854775807) (hn' : n' ≤ 9223372036854775807) :
    Calls Try.prog 25 #[.agg #[.slice A n c, .int .i64 mo, .int .i64 te, .int .i64 ix, .int .i64 da, .int .i64 we, .int .i64 wd], .agg #[.slice A' n' c', .int .i64 mo, .int .i64 te, .int .i64 ix, .int .i64 da, .int .i64 we, .int .i64 wd]] w fun e w' => e = .returned (.bool true) ∧ Below w.heap.size w w' :=
  (eqPerpetual_any A A' n n' c c' B B' zs zs mo te ix da we wd w h h' hB hB' hn hn').mono fun e w' ⟨he, hb⟩ => ⟨by rw [he]; simp, hb⟩
end Go.Proofs.Ytbmiamfgdjiodaa
