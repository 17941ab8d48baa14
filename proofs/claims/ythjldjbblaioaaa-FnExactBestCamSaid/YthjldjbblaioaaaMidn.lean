/- Contracts of the two functions MidnightSteps. No conditions but that a cam has at most 2^20 levels. -/
import Derived.Test.YthjldjbblaioaaaPerpOk2
namespace Go.Proofs.Ythjldjbblaioaaa
open Go.RowKit
set_option linter.unusedVariables false
set_option linter.unusedSimpArgs false
theorem vPerp_yes {zs : List Int} {n : Nat} {mo te ix da we wd : Int} (h : vPerp zs n mo te ix da we wd = true) :
    vCam zs = true ∧ 1 ≤ mo ∧ (n : Int).tmod mo = 0 ∧ (1 ≤ te ∧ te ≤ 60) ∧ (0 ≤ ix ∧ ix ≤ (n : Int) - 1) ∧ (1 ≤ da ∧ da ≤ te) ∧ (1 ≤ we ∧ we ≤ 12) ∧ 1 ≤ wd ∧ wd ≤ we := by
  simp only [vPerp, Bool.and_eq_true, decide_eq_true_eq] at h
  obtain ⟨h1, h2, h3, h4, _, h5, h6, h7, h8⟩ := h
  exact ⟨h1, h2, h3, inB_yes h4, inB_yes h5, inB_yes h6, inB_yes h7, inB_yes h8⟩
/-- the steps of the next midnight -/
def msI (zs : List Int) (te ix da : Int) : Int := if da = zs.getD ix.toNat 0 then te + 1 - da else 1
def midT (zs : List Int) (n : Nat) (mo te ix da we wd : Int) : Value := if vPerp zs n mo te ix da we wd then .tuple #[.int .i64 (msI zs te ix da), .int .i64 0] else .tuple #[.int .i64 0, .int .i64 1]
theorem mid_yes {zs : List Int} {n : Nat} {mo te ix da we wd : Int} (h : vPerp zs n mo te ix da we wd = true) : midT zs n mo te ix da we wd = .tuple #[.int .i64 (msI zs te ix da), .int .i64 0] := by rw [midT, h]; rfl
theorem mid_no {zs : List Int} {n : Nat} {mo te ix da we wd : Int} (h : vPerp zs n mo te ix da we wd = false) : midT zs n mo te ix da we wd = .tuple #[.int .i64 0, .int .i64 1] := by rw [midT, h]; rfl
theorem midT_form (zs : List Int) (n : Nat) (mo te ix da we wd : Int) : ∃ a b : Int, midT zs n mo te ix da we wd = .tuple #[.int .i64 a, .int .i64 b] := by
  unfold midT; split <;> exact ⟨_, _, rfl⟩
set_option maxHeartbeats 2000000 in
theorem midnightSteps_any (A : Option Addr) (n c B k : Nat) (zs : List Int) (mo te da we wd : Int) (w : World) (h : Ints w B A n zs) (hB : B ≤ w.heap.size) (hn : n ≤ 1048576) (hk : k < n) (d1 : 1 ≤ da) (d2 : da ≤ te) (d3 : te ≤ 60) :
    Calls Try.prog 73 #[.agg #[.slice A n c, .int .i64 mo, .int .i64 te, .int .i64 (k : Int), .int .i64 da, .int .i64 we, .int .i64 wd]] w fun e w' => e = .returned (.int .i64 (msI zs te (k : Int) da)) ∧ Below w.heap.size w w' := by
  obtain ⟨b, off, rfl, hbl, hc⟩ := (h.alloc hB (.cells #[.slice A n c, .int .i64 mo, .int .i64 te, .int .i64 (k : Int), .int .i64 da, .int .i64 we, .int .i64 wd] 32)).at_ hk
  have hm : msI zs te (k : Int) da = if da = zs.getD k 0 then te + 1 - da else 1 := by simp [msI]
  obtain ⟨x, hx⟩ : ∃ x, zs.getD k 0 = x := ⟨_, rfl⟩
  rw [hx] at hc hm
  have i0 : (0 : Int) ≤ (k : Int) := Int.natCast_nonneg _
  have i1 : (k : Int) < (n : Int) := by omega
  clear h hx
  by_cases e : da = x
  · have HM := Lib.hid (hm.trans (if_pos e))
    clear hm
    subst e
    go_enter Try.func73, Try.ntmps73
    go_wp2
    go_quiet (fail)
    go_wp2
    go_ret
    exact ⟨ret_int HM.out.symm, by (repeat (first | with_reducible exact Below.refl _ _ | with_reducible refine below_alloc ?_ _ | with_reducible refine below_drewN ?_ _ | with_reducible refine Below.drew ?_ | ((with_reducible refine below_set ?_ ?_ _); rotate_left; (focus (first | (simp; done) | (simp; omega) | omega))) | with_reducible refine below_call ?_ (by assumption)))⟩
  · have HM := Lib.hid (hm.trans (if_neg e))
    have e1 : (da == x) = false := by simpa using e
    clear hm
    go_enter Try.func73, Try.ntmps73
    go_wp2
    go_quiet (fail)
    go_wp2
    go_ret
    exact ⟨ret_int HM.out.symm, by (repeat (first | with_reducible exact Below.refl _ _ | with_reducible refine below_alloc ?_ _ | with_reducible refine below_drewN ?_ _ | with_reducible refine Below.drew ?_ | ((with_reducible refine below_set ?_ ?_ _); rotate_left; (focus (first | (simp; done) | (simp; omega) | omega))) | with_reducible refine below_call ?_ (by assumption)))⟩
set_option maxHeartbeats 2000000 in
theorem MidnightSteps_any (A : Option Addr) (n c B : Nat) (zs : List Int) (mo te ix da we wd : Int) (w : World) (h : Ints w B A n zs) (hB : B ≤ w.heap.size) (hn : n ≤ 1048576) :
    Calls Try.prog 26 #[.agg #[.slice A n c, .int .i64 mo, .int .i64 te, .int .i64 ix, .int .i64 da, .int .i64 we, .int .i64 wd]] w fun e w' => e = .returned (midT zs n mo te ix da we wd) ∧ Below w.heap.size w w' := by
  have H := Lib.hid (h.more hB)
  clear h
  have cV := fun (W : World) (h : Ints W w.heap.size A n zs) (h2 : w.heap.size ≤ W.heap.size) => ValidPerpetual_any A n c w.heap.size zs mo te ix da we wd W h h2 hn
  cases hv : vPerp zs n mo te ix da we wd
  · rw [mid_no hv]
    simp only [hv] at cV
    have CV := Lib.hid cV
    clear cV hv
    go_enter Try.func26, Try.ntmps26
    go_wp2_with fail
    go_at_call 41
    refine (CV.out _ (by exact Ints.below (H.out) (by (repeat (first | with_reducible exact Below.refl _ _ | with_reducible refine below_alloc ?_ _ | with_reducible refine below_drewN ?_ _ | with_reducible refine Below.drew ?_ | ((with_reducible refine below_set ?_ ?_ _); rotate_left; (focus (first | (simp; done) | (simp; omega) | omega))) | with_reducible refine below_call ?_ (by assumption))))) (by exact Below.size (B := w.heap.size) (w := w) (by (repeat (first | with_reducible exact Below.refl _ _ | with_reducible refine below_alloc ?_ _ | with_reducible refine below_drewN ?_ _ | with_reducible refine Below.drew ?_ | ((with_reducible refine below_set ?_ ?_ _); rotate_left; (focus (first | (simp; done) | (simp; omega) | omega))) | with_reducible refine below_call ?_ (by assumption)))))).mono ?_
    rintro e w1 ⟨rfl, hb1⟩
    obtain ⟨hc1, hf1, hs1⟩ := bcell hb1
    (try (refine cut_ (p := w.heap.size < w1.heap.size) ?_ ?_; (focus (refine hs1 _ ?_; first | assumption | omega | (simp [go_sem]; done) | (simp [go_sem]; omega))); intro hl1a))
    (try (refine cut_ (p := w.heap.size + 1 < w1.heap.size) ?_ ?_; (focus (refine hs1 _ ?_; first | assumption | omega | (simp [go_sem]; done) | (simp [go_sem]; omega))); intro hl1b))
    (try (refine cut_ (p := w.heap.size + 1 + 1 < w1.heap.size) ?_ ?_; (focus (refine hs1 _ ?_; first | assumption | omega | (simp [go_sem]; done) | (simp [go_sem]; omega))); intro hl1c))
    go_wp2
    go_ret2
    exact ⟨rfl, by (repeat (first | with_reducible exact Below.refl _ _ | with_reducible refine below_alloc ?_ _ | with_reducible refine below_drewN ?_ _ | with_reducible refine Below.drew ?_ | ((with_reducible refine below_set ?_ ?_ _); rotate_left; (focus (first | (simp; done) | (simp; omega) | omega))) | with_reducible refine below_call ?_ (by assumption)))⟩
  · rw [mid_yes hv]
    simp only [hv] at cV
    have CV := Lib.hid cV
    obtain ⟨_, _, _, hte, hix, hda, _, _⟩ := vPerp_yes hv
    obtain ⟨k, rfl⟩ := Int.eq_ofNat_of_zero_le hix.1
    have cM := fun (W : World) (h : Ints W w.heap.size A n zs) (h2 : w.heap.size ≤ W.heap.size) => midnightSteps_any A n c w.heap.size k zs mo te da we wd W h h2 hn (by omega) hda.1 hda.2 hte.2
    generalize msI zs te (k : Int) da = v at *
    have CM := Lib.hid cM
    clear cV hv cM
    go_enter Try.func26, Try.ntmps26
    go_wp2_with fail
    go_at_call 41
    refine (CV.out _ (by exact Ints.below (H.out) (by (repeat (first | with_reducible exact Below.refl _ _ | with_reducible refine below_alloc ?_ _ | with_reducible refine below_drewN ?_ _ | with_reducible refine Below.drew ?_ | ((with_reducible refine below_set ?_ ?_ _); rotate_left; (focus (first | (simp; done) | (simp; omega) | omega))) | with_reducible refine below_call ?_ (by assumption))))) (by exact Below.size (B := w.heap.size) (w := w) (by (repeat (first | with_reducible exact Below.refl _ _ | with_reducible refine below_alloc ?_ _ | with_reducible refine below_drewN ?_ _ | with_reducible refine Below.drew ?_ | ((with_reducible refine below_set ?_ ?_ _); rotate_left; (focus (first | (simp; done) | (simp; omega) | omega))) | with_reducible refine below_call ?_ (by assumption)))))).mono ?_
    rintro e w1 ⟨rfl, hb1⟩
    obtain ⟨hc1, hf1, hs1⟩ := bcell hb1
    (try (refine cut_ (p := w.heap.size < w1.heap.size) ?_ ?_; (focus (refine hs1 _ ?_; first | assumption | omega | (simp [go_sem]; done) | (simp [go_sem]; omega))); intro hl1a))
    (try (refine cut_ (p := w.heap.size + 1 < w1.heap.size) ?_ ?_; (focus (refine hs1 _ ?_; first | assumption | omega | (simp [go_sem]; done) | (simp [go_sem]; omega))); intro hl1b))
    (try (refine cut_ (p := w.heap.size + 1 + 1 < w1.heap.size) ?_ ?_; (focus (refine hs1 _ ?_; first | assumption | omega | (simp [go_sem]; done) | (simp [go_sem]; omega))); intro hl1c))
    go_wp2_with fail
    go_at_call 73
    refine (CM.out _ (by exact Ints.below (H.out) (by (repeat (first | with_reducible exact Below.refl _ _ | with_reducible refine below_alloc ?_ _ | with_reducible refine below_drewN ?_ _ | with_reducible refine Below.drew ?_ | ((with_reducible refine below_set ?_ ?_ _); rotate_left; (focus (first | (simp; done) | (simp; omega) | omega))) | with_reducible refine below_call ?_ (by assumption))))) (by exact Below.size (B := w.heap.size) (w := w) (by (repeat (first | with_reducible exact Below.refl _ _ | with_reducible refine below_alloc ?_ _ | with_reducible refine below_drewN ?_ _ | with_reducible refine Below.drew ?_ | ((with_reducible refine below_set ?_ ?_ _); rotate_left; (focus (first | (simp; done) | (simp; omega) | omega))) | with_reducible refine below_call ?_ (by assumption)))))).mono ?_
    rintro e w2 ⟨rfl, hb2⟩
    obtain ⟨hc2, hf2, hs2⟩ := bcell hb2
    (try (refine cut_ (p := w.heap.size < w2.heap.size) ?_ ?_; (focus (refine hs2 _ ?_; first | assumption | omega | (simp [go_sem]; done) | (simp [go_sem]; omega))); intro hl2a))
    (try (refine cut_ (p := w.heap.size + 1 < w2.heap.size) ?_ ?_; (focus (refine hs2 _ ?_; first | assumption | omega | (simp [go_sem]; done) | (simp [go_sem]; omega))); intro hl2b))
    (try (refine cut_ (p := w.heap.size + 1 + 1 < w2.heap.size) ?_ ?_; (focus (refine hs2 _ ?_; first | assumption | omega | (simp [go_sem]; done) | (simp [go_sem]; omega))); intro hl2c))
    go_wp2
    go_ret2
    exact ⟨rfl, by (repeat (first | with_reducible exact Below.refl _ _ | with_reducible refine below_alloc ?_ _ | with_reducible refine below_drewN ?_ _ | with_reducible refine Below.drew ?_ | ((with_reducible refine below_set ?_ ?_ _); rotate_left; (focus (first | (simp; done) | (simp; omega) | omega))) | with_reducible refine below_call ?_ (by assumption)))⟩
end Go.Proofs.Ythjldjbblaioaaa
