/- Contract of the program's text of a perpetual work. No conditions but that a cam has at most 2^20 levels, and that the library's table of powers of ten is as its text lays it. -/
import Derived.Test.YthicmkilhakdiaaDoorTextPerp
namespace Go.Proofs.YthicmkilhakdiaaDoor
open Go.RowKit
set_option linter.unusedVariables false
set_option linter.unusedSimpArgs false
set_option maxHeartbeats 8000000 in
theorem PerpetualText_any (A : Option Addr) (n c B : Nat) (zs : List Int) (mo te ix da we wd : Int) (w w0 : World) (h : Ints w B A n zs) (hB : B ≤ w.heap.size) (hn : n ≤ 1048576) (hp : Pow w0) (hb0 : Below w0.heap.size w0 w) :
    Calls Tryd.prog 8 #[.agg #[.slice A n c, .int .i64 mo, .int .i64 te, .int .i64 ix, .int .i64 da, .int .i64 we, .int .i64 wd]] w fun e w' => e = .returned (.string ⟨(ptx zs n mo te ix da we wd).toArray⟩) ∧ Below w.heap.size w w' := by
  have hl := h.len
  have H := Lib.hid (h.more hB)
  clear h
  have cV := fun (W : World) (h : Ints W w.heap.size A n zs) (h2 : w.heap.size ≤ W.heap.size) => ValidPerpetual_any A n c w.heap.size zs mo te ix da we wd W h h2 hn
  cases hv : vPerp zs n mo te ix da we wd
  · rw [hv] at cV
    rw [show ptx zs n mo te ix da we wd = [] by simp [ptx, hv]]
    have CV := Lib.hid cV
    clear cV
    go_enter Tryd.func8, Tryd.ntmps8
    go_wp2_with fail
    refine (CV.out _ (by exact Ints.below (H.out) (by (repeat (first | with_reducible exact Below.refl _ _ | with_reducible refine below_alloc ?_ _ | with_reducible refine below_drewN ?_ _ | with_reducible refine Below.drew ?_ | ((with_reducible refine below_set ?_ ?_ _); rotate_left; (focus (first | (simp; done) | (simp; omega) | omega))) | with_reducible refine below_call ?_ (by assumption))))) (by exact Below.size (B := w.heap.size) (w := w) (by (repeat (first | with_reducible exact Below.refl _ _ | with_reducible refine below_alloc ?_ _ | with_reducible refine below_drewN ?_ _ | with_reducible refine Below.drew ?_ | ((with_reducible refine below_set ?_ ?_ _); rotate_left; (focus (first | (simp; done) | (simp; omega) | omega))) | with_reducible refine below_call ?_ (by assumption)))))).mono ?_
    rintro e w1 ⟨rfl, hb1⟩
    obtain ⟨hc1, hf1, hs1⟩ := bcell hb1
    (try (refine cut_ (p := w.heap.size < w1.heap.size) ?_ ?_; (focus (refine hs1 _ ?_; first | assumption | omega | (simp [go_sem]; done) | (simp [go_sem]; omega))); intro hl1a))
    (try (refine cut_ (p := w.heap.size + 1 < w1.heap.size) ?_ ?_; (focus (refine hs1 _ ?_; first | assumption | omega | (simp [go_sem]; done) | (simp [go_sem]; omega))); intro hl1b))
    (try (refine cut_ (p := w.heap.size + 1 + 1 < w1.heap.size) ?_ ?_; (focus (refine hs1 _ ?_; first | assumption | omega | (simp [go_sem]; done) | (simp [go_sem]; omega))); intro hl1c))
    go_wp2
    go_ret
    exact ⟨rfl, by (repeat (first | with_reducible exact Below.refl _ _ | with_reducible refine below_alloc ?_ _ | with_reducible refine below_drewN ?_ _ | with_reducible refine Below.drew ?_ | ((with_reducible refine below_set ?_ ?_ _); rotate_left; (focus (first | (simp; done) | (simp; omega) | omega))) | with_reducible refine below_call ?_ (by assumption)))⟩
  · obtain ⟨v1, v2, v3, v4, v5, v6, v7, v8, v9⟩ := vPerp_yes hv
    rw [hv] at cV
    have hc := vCam_yes v1
    rw [hl] at hc
    have hmf := month_facts hc.2.1 hc.2.2 v2 v3 v5.1 v5.2
    have HTX := Lib.hid (show (⟨(ptx zs n mo te ix da we wd).toArray⟩ : ByteArray) = ⟨(dd (ix % mo + 1)).toArray⟩ ++ ⟨#[32]⟩ ++ ⟨(dd da).toArray⟩ ++ ⟨#[32]⟩ ++ ⟨(dd wd).toArray⟩ ++ ⟨#[32]⟩ ++ ⟨(dd ix).toArray⟩ by
      rw [show ptx zs n mo te ix da we wd = txK [32] [ix % mo + 1, da, wd, ix] 4 by simp [ptx, hv], txK4, show (⟨#[32]⟩ : ByteArray) = ⟨([32] : List UInt8).toArray⟩ from rfl]
      simp only [str_app])
    obtain ⟨k, rfl⟩ := Int.eq_ofNat_of_zero_le v5.1
    have cM := fun (S : Value) (W : World) => shownMonth_any S k mo te da we wd W v2 (by omega) (by omega)
    have d1 := dd_len ((k : Int) % mo + 1) (by omega) (by omega)
    have d2 := dd_len da (by omega) (by omega)
    have d3 := dd_len wd (by omega) (by omega)
    have d4 := dd_len (k : Int) (by omega) (by omega)
    have hr0 : 0 ≤ (k : Int) % mo + 1 := by omega
    have hr1 : (k : Int) % mo + 1 < 1000 := by omega
    have k0 : (0 : Int) ≤ (k : Int) := v5.1
    have k1 : (k : Int) < 1000 := by omega
    generalize (k : Int) % mo + 1 = r at *
    have CM := Lib.hid cM
    have CV := Lib.hid cV
    have cD := fun (z : Int) (W : World) (h0 : 0 ≤ z) (h1 : z < 1000) (hb : Below w0.heap.size w0 W) => Decimal_any z W h0 h1 (hp W hb)
    have CD := Lib.hid cD
    have z00 := hb0.size
    have a0 : 0 ≤ da := by omega
    have a1 : da < 1000 := by omega
    have a2 : 0 ≤ wd := by omega
    have a3 : wd < 1000 := by omega
    have f1 : ¬ (9223372036854775807 < (dd r).length + 1) := by omega
    have f2 : ¬ (9223372036854775807 < (dd r).length + 1 + (dd da).length) := by omega
    have f3 : ¬ (9223372036854775807 < (dd r).length + 1 + (dd da).length + 1) := by omega
    have f4 : ¬ (9223372036854775807 < (dd r).length + 1 + (dd da).length + 1 + (dd wd).length) := by omega
    have f5 : ¬ (9223372036854775807 < (dd r).length + 1 + (dd da).length + 1 + (dd wd).length + 1) := by omega
    have f6 : ¬ (9223372036854775807 < (dd r).length + 1 + (dd da).length + 1 + (dd wd).length + 1 + (dd (k : Int)).length) := by omega
    have HB0 := Lib.hid hb0
    have hmo : mo ≤ 260 := hmf.1
    clear cM cV cD hp hv v1 v3 v4 v6 v7 v8 v9 hc hmf d1 d2 d3 d4 hb0 hl
    go_enter Tryd.func8, Tryd.ntmps8
    go_wp2_with fail
    refine (CV.out _ (by exact Ints.below (H.out) (by (repeat (first | with_reducible exact Below.refl _ _ | with_reducible refine below_alloc ?_ _ | with_reducible refine below_drewN ?_ _ | with_reducible refine Below.drew ?_ | ((with_reducible refine below_set ?_ ?_ _); rotate_left; (focus (first | (simp; done) | (simp; omega) | omega))) | with_reducible refine below_call ?_ (by assumption))))) (by exact Below.size (B := w.heap.size) (w := w) (by (repeat (first | with_reducible exact Below.refl _ _ | with_reducible refine below_alloc ?_ _ | with_reducible refine below_drewN ?_ _ | with_reducible refine Below.drew ?_ | ((with_reducible refine below_set ?_ ?_ _); rotate_left; (focus (first | (simp; done) | (simp; omega) | omega))) | with_reducible refine below_call ?_ (by assumption)))))).mono ?_
    rintro e w1 ⟨rfl, hb1⟩
    obtain ⟨hc1, hf1, hs1⟩ := bcell hb1
    (try (refine cut_ (p := w.heap.size < w1.heap.size) ?_ ?_; (focus (refine hs1 _ ?_; first | assumption | omega | (simp [go_sem]; done) | (simp [go_sem]; omega))); intro hl1a))
    (try (refine cut_ (p := w.heap.size + 1 < w1.heap.size) ?_ ?_; (focus (refine hs1 _ ?_; first | assumption | omega | (simp [go_sem]; done) | (simp [go_sem]; omega))); intro hl1b))
    (try (refine cut_ (p := w.heap.size + 1 + 1 < w1.heap.size) ?_ ?_; (focus (refine hs1 _ ?_; first | assumption | omega | (simp [go_sem]; done) | (simp [go_sem]; omega))); intro hl1c))
    have B1 : Below w.heap.size w w1 := by (repeat (first | with_reducible exact Below.refl _ _ | with_reducible refine below_alloc ?_ _ | with_reducible refine below_drewN ?_ _ | with_reducible refine Below.drew ?_ | ((with_reducible refine below_set ?_ ?_ _); rotate_left; (focus (first | (simp; done) | (simp; omega) | omega))) | with_reducible refine below_call ?_ (by assumption)))
    have z1 : w.heap.size < w1.heap.size := by omega
    have e0 : w1.cell? ⟨w.heap.size, 0, none⟩ = some (.slice A n c) := by simp [go_sem, hc1]
    have e1 : w1.cell? ⟨w.heap.size, 1, none⟩ = some (.int .i64 mo) := by simp [go_sem, hc1]
    have e2 : w1.cell? ⟨w.heap.size, 2, none⟩ = some (.int .i64 te) := by simp [go_sem, hc1]
    have e3 : w1.cell? ⟨w.heap.size, 3, none⟩ = some (.int .i64 (k : Int)) := by simp [go_sem, hc1]
    have e4 : w1.cell? ⟨w.heap.size, 4, none⟩ = some (.int .i64 da) := by simp [go_sem, hc1]
    have e5 : w1.cell? ⟨w.heap.size, 5, none⟩ = some (.int .i64 we) := by simp [go_sem, hc1]
    have e6 : w1.cell? ⟨w.heap.size, 6, none⟩ = some (.int .i64 wd) := by simp [go_sem, hc1]
    have B01 : Below w0.heap.size w0 w1 := HB0.out.trans (B1.mono z00)
    clear hc1 hf1 hs1 hb1
    go_wp2
    go_region_held3 (fun w' => w'.cell? ⟨w.heap.size, 0, none⟩ = some (.slice A n c) ∧ w'.cell? ⟨w.heap.size, 1, none⟩ = some (.int .i64 mo) ∧ w'.cell? ⟨w.heap.size, 2, none⟩ = some (.int .i64 te) ∧ w'.cell? ⟨w.heap.size, 3, none⟩ = some (.int .i64 (k : Int)) ∧ w'.cell? ⟨w.heap.size, 4, none⟩ = some (.int .i64 da) ∧ w'.cell? ⟨w.heap.size, 5, none⟩ = some (.int .i64 we) ∧ w'.cell? ⟨w.heap.size, 6, none⟩ = some (.int .i64 wd) ∧ w.heap.size < w'.heap.size ∧ Below w.heap.size w w' ∧ Below w0.heap.size w0 w')
      (first | ((try go_split_ands); (try dsimp only); refine ⟨?_, ?_, ?_, ?_, ?_, ?_, ?_, ?_, ?_, ?_⟩ <;> first | (exact cell_call (by assumption) (by assumption) (by assumption)) | (exact lt_call (by assumption) (by assumption)) | (exact below_call' (by assumption) (by assumption)) | (exact Below.drew (by assumption)) | (with_reducible assumption) | assumption | (simp; done) | omega))
      (first
        | (go_at_call 21; go_split_ands; refine (CM.out _ _).mono ?_; rintro e w6 ⟨rfl, hb6⟩)
        | (go_at_call 20; go_split_ands; refine (CD.out _ _ (by first | with_reducible exact hr0 | with_reducible exact a0 | with_reducible exact a2 | with_reducible exact k0) (by first | with_reducible exact hr1 | with_reducible exact a1 | with_reducible exact a3 | with_reducible exact k1) (by first | assumption | exact Below.drew (by assumption))).mono ?_; rintro e w6 ⟨rfl, hb6⟩))
    go_split_ands
    go_wp2
    go_ret
    exact ⟨str_eq HTX.out.symm, by assumption⟩
end Go.Proofs.YthicmkilhakdiaaDoor
