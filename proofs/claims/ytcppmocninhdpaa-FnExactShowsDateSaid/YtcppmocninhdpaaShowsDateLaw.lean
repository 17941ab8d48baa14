/- The law FnExactShowsDate returns true: the program's ShowsDate is the reference's, and it leaves its argument as it was. No conditions. -/
import Derived.Test.YtcppmocninhdpaaUntil
import Derived.Test.YtcppmocninhdpaaOpenPerp
namespace Go.Proofs.Ytcppmocninhdpaa.fnExactShowsDate
open Go.ChangeShapes Go.WideShapes Go.ChangeAt Go.RowKit
set_option linter.unusedVariables false
set_option linter.unusedSimpArgs false
set_option maxHeartbeats 1000000 in
theorem toDate_any (y m d : Int) (w : World) :
    Calls Try.prog 22 #[.agg #[.int .i64 y, .int .i64 m, .int .i64 d]] w fun e w' => e = .returned (.agg #[.int .i64 y, .int .i64 m, .int .i64 d]) ∧ Below w.heap.size w w' := by
  go_enter Try.func22, Try.ntmps22
  go_wp2
  refine bodyPost_ret (v := .agg #[.int .i64 y, .int .i64 m, .int .i64 d]) ?_ rfl ⟨rfl, ?_⟩
  · simp [results, Try.results22, go_sem]
  · (repeat (first | with_reducible exact Below.refl _ _ | with_reducible refine below_alloc ?_ _ | with_reducible refine below_drewN ?_ _ | with_reducible refine Below.drew ?_ | ((with_reducible refine below_set ?_ ?_ _); rotate_left; (focus (first | (simp; done) | (simp; omega) | omega))) | with_reducible refine below_call ?_ (by assumption)))
set_option maxHeartbeats 4000000 in
theorem walk (A : Option Addr) (n c : Nat) (zs : List Int) (mo te ix da we wd : Int) (y m d : Int) (w : World) (h : Came w A n c zs) (hw : Six mo te ix da we wd) (wy : (Lit.int .i64 y).wf = true) (wm : (Lit.int .i64 m).wf = true) (wd' : (Lit.int .i64 d).wf = true) :
    Calls Try.prog 5 #[.agg #[.slice A n c, .int .i64 mo, .int .i64 te, .int .i64 ix, .int .i64 da, .int .i64 we, .int .i64 wd], .agg #[.int .i64 y, .int .i64 m, .int .i64 d]] w fun e w' => e = .returned (.bool true) ∧ Below w.heap.size w w' := by
  obtain ⟨hI, hn, -⟩ := h
  have hz := fun w => szPerpetual_any A n c mo te ix da we wd 1048576 w (by omega) (by omega) hn
  by_cases hle : (1048576 : Int) < n
  · simp only [if_pos hle] at hz
    have HZ := Lib.hid hz
    clear hz hI
    go_enter Try.func5, Try.ntmps5
    go_wp2_with fail
    refine (HZ.out _).mono ?_
    rintro e w1 ⟨rfl, hb1⟩
    obtain ⟨hc1, hf1, hs1⟩ := bcell hb1
    (try (refine cut_ (p := w.heap.size < w1.heap.size) ?_ ?_; (focus (refine hs1 _ ?_; first | assumption | omega | (simp [go_sem]; done) | (simp [go_sem]; omega))); intro hl1a))
    (try (refine cut_ (p := w.heap.size + 1 < w1.heap.size) ?_ ?_; (focus (refine hs1 _ ?_; first | assumption | omega | (simp [go_sem]; done) | (simp [go_sem]; omega))); intro hl1b))
    (try (refine cut_ (p := w.heap.size + 1 + 1 < w1.heap.size) ?_ ?_; (focus (refine hs1 _ ?_; first | assumption | omega | (simp [go_sem]; done) | (simp [go_sem]; omega))); intro hl1c))
    go_wp2
    go_ret
    exact ⟨rfl, by (repeat (first | with_reducible exact Below.refl _ _ | with_reducible refine below_alloc ?_ _ | with_reducible refine below_drewN ?_ _ | with_reducible refine Below.drew ?_ | ((with_reducible refine below_set ?_ ?_ _); rotate_left; (focus (first | (simp; done) | (simp; omega) | omega))) | with_reducible refine below_call ?_ (by assumption)))⟩
  · simp only [if_neg hle] at hz
    have hn' : n ≤ 1048576 := by omega
    have hmo : mo ≤ 9223372036854775807 := by have h0 := hw.1; simp only [Lit.wf, Bool.and_eq_true, decide_eq_true_eq] at h0; have e2 : IntKind.i64.max = 9223372036854775807 := (by decide); omega
    have c1 := fun (A : Option Addr) (c B : Nat) (w : World) (h : Ints w B A n zs) (hB : B ≤ w.heap.size) => specShowsDate_any A n c B zs mo te ix da we wd y m d w h hB hn' hmo
    have c2 := fun (A : Option Addr) (c B : Nat) (w : World) (h : Ints w B A n zs) (hB : B ≤ w.heap.size) => ShowsDate_any A n c B zs mo te ix da we wd y m d w h hB hn' hmo
    generalize shT zs n mo te ix da we wd m d = V at *
    have C1 := Lib.hid c1
    have C2 := Lib.hid c2
    have HZ := Lib.hid hz
    have HI := Lib.hid hI
    clear hz hI c1 c2 hw
    go_enter Try.func5, Try.ntmps5
    go_wp2_with fail
    refine (HZ.out _).mono ?_
    rintro e w1 ⟨rfl, hb1⟩
    have B1 : Below w.heap.size w w1 := by (repeat (first | with_reducible exact Below.refl _ _ | with_reducible refine below_alloc ?_ _ | with_reducible refine below_drewN ?_ _ | with_reducible refine Below.drew ?_ | ((with_reducible refine below_set ?_ ?_ _); rotate_left; (focus (first | (simp; done) | (simp; omega) | omega))) | with_reducible refine below_call ?_ (by assumption)))
    have z1 : w.heap.size + 1 + 1 ≤ w1.heap.size := by have := hb1.size; simpa using this
    obtain ⟨hc1, hf1, hs1⟩ := bcell hb1
    have l1_0 : w1.cell? ⟨w.heap.size, 0, none⟩ = some (.slice A n c) := by simp [go_sem, hc1]
    have l1_1 : w1.cell? ⟨w.heap.size, 1, none⟩ = some (.int .i64 mo) := by simp [go_sem, hc1]
    have l1_2 : w1.cell? ⟨w.heap.size, 2, none⟩ = some (.int .i64 te) := by simp [go_sem, hc1]
    have l1_3 : w1.cell? ⟨w.heap.size, 3, none⟩ = some (.int .i64 ix) := by simp [go_sem, hc1]
    have l1_4 : w1.cell? ⟨w.heap.size, 4, none⟩ = some (.int .i64 da) := by simp [go_sem, hc1]
    have l1_5 : w1.cell? ⟨w.heap.size, 5, none⟩ = some (.int .i64 we) := by simp [go_sem, hc1]
    have l1_6 : w1.cell? ⟨w.heap.size, 6, none⟩ = some (.int .i64 wd) := by simp [go_sem, hc1]
    have l1_7 : w1.cell? ⟨w.heap.size + 1, 0, none⟩ = some (.int .i64 y) := by simp [go_sem, hc1]
    have l1_8 : w1.cell? ⟨w.heap.size + 1, 1, none⟩ = some (.int .i64 m) := by simp [go_sem, hc1]
    have l1_9 : w1.cell? ⟨w.heap.size + 1, 2, none⟩ = some (.int .i64 d) := by simp [go_sem, hc1]
    have ya1 : w.heap.size < w1.heap.size := by omega
    have yb1 : w.heap.size + 1 < w1.heap.size := by omega
    clear hb1 hc1 hf1 hs1
    go_wp2
    go_region_held3 (fun w' => w'.cell? ⟨w.heap.size, 0, none⟩ = some (.slice A n c) ∧ w'.cell? ⟨w.heap.size, 1, none⟩ = some (.int .i64 mo) ∧ w'.cell? ⟨w.heap.size, 2, none⟩ = some (.int .i64 te) ∧ w'.cell? ⟨w.heap.size, 3, none⟩ = some (.int .i64 ix) ∧ w'.cell? ⟨w.heap.size, 4, none⟩ = some (.int .i64 da) ∧ w'.cell? ⟨w.heap.size, 5, none⟩ = some (.int .i64 we) ∧ w'.cell? ⟨w.heap.size, 6, none⟩ = some (.int .i64 wd) ∧ w'.cell? ⟨w.heap.size + 1, 0, none⟩ = some (.int .i64 y) ∧ w'.cell? ⟨w.heap.size + 1, 1, none⟩ = some (.int .i64 m) ∧ w'.cell? ⟨w.heap.size + 1, 2, none⟩ = some (.int .i64 d) ∧ w.heap.size < w'.heap.size ∧ w.heap.size + 1 < w'.heap.size ∧ Below w.heap.size w w')
      (first | ((try go_split_ands); (try dsimp only); refine ⟨?_, ?_, ?_, ?_, ?_, ?_, ?_, ?_, ?_, ?_, ?_, ?_, ?_⟩ <;> first | (exact cell_call (by assumption) (by assumption) (by assumption)) | (exact lt_call (by assumption) (by assumption)) | (exact below_call' (by assumption) (by assumption)) | (exact Below.drew (by assumption)) | (with_reducible assumption) | (simp; done) | (simp [*]; done) | ((repeat (first | with_reducible exact Below.refl _ _ | with_reducible refine below_alloc ?_ _ | with_reducible refine below_drewN ?_ _ | with_reducible refine Below.drew ?_ | ((with_reducible refine below_set ?_ ?_ _); rotate_left; (focus (first | (simp; done) | (simp; omega) | omega))) | with_reducible refine below_call ?_ (by assumption))); done) | omega))
      (first
        | (go_at_call 16; go_split_ands; refine (toPerpetual_any _ _ _ w.heap.size zs mo te ix da we wd _ (by exact Ints.below HI.out (by assumption)) (by exact Below.size (B := w.heap.size) (w := w) (by assumption)) hn').mono ?_; rintro e w5 ⟨rfl, ho5, hb5⟩; have O5 := Lib.hid ho5; clear ho5)
        | (go_at_call 22; refine (toDate_any _ _ _ _).mono ?_; rintro e w6 ⟨rfl, hb6⟩)
        | (go_at_call 21; go_split_ands; refine (C1.out _ _ _ _ (by first | exact Own.ints O5.out (Nat.le_refl _) | exact Own.ints (Own.call O5.out (by assumption)) (Nat.le_refl _)) (Nat.le_refl _)).mono ?_; rintro e w2 ⟨rfl, hb2⟩))
    go_split_ands
    all_goals
      have B2 : Below w.heap.size w w2 := by assumption
      have z2 : w.heap.size + 1 < w2.heap.size := by assumption
      clear hb2 hb5 hb6 O5
      go_wp2_with fail
      refine (toPerpetual_any A n c w.heap.size zs mo te ix da we wd _ (Ints.below HI.out B2) (by omega) hn').mono ?_
      rintro e w3 ⟨rfl, ho3, hb3⟩
      have O3 := Lib.hid ho3
      have B3 : Below w.heap.size w w3 := B2.trans (hb3.mono (by omega))
      clear ho3
      have l3_0 : w3.cell? ⟨w.heap.size, 0, none⟩ = some (.slice A n c) := cell_call hb3 (by simp; omega) (by assumption)
      have l3_1 : w3.cell? ⟨w.heap.size, 1, none⟩ = some (.int .i64 mo) := cell_call hb3 (by simp; omega) (by assumption)
      have l3_2 : w3.cell? ⟨w.heap.size, 2, none⟩ = some (.int .i64 te) := cell_call hb3 (by simp; omega) (by assumption)
      have l3_3 : w3.cell? ⟨w.heap.size, 3, none⟩ = some (.int .i64 ix) := cell_call hb3 (by simp; omega) (by assumption)
      have l3_4 : w3.cell? ⟨w.heap.size, 4, none⟩ = some (.int .i64 da) := cell_call hb3 (by simp; omega) (by assumption)
      have l3_5 : w3.cell? ⟨w.heap.size, 5, none⟩ = some (.int .i64 we) := cell_call hb3 (by simp; omega) (by assumption)
      have l3_6 : w3.cell? ⟨w.heap.size, 6, none⟩ = some (.int .i64 wd) := cell_call hb3 (by simp; omega) (by assumption)
      have l3_7 : w3.cell? ⟨w.heap.size + 1, 0, none⟩ = some (.int .i64 y) := cell_call hb3 (by simp; omega) (by assumption)
      have l3_8 : w3.cell? ⟨w.heap.size + 1, 1, none⟩ = some (.int .i64 m) := cell_call hb3 (by simp; omega) (by assumption)
      have l3_9 : w3.cell? ⟨w.heap.size + 1, 2, none⟩ = some (.int .i64 d) := cell_call hb3 (by simp; omega) (by assumption)
      have ya3 : w.heap.size < w3.heap.size := by have := hb3.size; omega
      have yb3 : w.heap.size + 1 < w3.heap.size := by have := hb3.size; omega
      have r3 := (Below.refl w3.heap.size w3).alloc (Nat.le_refl _) (.cells #[.slice (some ⟨w2.heap.size + 1 + 1 + 1, 0, none⟩) n n, .int .i64 mo, .int .i64 te, .int .i64 ix, .int .i64 da, .int .i64 we, .int .i64 wd] 27)
      have B4 : Below w.heap.size w (w3.alloc (.cells #[.slice (some ⟨w2.heap.size + 1 + 1 + 1, 0, none⟩) n n, .int .i64 mo, .int .i64 te, .int .i64 ix, .int .i64 da, .int .i64 we, .int .i64 wd] 27)) := B3.alloc (by omega) _
      have yk4 : w3.heap.size < (w3.alloc (.cells #[.slice (some ⟨w2.heap.size + 1 + 1 + 1, 0, none⟩) n n, .int .i64 mo, .int .i64 te, .int .i64 ix, .int .i64 da, .int .i64 we, .int .i64 wd] 27)).heap.size := by simp
      have ya4 : w.heap.size < (w3.alloc (.cells #[.slice (some ⟨w2.heap.size + 1 + 1 + 1, 0, none⟩) n n, .int .i64 mo, .int .i64 te, .int .i64 ix, .int .i64 da, .int .i64 we, .int .i64 wd] 27)).heap.size := by simp; omega
      have yb4 : w.heap.size + 1 < (w3.alloc (.cells #[.slice (some ⟨w2.heap.size + 1 + 1 + 1, 0, none⟩) n n, .int .i64 mo, .int .i64 te, .int .i64 ix, .int .i64 da, .int .i64 we, .int .i64 wd] 27)).heap.size := by simp; omega
      obtain ⟨k4_0, k4_1, k4_2, k4_3, k4_4, k4_5, k4_6, -⟩ := work_new w3 27 (.slice (some ⟨w2.heap.size + 1 + 1 + 1, 0, none⟩) n n) mo te ix da we wd
      have l4_0 : (w3.alloc (.cells #[.slice (some ⟨w2.heap.size + 1 + 1 + 1, 0, none⟩) n n, .int .i64 mo, .int .i64 te, .int .i64 ix, .int .i64 da, .int .i64 we, .int .i64 wd] 27)).cell? ⟨w.heap.size, 0, none⟩ = some (.slice A n c) := cell_call r3 (by simp; omega) (by assumption)
      have l4_1 : (w3.alloc (.cells #[.slice (some ⟨w2.heap.size + 1 + 1 + 1, 0, none⟩) n n, .int .i64 mo, .int .i64 te, .int .i64 ix, .int .i64 da, .int .i64 we, .int .i64 wd] 27)).cell? ⟨w.heap.size, 1, none⟩ = some (.int .i64 mo) := cell_call r3 (by simp; omega) (by assumption)
      have l4_2 : (w3.alloc (.cells #[.slice (some ⟨w2.heap.size + 1 + 1 + 1, 0, none⟩) n n, .int .i64 mo, .int .i64 te, .int .i64 ix, .int .i64 da, .int .i64 we, .int .i64 wd] 27)).cell? ⟨w.heap.size, 2, none⟩ = some (.int .i64 te) := cell_call r3 (by simp; omega) (by assumption)
      have l4_3 : (w3.alloc (.cells #[.slice (some ⟨w2.heap.size + 1 + 1 + 1, 0, none⟩) n n, .int .i64 mo, .int .i64 te, .int .i64 ix, .int .i64 da, .int .i64 we, .int .i64 wd] 27)).cell? ⟨w.heap.size, 3, none⟩ = some (.int .i64 ix) := cell_call r3 (by simp; omega) (by assumption)
      have l4_4 : (w3.alloc (.cells #[.slice (some ⟨w2.heap.size + 1 + 1 + 1, 0, none⟩) n n, .int .i64 mo, .int .i64 te, .int .i64 ix, .int .i64 da, .int .i64 we, .int .i64 wd] 27)).cell? ⟨w.heap.size, 4, none⟩ = some (.int .i64 da) := cell_call r3 (by simp; omega) (by assumption)
      have l4_5 : (w3.alloc (.cells #[.slice (some ⟨w2.heap.size + 1 + 1 + 1, 0, none⟩) n n, .int .i64 mo, .int .i64 te, .int .i64 ix, .int .i64 da, .int .i64 we, .int .i64 wd] 27)).cell? ⟨w.heap.size, 5, none⟩ = some (.int .i64 we) := cell_call r3 (by simp; omega) (by assumption)
      have l4_6 : (w3.alloc (.cells #[.slice (some ⟨w2.heap.size + 1 + 1 + 1, 0, none⟩) n n, .int .i64 mo, .int .i64 te, .int .i64 ix, .int .i64 da, .int .i64 we, .int .i64 wd] 27)).cell? ⟨w.heap.size, 6, none⟩ = some (.int .i64 wd) := cell_call r3 (by simp; omega) (by assumption)
      have l4_7 : (w3.alloc (.cells #[.slice (some ⟨w2.heap.size + 1 + 1 + 1, 0, none⟩) n n, .int .i64 mo, .int .i64 te, .int .i64 ix, .int .i64 da, .int .i64 we, .int .i64 wd] 27)).cell? ⟨w.heap.size + 1, 0, none⟩ = some (.int .i64 y) := cell_call r3 (by simp; omega) (by assumption)
      have l4_8 : (w3.alloc (.cells #[.slice (some ⟨w2.heap.size + 1 + 1 + 1, 0, none⟩) n n, .int .i64 mo, .int .i64 te, .int .i64 ix, .int .i64 da, .int .i64 we, .int .i64 wd] 27)).cell? ⟨w.heap.size + 1, 1, none⟩ = some (.int .i64 m) := cell_call r3 (by simp; omega) (by assumption)
      have l4_9 : (w3.alloc (.cells #[.slice (some ⟨w2.heap.size + 1 + 1 + 1, 0, none⟩) n n, .int .i64 mo, .int .i64 te, .int .i64 ix, .int .i64 da, .int .i64 we, .int .i64 wd] 27)).cell? ⟨w.heap.size + 1, 2, none⟩ = some (.int .i64 d) := cell_call r3 (by simp; omega) (by assumption)
      clear hb3
      go_wp2
      generalize w3.alloc (.cells #[.slice (some ⟨w2.heap.size + 1 + 1 + 1, 0, none⟩) n n, .int .i64 mo, .int .i64 te, .int .i64 ix, .int .i64 da, .int .i64 we, .int .i64 wd] 27) = w4 at *
      go_region_held3 (fun w' => w'.cell? ⟨w.heap.size, 0, none⟩ = some (.slice A n c) ∧ w'.cell? ⟨w.heap.size, 1, none⟩ = some (.int .i64 mo) ∧ w'.cell? ⟨w.heap.size, 2, none⟩ = some (.int .i64 te) ∧ w'.cell? ⟨w.heap.size, 3, none⟩ = some (.int .i64 ix) ∧ w'.cell? ⟨w.heap.size, 4, none⟩ = some (.int .i64 da) ∧ w'.cell? ⟨w.heap.size, 5, none⟩ = some (.int .i64 we) ∧ w'.cell? ⟨w.heap.size, 6, none⟩ = some (.int .i64 wd) ∧ w'.cell? ⟨w.heap.size + 1, 0, none⟩ = some (.int .i64 y) ∧ w'.cell? ⟨w.heap.size + 1, 1, none⟩ = some (.int .i64 m) ∧ w'.cell? ⟨w.heap.size + 1, 2, none⟩ = some (.int .i64 d) ∧ w'.cell? ⟨w3.heap.size, 0, none⟩ = some (.slice (some ⟨w2.heap.size + 1 + 1 + 1, 0, none⟩) n n) ∧ w'.cell? ⟨w3.heap.size, 1, none⟩ = some (.int .i64 mo) ∧ w'.cell? ⟨w3.heap.size, 2, none⟩ = some (.int .i64 te) ∧ w'.cell? ⟨w3.heap.size, 3, none⟩ = some (.int .i64 ix) ∧ w'.cell? ⟨w3.heap.size, 4, none⟩ = some (.int .i64 da) ∧ w'.cell? ⟨w3.heap.size, 5, none⟩ = some (.int .i64 we) ∧ w'.cell? ⟨w3.heap.size, 6, none⟩ = some (.int .i64 wd) ∧ w.heap.size < w'.heap.size ∧ w.heap.size + 1 < w'.heap.size ∧ w3.heap.size < w'.heap.size ∧ Below w.heap.size w w' ∧ Below w3.heap.size w3 w')
        (first | ((try go_split_ands); (try dsimp only); refine ⟨?_, ?_, ?_, ?_, ?_, ?_, ?_, ?_, ?_, ?_, ?_, ?_, ?_, ?_, ?_, ?_, ?_, ?_, ?_, ?_, ?_, ?_⟩ <;> first | (exact cell_call (by assumption) (by assumption) (by assumption)) | (exact lt_call (by assumption) (by assumption)) | (exact below_call' (by assumption) (by assumption)) | (exact Below.drew (by assumption)) | (with_reducible assumption) | (simp; done) | (simp [*]; done) | ((repeat (first | with_reducible exact Below.refl _ _ | with_reducible refine below_alloc ?_ _ | with_reducible refine below_drewN ?_ _ | with_reducible refine Below.drew ?_ | ((with_reducible refine below_set ?_ ?_ _); rotate_left; (focus (first | (simp; done) | (simp; omega) | omega))) | with_reducible refine below_call ?_ (by assumption))); done) | omega))
        (first
          | (go_at_call 22; refine (toDate_any _ _ _ _).mono ?_; rintro e w7 ⟨rfl, hb7⟩)
          | (go_at_call 23; go_split_ands; refine (C2.out _ _ _ _ (by exact Own.ints (Own.call O3.out (by assumption)) (Nat.le_refl _)) (Nat.le_refl _)).mono ?_; rintro e w4 ⟨rfl, hb4⟩))
      go_split_ands
      go_wp2
      go_region_held3 (fun w' => w'.cell? ⟨w.heap.size, 0, none⟩ = some (.slice A n c) ∧ w'.cell? ⟨w.heap.size, 1, none⟩ = some (.int .i64 mo) ∧ w'.cell? ⟨w.heap.size, 2, none⟩ = some (.int .i64 te) ∧ w'.cell? ⟨w.heap.size, 3, none⟩ = some (.int .i64 ix) ∧ w'.cell? ⟨w.heap.size, 4, none⟩ = some (.int .i64 da) ∧ w'.cell? ⟨w.heap.size, 5, none⟩ = some (.int .i64 we) ∧ w'.cell? ⟨w.heap.size, 6, none⟩ = some (.int .i64 wd) ∧ w'.cell? ⟨w3.heap.size, 0, none⟩ = some (.slice (some ⟨w2.heap.size + 1 + 1 + 1, 0, none⟩) n n) ∧ w'.cell? ⟨w3.heap.size, 1, none⟩ = some (.int .i64 mo) ∧ w'.cell? ⟨w3.heap.size, 2, none⟩ = some (.int .i64 te) ∧ w'.cell? ⟨w3.heap.size, 3, none⟩ = some (.int .i64 ix) ∧ w'.cell? ⟨w3.heap.size, 4, none⟩ = some (.int .i64 da) ∧ w'.cell? ⟨w3.heap.size, 5, none⟩ = some (.int .i64 we) ∧ w'.cell? ⟨w3.heap.size, 6, none⟩ = some (.int .i64 wd) ∧ w.heap.size < w'.heap.size ∧ w3.heap.size < w'.heap.size ∧ Below w.heap.size w w' ∧ Below w3.heap.size w3 w')
        (first | ((try go_split_ands); (try dsimp only); refine ⟨?_, ?_, ?_, ?_, ?_, ?_, ?_, ?_, ?_, ?_, ?_, ?_, ?_, ?_, ?_, ?_, ?_, ?_⟩ <;> first | (exact cell_call (by assumption) (by assumption) (by assumption)) | (exact lt_call (by assumption) (by assumption)) | (exact below_call' (by assumption) (by assumption)) | (exact Below.drew (by assumption)) | (with_reducible assumption) | (simp; done) | (simp [*]; done) | ((repeat (first | with_reducible exact Below.refl _ _ | with_reducible refine below_alloc ?_ _ | with_reducible refine below_drewN ?_ _ | with_reducible refine Below.drew ?_ | ((with_reducible refine below_set ?_ ?_ _); rotate_left; (focus (first | (simp; done) | (simp; omega) | omega))) | with_reducible refine below_call ?_ (by assumption))); done) | omega))
        (first
          | (go_at_call 16; go_split_ands; refine (toPerpetual_any _ _ _ w.heap.size zs mo te ix da we wd _ (by exact Ints.below HI.out (by assumption)) (by exact Below.size (B := w.heap.size) (w := w) (by assumption)) hn').mono ?_; rintro e w8 ⟨rfl, ho8, hb8⟩; have O8 := Lib.hid ho8; clear ho8)
          | (go_at_call 18; go_split_ands; refine (eqPerpetual_same _ _ _ _ _ _ _ _ zs mo te ix da we wd _ (by exact Own.ints (Own.call O3.out (by assumption)) (Nat.le_refl _)) (by exact Own.ints O8.out (Nat.le_refl _)) (Nat.le_refl _) (Nat.le_refl _) hn hn).mono ?_; rintro e w9 ⟨rfl, hb9⟩))
      go_split_ands
      go_wp2
      go_ret
      exact ⟨rfl, by assumption⟩

set_option maxRecDepth 100000 in
theorem lifted (os : Os) (started : os.Started) (H : Type) (enc : TypeId × Value → H) :
    ReturnsInHanded {} Try.checked os 5 .any (Rows.fnExactShowsDateSpec.pre6 enc Try.prog Try.f5 Rows.fnExactShowsDateRow.domain false) (Rows.fnExactShowsDateSpec.post enc Try.prog Try.f5 false true false false) := by
  refine returnsInHanded_of_change (C := Try.checked) own started (by kernel_rfl) Try.func5
    (ChangeSpec.witness6 (enc := enc) (C := Try.checked) false ⟨#[], #[.agg #[.slice none 0 0, .int .i64 0, .int .i64 0, .int .i64 0, .int .i64 0, .int .i64 0, .int .i64 0], .agg #[.int .i64 0, .int .i64 0, .int .i64 0]], []⟩ 8 (by kernel_rfl) (by kernel_rfl) (by kernel_rfl) (by kernel_rfl)) ?_
  intro W base args ds gs before hval0 hW hcnd _
  have hval : ∀ (j : Nat) t v, Try.f5.params[j]? = some t → args[j]? = some v → Value.okWide Try.prog W .any base t v := hval0
  have hW' := hW
  obtain ⟨p, q, hA0, hV, rfl, hfz, hnd⟩ := hW
  have hA : DataW.TrodAll enc Try.prog W 0 (fun _ => true) true Try.f5.params.toList args.toList ds p := hA0
  rw [Try.params5] at hA hval
  obtain ⟨v0, vs0, d0, ds0, p0, q0, hargs, rfl, rfl, h0, r0⟩ := trodAll_cons hA
  obtain ⟨v1, vs1, d1, ds1, p1, q1, rfl, rfl, rfl, h1, r1⟩ := trodAll_cons r0
  obtain ⟨rfl, rfl, rfl⟩ := trodAll_nil r1
  obtain rfl : args = #[v0, v1] := by cases args; simp_all
  obtain ⟨rfl, rfl⟩ := trodVars_none hV
  have k0 := h0
  have lt0 : ∀ x ∈ p0, x.block < W.heap.size := by obtain ⟨m, hm⟩ := k0; exact DataW.trod_lt m _ _ _ hm
  have k1 := h1
  have lt1 : ∀ x ∈ p1, x.block < W.heap.size := by obtain ⟨m, hm⟩ := k1; exact DataW.trod_lt m _ _ _ hm
  obtain ⟨A0, l0, c0, z0, mo0, te0, at0, da0, we0, wd0, rfl, R0, hw0⟩ := open_Perpetual (hval 0 24 v0 rfl rfl) h0
  obtain ⟨n1, m1, z1, rfl, wn1, wm1, wz1⟩ := open_Date (hval 1 33 v1 rfl rfl) h1
  clear hA0 hval0
  refine (walk A0 l0 c0 z0 mo0 te0 at0 da0 we0 wd0 n1 m1 z1 W R0 hw0 wn1 wm1 wz1).mono fun e W' ⟨he, bel⟩ => ?_
  subst he
  exact ⟨_, rfl, _, _, _, [], _, [], hW', trodAll_mk1 (shut_bool Try.underlying4 _), (trodAll_cons_mk (Below.trod laidOut (by kernel_rfl) (of_decide_eq_true (by kernel_rfl)) k0 bel lt0) (trodAll_cons_mk (Below.trod laidOut (by kernel_rfl) (of_decide_eq_true (by kernel_rfl)) k1 bel lt1) trodAll_mk0)), rfl, bel.frame _, fun h => by cases h⟩
theorem over : Rows.fnExactShowsDateRow.holds Try.pinned (OpenSpec.ofChange Rows.fnExactShowsDateSpec) :=
  OpenClaim.holds_of_wide 5 Try.f5 rfl rfl rfl rfl rfl rfl rfl ⟨rfl, rfl, rfl, rfl, rfl⟩ rfl rfl rfl rfl rfl (by kernel_rfl) Try.func5 (by kernel_rfl)
    (of_decide_eq_true (by kernel_rfl)) (by unfold Func.isWrapper; first | (rw [if_pos (by decide +kernel)]; kernel_rfl) | (rw [if_neg (by decide +kernel)]; exact ⟨rfl, rfl⟩))
    (fun os started H enc _ => lifted os started H enc)
theorem proved : Rows.FnExactShowsDateSaid := over
#print axioms proved
end Go.Proofs.Ytcppmocninhdpaa.fnExactShowsDate
