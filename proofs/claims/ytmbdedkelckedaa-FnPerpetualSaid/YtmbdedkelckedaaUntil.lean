/- The two functions NightsUntil and the two functions ShowsDate. No conditions but that a cam has at most 2^20 levels. -/
import Derived.Test.YtmbdedkelckedaaRun
namespace Go.Proofs.Ytmbdedkelckedaa
open Go.RowKit
set_option linter.unusedVariables false
set_option linter.unusedSimpArgs false
/-- the first number from s on of which P holds, or s + f -/
def firstB (P : Nat → Bool) : Nat → Nat → Nat
  | 0, s => s
  | f + 1, s => if P s then s else firstB P f (s + 1)
theorem firstB_miss {P : Nat → Bool} (f s : Nat) (h : ∀ i, s ≤ i → i < s + f → P i = false) : firstB P f s = s + f := by
  induction f generalizing s with
  | zero => rfl
  | succ f ih =>
    rw [firstB, if_neg (by rw [h s (Nat.le_refl _) (by omega)]; decide), ih (s + 1) (fun i h1 h2 => h i (by omega) (by omega))]; omega
theorem firstB_hit {P : Nat → Bool} (f s j : Nat) (hs : s ≤ j) (hj : j < s + f) (h : ∀ i, s ≤ i → i < j → P i = false) (hP : P j = true) : firstB P f s = j := by
  induction f generalizing s with
  | zero => omega
  | succ f ih =>
    rw [firstB]
    by_cases e : s = j
    · subst e; rw [if_pos hP]
    · rw [if_neg (by rw [h s (Nat.le_refl _) (by omega)]; decide)]
      exact ih (s + 1) (by omega) (by omega) (fun i h1 h2 => h i (by omega) h2)
def untilP (zs : List Int) (n : Nat) (mo te we : Int) (s : Nat × Int × Int) (m d : Int) (j : Nat) : Bool := showB mo ((nightsS zs n te we j s).1 : Int) (nightsS zs n te we j s).2.1 m d
def firstT (r N : Nat) : Value := if r ≤ N then .tuple #[.int .i64 (r : Int), .int .i64 0] else .tuple #[.int .i64 0, .int .i64 3]
def untilT (zs : List Int) (n : Nat) (mo te ix da we wd m d : Int) : Value :=
  if vPerp zs n mo te ix da we wd then if inB m 1 mo && inB d 1 te then firstT (firstB (untilP zs n mo te we (ix.toNat, da, wd) m d) 200001 0) 200000 else .tuple #[.int .i64 0, .int .i64 2] else .tuple #[.int .i64 0, .int .i64 1]
theorem until_bad {zs : List Int} {n : Nat} {mo te ix da we wd m d : Int} (h : vPerp zs n mo te ix da we wd = false) : untilT zs n mo te ix da we wd m d = .tuple #[.int .i64 0, .int .i64 1] := by rw [untilT, h]; rfl
theorem until_far {zs : List Int} {n : Nat} {mo te ix da we wd m d : Int} (h : vPerp zs n mo te ix da we wd = true) (h2 : (inB m 1 mo && inB d 1 te) = false) : untilT zs n mo te ix da we wd m d = .tuple #[.int .i64 0, .int .i64 2] := by rw [untilT, h, h2]; rfl
theorem until_ok {zs : List Int} {n k : Nat} {mo te da we wd m d : Int} (h : vPerp zs n mo te (k : Int) da we wd = true) (h2 : (inB m 1 mo && inB d 1 te) = true) : untilT zs n mo te (k : Int) da we wd m d = firstT (firstB (untilP zs n mo te we (k, da, wd) m d) 200001 0) 200000 := by rw [untilT, h, h2]; rfl
theorem first_hit {P : Nat → Bool} {j : Nat} (hj : j < 200001) (h : ∀ i, i < j → P i = false) (hP : P j = true) : Value.tuple #[.int .i64 (j : Int), .int .i64 0] = firstT (firstB P 200001 0) 200000 := by
  rw [firstB_hit 200001 0 j (Nat.zero_le _) (by omega) (fun i _ h2 => h i h2) hP, firstT, if_pos (by omega)]
theorem first_miss {P : Nat → Bool} (h : ∀ i, i < 200001 → P i = false) : Value.tuple #[.int .i64 0, .int .i64 3] = firstT (firstB P 200001 0) 200000 := by
  rw [firstB_miss 200001 0 (fun i _ h2 => h i (by omega)), firstT, if_neg (by omega)]
theorem untilT_form (zs : List Int) (n : Nat) (mo te ix da we wd m d : Int) : ∃ a b : Int, untilT zs n mo te ix da we wd m d = .tuple #[.int .i64 a, .int .i64 b] := by
  unfold untilT firstT; split
  · split
    · split <;> exact ⟨_, _, rfl⟩
    · exact ⟨_, _, rfl⟩
  · exact ⟨_, _, rfl⟩
theorem ret_val {a b : Value} (h : a = b) : Ending.returned a = .returned b := by rw [h]
def shT (zs : List Int) (n : Nat) (mo te ix da we wd m d : Int) : Bool := vPerp zs n mo te ix da we wd && showB mo ix da m d
set_option maxHeartbeats 2000000 in
theorem ShowsDate_any (A : Option Addr) (n c B : Nat) (zs : List Int) (mo te ix da we wd y m d : Int) (w : World) (h : Ints w B A n zs) (hB : B ≤ w.heap.size) (hn : n ≤ 1048576) (hmo : mo ≤ 9223372036854775807) :
    Calls Try.prog 12 #[.agg #[.slice A n c, .int .i64 mo, .int .i64 te, .int .i64 ix, .int .i64 da, .int .i64 we, .int .i64 wd], .agg #[.int .i64 y, .int .i64 m, .int .i64 d]] w fun e w' => e = .returned (.bool (shT zs n mo te ix da we wd m d)) ∧ Below w.heap.size w w' := by
  have H := Lib.hid (h.more hB)
  clear h
  have cV := fun (W : World) (h : Ints W w.heap.size A n zs) (h2 : w.heap.size ≤ W.heap.size) => ValidPerpetual_any A n c w.heap.size zs mo te ix da we wd W h h2 hn
  unfold shT
  cases hv : vPerp zs n mo te ix da we wd
  · simp only [hv, Bool.false_and] at cV ⊢
    have CV := Lib.hid cV
    clear cV hv
    go_enter Try.func12, Try.ntmps12
    go_wp2_with fail
    go_at_call 31
    refine (CV.out _ (by exact Ints.below (H.out) (by (repeat (first | with_reducible exact Below.refl _ _ | with_reducible refine below_alloc ?_ _ | with_reducible refine below_drewN ?_ _ | with_reducible refine Below.drew ?_ | ((with_reducible refine below_set ?_ ?_ _); rotate_left; (focus (first | (simp; done) | (simp; omega) | omega))) | with_reducible refine below_call ?_ (by assumption))))) (by exact Below.size (B := w.heap.size) (w := w) (by (repeat (first | with_reducible exact Below.refl _ _ | with_reducible refine below_alloc ?_ _ | with_reducible refine below_drewN ?_ _ | with_reducible refine Below.drew ?_ | ((with_reducible refine below_set ?_ ?_ _); rotate_left; (focus (first | (simp; done) | (simp; omega) | omega))) | with_reducible refine below_call ?_ (by assumption)))))).mono ?_
    rintro e w1 ⟨rfl, hb1⟩
    obtain ⟨hc1, hf1, hs1⟩ := bcell hb1
    (try (refine cut_ (p := w.heap.size < w1.heap.size) ?_ ?_; (focus (refine hs1 _ ?_; first | assumption | omega | (simp [go_sem]; done) | (simp [go_sem]; omega))); intro hl1a))
    (try (refine cut_ (p := w.heap.size + 1 < w1.heap.size) ?_ ?_; (focus (refine hs1 _ ?_; first | assumption | omega | (simp [go_sem]; done) | (simp [go_sem]; omega))); intro hl1b))
    (try (refine cut_ (p := w.heap.size + 1 + 1 < w1.heap.size) ?_ ?_; (focus (refine hs1 _ ?_; first | assumption | omega | (simp [go_sem]; done) | (simp [go_sem]; omega))); intro hl1c))
    go_wp2
    go_ret
    exact ⟨rfl, by (repeat (first | with_reducible exact Below.refl _ _ | with_reducible refine below_alloc ?_ _ | with_reducible refine below_drewN ?_ _ | with_reducible refine Below.drew ?_ | ((with_reducible refine below_set ?_ ?_ _); rotate_left; (focus (first | (simp; done) | (simp; omega) | omega))) | with_reducible refine below_call ?_ (by assumption)))⟩
  · simp only [hv, Bool.true_and] at cV ⊢
    have CV := Lib.hid cV
    obtain ⟨_, v1, v2, hte, hix, hda, hwe, hwd1, hwd2⟩ := vPerp_yes hv
    obtain ⟨k, rfl⟩ := Int.eq_ofNat_of_zero_le hix.1
    have cW := fun (W : World) => shows_any (.slice A n c) k mo te da we wd m d W (by omega) hmo (by omega)
    generalize showB mo (k : Int) da m d = b at *
    have CW := Lib.hid cW
    clear cV hv cW
    go_enter Try.func12, Try.ntmps12
    go_wp2_with fail
    go_at_call 31
    refine (CV.out _ (by exact Ints.below (H.out) (by (repeat (first | with_reducible exact Below.refl _ _ | with_reducible refine below_alloc ?_ _ | with_reducible refine below_drewN ?_ _ | with_reducible refine Below.drew ?_ | ((with_reducible refine below_set ?_ ?_ _); rotate_left; (focus (first | (simp; done) | (simp; omega) | omega))) | with_reducible refine below_call ?_ (by assumption))))) (by exact Below.size (B := w.heap.size) (w := w) (by (repeat (first | with_reducible exact Below.refl _ _ | with_reducible refine below_alloc ?_ _ | with_reducible refine below_drewN ?_ _ | with_reducible refine Below.drew ?_ | ((with_reducible refine below_set ?_ ?_ _); rotate_left; (focus (first | (simp; done) | (simp; omega) | omega))) | with_reducible refine below_call ?_ (by assumption)))))).mono ?_
    rintro e w1 ⟨rfl, hb1⟩
    obtain ⟨hc1, hf1, hs1⟩ := bcell hb1
    (try (refine cut_ (p := w.heap.size < w1.heap.size) ?_ ?_; (focus (refine hs1 _ ?_; first | assumption | omega | (simp [go_sem]; done) | (simp [go_sem]; omega))); intro hl1a))
    (try (refine cut_ (p := w.heap.size + 1 < w1.heap.size) ?_ ?_; (focus (refine hs1 _ ?_; first | assumption | omega | (simp [go_sem]; done) | (simp [go_sem]; omega))); intro hl1b))
    (try (refine cut_ (p := w.heap.size + 1 + 1 < w1.heap.size) ?_ ?_; (focus (refine hs1 _ ?_; first | assumption | omega | (simp [go_sem]; done) | (simp [go_sem]; omega))); intro hl1c))
    go_wp2_with fail
    go_at_call 34
    refine (CW.out _).mono ?_
    rintro e w2 ⟨rfl, hb2⟩
    obtain ⟨hc2, hf2, hs2⟩ := bcell hb2
    (try (refine cut_ (p := w.heap.size < w2.heap.size) ?_ ?_; (focus (refine hs2 _ ?_; first | assumption | omega | (simp [go_sem]; done) | (simp [go_sem]; omega))); intro hl2a))
    (try (refine cut_ (p := w.heap.size + 1 < w2.heap.size) ?_ ?_; (focus (refine hs2 _ ?_; first | assumption | omega | (simp [go_sem]; done) | (simp [go_sem]; omega))); intro hl2b))
    (try (refine cut_ (p := w.heap.size + 1 + 1 < w2.heap.size) ?_ ?_; (focus (refine hs2 _ ?_; first | assumption | omega | (simp [go_sem]; done) | (simp [go_sem]; omega))); intro hl2c))
    go_wp2
    go_ret
    exact ⟨rfl, by (repeat (first | with_reducible exact Below.refl _ _ | with_reducible refine below_alloc ?_ _ | with_reducible refine below_drewN ?_ _ | with_reducible refine Below.drew ?_ | ((with_reducible refine below_set ?_ ?_ _); rotate_left; (focus (first | (simp; done) | (simp; omega) | omega))) | with_reducible refine below_call ?_ (by assumption)))⟩
set_option maxHeartbeats 2000000 in
theorem specShowsDate_any (A : Option Addr) (n c B : Nat) (zs : List Int) (mo te ix da we wd y m d : Int) (w : World) (h : Ints w B A n zs) (hB : B ≤ w.heap.size) (hn : n ≤ 1048576) (hmo : mo ≤ 9223372036854775807) :
    Calls Try.prog 8 #[.agg #[.slice A n c, .int .i64 mo, .int .i64 te, .int .i64 ix, .int .i64 da, .int .i64 we, .int .i64 wd], .agg #[.int .i64 y, .int .i64 m, .int .i64 d]] w fun e w' => e = .returned (.bool (shT zs n mo te ix da we wd m d)) ∧ Below w.heap.size w w' := by
  have H := Lib.hid (h.more hB)
  clear h
  have cV := fun (W : World) (h : Ints W w.heap.size A n zs) (h2 : w.heap.size ≤ W.heap.size) => l18Ok_any A n c w.heap.size w.heap.size zs mo te ix da we wd W h h2 hn
  unfold shT
  cases hv : vPerp zs n mo te ix da we wd
  · simp only [hv, Bool.false_and] at cV ⊢
    have CV := Lib.hid cV
    clear cV hv
    go_enter Try.func8, Try.ntmps8
    go_wp2_with fail
    go_at_call 29
    refine (CV.out _ ((H.out.alloc (Nat.le_refl _) _).alloc (by simp) _) (by simp; omega) (by simp [go_sem]) (by simp [go_sem]) (by simp [go_sem]) (by simp [go_sem]) (by simp [go_sem]) (by simp [go_sem]) (by simp [go_sem])).mono ?_
    rintro e w1 ⟨rfl, m1, rfl⟩
    go_wp2
    go_ret
    exact ⟨rfl, by (repeat (first | with_reducible exact Below.refl _ _ | with_reducible refine below_alloc ?_ _ | with_reducible refine below_drewN ?_ _ | with_reducible refine Below.drew ?_ | ((with_reducible refine below_set ?_ ?_ _); rotate_left; (focus (first | (simp; done) | (simp; omega) | omega))) | with_reducible refine below_call ?_ (by assumption)))⟩
  · simp only [hv, Bool.true_and] at cV ⊢
    have CV := Lib.hid cV
    obtain ⟨_, v1, v2, hte, hix, hda, hwe, hwd1, hwd2⟩ := vPerp_yes hv
    obtain ⟨k, rfl⟩ := Int.eq_ofNat_of_zero_le hix.1
    have cW := fun (W : World) (h : Work W w.heap.size (.slice A n c) mo te (k : Int) da we wd) => l18Shows_any (.slice A n c) w.heap.size k mo te da we wd m d W h (by omega) hmo (by omega)
    generalize showB mo (k : Int) da m d = b at *
    have CW := Lib.hid cW
    clear cV hv cW
    go_enter Try.func8, Try.ntmps8
    go_wp2_with fail
    go_at_call 29
    refine (CV.out _ ((H.out.alloc (Nat.le_refl _) _).alloc (by simp) _) (by simp; omega) (by simp [go_sem]) (by simp [go_sem]) (by simp [go_sem]) (by simp [go_sem]) (by simp [go_sem]) (by simp [go_sem]) (by simp [go_sem])).mono ?_
    rintro e w1 ⟨rfl, m1, rfl⟩
    go_wp2_with fail
    go_at_call 28
    refine (CW.out _ (Work.drewN ((work_new w 32 (.slice A n c) mo te (k : Int) da we wd).alloc _) _)).mono ?_
    rintro e w2 ⟨rfl, m2, rfl⟩
    go_wp2
    go_ret
    exact ⟨rfl, by (repeat (first | with_reducible exact Below.refl _ _ | with_reducible refine below_alloc ?_ _ | with_reducible refine below_drewN ?_ _ | with_reducible refine Below.drew ?_ | ((with_reducible refine below_set ?_ ?_ _); rotate_left; (focus (first | (simp; done) | (simp; omega) | omega))) | with_reducible refine below_call ?_ (by assumption)))⟩
end Go.Proofs.Ytmbdedkelckedaa
