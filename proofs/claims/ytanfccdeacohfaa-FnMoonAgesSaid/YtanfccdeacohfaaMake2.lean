/- Contracts of the functions that make, add and subtract ratios. No conditions but bounds that keep int64 from wrapping. -/
import Derived.Test.YtanfccdeacohfaaMake
import Derived.Deep.RegionHeld3
namespace Go.Proofs.Ytanfccdeacohfaa
open Go.RowKit
set_option linter.unusedVariables false
set_option linter.unusedSimpArgs false

/-- the parts of what is made of n and d: 0 and 0 where there is no valid ratio -/
def rN (n d : Int) : Int := if redB n d then redN n d else 0
def rD (n d : Int) : Int := if redB n d then redD n d else 0
theorem redT_eq (n d : Int) : redT n d = .tuple #[.agg #[.int .i64 (rN n d), .int .i64 (rD n d)], .bool (redB n d)] := by
  unfold redT rN rD
  cases h : redB n d <;> rfl
theorem r_no {n d : Int} (h : redB n d = false) : rN n d = 0 ∧ rD n d = 0 := by simp [rN, rD, h]
theorem red_cases (n d : Int) (A B g : Int) (hA : (n.natAbs : Int) = A) (hB : (d.natAbs : Int) = B) (hg : gI n d = g) :
    (1000000000 < A / g ∨ (A / g ≤ 1000000000 ∧ 1000000000 < B / g)) ∧ redT n d = .tuple #[.agg #[.int .i64 0, .int .i64 0], .bool false] ∨ (A / g ≤ 1000000000 ∧ B / g ≤ 1000000000) ∧ ((n < 0 ∧ d < 0 ∨ 0 ≤ n ∧ 0 ≤ d) ∧ redT n d = .tuple #[.agg #[.int .i64 (A / g), .int .i64 (B / g)], .bool true] ∨ (n < 0 ∧ 0 ≤ d ∨ 0 ≤ n ∧ d < 0) ∧ redT n d = .tuple #[.agg #[.int .i64 (-(A / g)), .int .i64 (B / g)], .bool true]) := by
  by_cases h1 : A / g ≤ 1000000000
  · by_cases h2 : B / g ≤ 1000000000
    · refine .inr ⟨⟨h1, h2⟩, ?_⟩
      have h := redT_yes hA hB hg h1 h2
      by_cases s1 : n < 0
      · by_cases s2 : d < 0
        · exact .inl ⟨.inl ⟨s1, s2⟩, by rw [h]; simp [s1, s2]⟩
        · exact .inr ⟨.inl ⟨s1, by omega⟩, by rw [h]; simp [s1, s2]⟩
      · by_cases s2 : d < 0
        · exact .inr ⟨.inr ⟨by omega, s2⟩, by rw [h]; simp [s1, s2]⟩
        · exact .inl ⟨.inr ⟨by omega, by omega⟩, by rw [h]; simp [s1, s2]⟩
    · exact .inl ⟨.inr ⟨h1, by omega⟩, redT_no2 hB hg (by omega)⟩
  · exact .inl ⟨.inl (by omega), redT_no1 hA hg (by omega)⟩
theorem reduced_any (n d : Int) (w : World) (h1 : -4000000000000000000 ≤ n) (h2 : n ≤ 4000000000000000000) (h3 : -4000000000000000000 ≤ d) (h4 : d ≤ 4000000000000000000) (hd : d ≠ 0) :
    Calls Try.prog 82 #[.int .i64 n, .int .i64 d] w fun e w' => e = .returned (.tuple #[.agg #[.int .i64 (rN n d), .int .i64 (rD n d)], .bool (redB n d)]) ∧ Below w.heap.size w w' := by
  rw [← redT_eq]
  exact reduced_core n d n.natAbs d.natAbs (gI n d) (redT n d) w (fun w => magnitude_any n w h1 h2) (fun w => magnitude_any d w h3 h4) (by unfold gI; rw [gcd_abs]; exact Lib.hid rfl) (by omega) (by omega) (by omega) (by omega) (gI_pos hd)
    (red_cases n d _ _ _ rfl rfl rfl)
theorem l02Make_any (n d : Int) (w : World) (h1 : -4000000000000000000 ≤ n) (h2 : n ≤ 4000000000000000000) (h3 : -4000000000000000000 ≤ d) (h4 : d ≤ 4000000000000000000) (hd : d ≠ 0) :
    Calls Try.prog 71 #[.int .i64 n, .int .i64 d] w fun e w' => e = .returned (.tuple #[.agg #[.int .i64 (rN n d), .int .i64 (rD n d)], .bool (redB n d)]) ∧ Below w.heap.size w w' := by
  rw [← redT_eq]
  exact l02Make_core n d n.natAbs d.natAbs (gI n d) (redT n d) w (fun w => l02Part_any n w h1 h2) (fun w => l02Part_any d w h3 h4) (by unfold gI; rw [gcd_abs]; exact Lib.hid rfl) (by omega) (by omega) (by omega) (by omega) (gI_pos hd)
    (red_cases n d _ _ _ rfl rfl rfl)
/-- the code of what is made -/
def rC (n d : Int) : Int := if redB n d then 0 else 2
theorem rC_yes {n d : Int} (h : redB n d = true) : rC n d = 0 := by simp [rC, h]
theorem rC_no {n d : Int} (h : redB n d = false) : rC n d = 2 := by simp [rC, h]
def ratT (a b c : Int) : Value := .tuple #[.agg #[.int .i64 a, .int .i64 b], .int .i64 c]
theorem ratT_no {n d : Int} (h : redB n d = false) : ratT (rN n d) (rD n d) (rC n d) = .tuple #[.agg #[.int .i64 0, .int .i64 0], .int .i64 2] := by
  rw [ratT, (r_no h).1, (r_no h).2, rC_no h]
theorem ratT_yes {n d : Int} (h : redB n d = true) : ratT (rN n d) (rD n d) (rC n d) = .tuple #[.agg #[.int .i64 (rN n d), .int .i64 (rD n d)], .int .i64 0] := by
  rw [ratT, rC_yes h]
set_option maxHeartbeats 800000 in
theorem MakeRatio_any (n d : Int) (w : World) (h1 : -4000000000000000000 ≤ n) (h2 : n ≤ 4000000000000000000) (h3 : -4000000000000000000 ≤ d) (h4 : d ≤ 4000000000000000000) (hd : d ≠ 0) :
    Calls Try.prog 72 #[.int .i64 n, .int .i64 d] w fun e w' => e = .returned (.tuple #[.agg #[.int .i64 (rN n d), .int .i64 (rD n d)], .int .i64 (rC n d)]) ∧ Below w.heap.size w w' := by
  cases hb : redB n d
  · rw [show Value.tuple #[.agg #[.int .i64 (rN n d), .int .i64 (rD n d)], .int .i64 (rC n d)] = _ from ratT_no hb]
    go_enter Try.func72, Try.ntmps72
    go_wp2_with (go_at_call 82; refine (reduced_any _ _ _ (by omega) (by omega) (by omega) (by omega) (by omega)).mono ?_; rintro e w1 ⟨rfl, hb1⟩; obtain ⟨hc1, hf1, hs1⟩ := bcell hb1; have hz1 := hb1.size; (try simp at hz1); (try (refine cut_ (p := w.heap.size < w1.heap.size) ?_ ?_; (focus (refine hs1 _ ?_; first | assumption | omega | (simp [go_sem]; done) | (simp [go_sem]; omega))); intro hl1a)); (try (refine cut_ (p := w.heap.size + 1 < w1.heap.size) ?_ ?_; (focus (refine hs1 _ ?_; first | assumption | omega | (simp [go_sem]; done) | (simp [go_sem]; omega))); intro hl1b)); (try (refine cut_ (p := w.heap.size + 1 + 1 < w1.heap.size) ?_ ?_; (focus (refine hs1 _ ?_; first | assumption | omega | (simp [go_sem]; done) | (simp [go_sem]; omega))); intro hl1c)))
    refine bodyPost_ret (v := .tuple #[.agg #[.int .i64 0, .int .i64 0], .int .i64 2]) (by simp [results, Try.results72, go_sem, hc1, hf1, hs1]) rfl ⟨rfl, ?_⟩
    (repeat (first | with_reducible exact Below.refl _ _ | with_reducible refine below_alloc ?_ _ | with_reducible refine below_drewN ?_ _ | with_reducible refine Below.drew ?_ | ((with_reducible refine below_set ?_ ?_ _); rotate_left; (focus (first | (simp; done) | (simp; omega) | omega))) | with_reducible refine below_call ?_ (by assumption)))
  · rw [show Value.tuple #[.agg #[.int .i64 (rN n d), .int .i64 (rD n d)], .int .i64 (rC n d)] = _ from ratT_yes hb]
    go_enter Try.func72, Try.ntmps72
    go_wp2_with (go_at_call 82; refine (reduced_any _ _ _ (by omega) (by omega) (by omega) (by omega) (by omega)).mono ?_; rintro e w1 ⟨rfl, hb1⟩; obtain ⟨hc1, hf1, hs1⟩ := bcell hb1; have hz1 := hb1.size; (try simp at hz1); (try (refine cut_ (p := w.heap.size < w1.heap.size) ?_ ?_; (focus (refine hs1 _ ?_; first | assumption | omega | (simp [go_sem]; done) | (simp [go_sem]; omega))); intro hl1a)); (try (refine cut_ (p := w.heap.size + 1 < w1.heap.size) ?_ ?_; (focus (refine hs1 _ ?_; first | assumption | omega | (simp [go_sem]; done) | (simp [go_sem]; omega))); intro hl1b)); (try (refine cut_ (p := w.heap.size + 1 + 1 < w1.heap.size) ?_ ?_; (focus (refine hs1 _ ?_; first | assumption | omega | (simp [go_sem]; done) | (simp [go_sem]; omega))); intro hl1c)))
    refine bodyPost_ret (v := .tuple #[.agg #[.int .i64 (rN n d), .int .i64 (rD n d)], .int .i64 0]) (by simp [results, Try.results72, go_sem, hc1, hf1, hs1]) rfl ⟨rfl, ?_⟩
    (repeat (first | with_reducible exact Below.refl _ _ | with_reducible refine below_alloc ?_ _ | with_reducible refine below_drewN ?_ _ | with_reducible refine Below.drew ?_ | ((with_reducible refine below_set ?_ ?_ _); rotate_left; (focus (first | (simp; done) | (simp; omega) | omega))) | with_reducible refine below_call ?_ (by assumption)))
set_option maxHeartbeats 800000 in
theorem l02Code_any (n d : Int) (w : World) :
    Calls Try.prog 70 #[.agg #[.int .i64 (rN n d), .int .i64 (rD n d)], .bool (redB n d)] w fun e w' => e = .returned (.tuple #[.agg #[.int .i64 (rN n d), .int .i64 (rD n d)], .int .i64 (rC n d)]) ∧ Below w.heap.size w w' := by
  cases hb : redB n d
  · rw [show Value.tuple #[.agg #[.int .i64 (rN n d), .int .i64 (rD n d)], .int .i64 (rC n d)] = _ from ratT_no hb]
    go_enter Try.func70, Try.ntmps70
    go_wp2
    refine bodyPost_ret (v := .tuple #[.agg #[.int .i64 0, .int .i64 0], .int .i64 2]) (by simp [results, Try.results70, go_sem]) rfl ⟨rfl, ?_⟩
    (repeat (first | with_reducible exact Below.refl _ _ | with_reducible refine below_alloc ?_ _ | with_reducible refine below_drewN ?_ _ | with_reducible refine Below.drew ?_ | ((with_reducible refine below_set ?_ ?_ _); rotate_left; (focus (first | (simp; done) | (simp; omega) | omega))) | with_reducible refine below_call ?_ (by assumption)))
  · rw [show Value.tuple #[.agg #[.int .i64 (rN n d), .int .i64 (rD n d)], .int .i64 (rC n d)] = _ from ratT_yes hb]
    go_enter Try.func70, Try.ntmps70
    go_wp2
    refine bodyPost_ret (v := .tuple #[.agg #[.int .i64 (rN n d), .int .i64 (rD n d)], .int .i64 0]) (by simp [results, Try.results70, go_sem]) rfl ⟨rfl, ?_⟩
    (repeat (first | with_reducible exact Below.refl _ _ | with_reducible refine below_alloc ?_ _ | with_reducible refine below_drewN ?_ _ | with_reducible refine Below.drew ?_ | ((with_reducible refine below_set ?_ ?_ _); rotate_left; (focus (first | (simp; done) | (simp; omega) | omega))) | with_reducible refine below_call ?_ (by assumption)))
end Go.Proofs.Ytanfccdeacohfaa
