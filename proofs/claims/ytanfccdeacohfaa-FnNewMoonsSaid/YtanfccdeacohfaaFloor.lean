/- The floor of a ratio, and the words for the law on new moons. No conditions. -/
import Derived.Test.YtanfccdeacohfaaNewsPlain
import Derived.Test.YtanfccdeacohfaaSliceEq
namespace Go.Proofs.Ytanfccdeacohfaa
open Go.RowKit
set_option linter.unusedVariables false
set_option linter.unusedSimpArgs false
set_option maxHeartbeats 1000000 in
theorem FloorRatio_any (n d : Int) (w : World) (h : vRatio n d = true) (h1 : -4000000000000000000 ≤ n) (h2 : n ≤ 4000000000000000000) (hd : 0 < d) (h3 : d ≤ 4000000000000000000) :
    Calls Try.prog 42 #[.agg #[.int .i64 n, .int .i64 d]] w fun e w' => e = .returned (.int .i64 (n / d)) ∧ Below w.heap.size w w' := by
  have cV := fun w => ValidRatio_any n d w
  simp only [h] at cV
  have CV := Lib.hid cV
  have cF := fun w => floorDiv_any n d w hd h1 h2 h3
  generalize n / d = q at *
  have CF := Lib.hid cF
  clear cV cF h
  go_enter Try.func42, Try.ntmps42
  go_wp2_with fail
  go_at_call 47
  refine (CV.out _).mono ?_
  rintro e w1 ⟨rfl, hb1⟩
  obtain ⟨hc1, hf1, hs1⟩ := bcell hb1
  (try (refine cut_ (p := w.heap.size < w1.heap.size) ?_ ?_; (focus (refine hs1 _ ?_; first | assumption | omega | (simp [go_sem]; done) | (simp [go_sem]; omega))); intro hl1a))
  (try (refine cut_ (p := w.heap.size + 1 < w1.heap.size) ?_ ?_; (focus (refine hs1 _ ?_; first | assumption | omega | (simp [go_sem]; done) | (simp [go_sem]; omega))); intro hl1b))
  (try (refine cut_ (p := w.heap.size + 1 + 1 < w1.heap.size) ?_ ?_; (focus (refine hs1 _ ?_; first | assumption | omega | (simp [go_sem]; done) | (simp [go_sem]; omega))); intro hl1c))
  go_wp2_with (go_at_call 76; refine (CF.out _).mono ?_; rintro e w' ⟨rfl, rfl⟩)
  go_ret
  exact ⟨rfl, by (repeat (first | with_reducible exact Below.refl _ _ | with_reducible refine below_alloc ?_ _ | with_reducible refine below_drewN ?_ _ | with_reducible refine Below.drew ?_ | ((with_reducible refine below_set ?_ ?_ _); rotate_left; (focus (first | (simp; done) | (simp; omega) | omega))) | with_reducible refine below_call ?_ (by assumption)))⟩
theorem f6same_same {A A' : Option Addr} {n n' c c' B B' : Nat} {zs : List Int} (w : World) (h : Ints w B A n zs) (h' : Ints w B' A' n' zs) (hn : n ≤ 9223372036854775807) (hn' : n' ≤ 9223372036854775807) :
    Calls Try.prog 41 #[.slice A n c, .slice A' n' c'] w fun e w' => e = .returned (.bool true) ∧ ∃ m, w' = w.drewN m :=
  (f6same_any A A' n n' c c' B B' zs zs w h h' hn hn').mono fun e w' ⟨he, hb⟩ => ⟨by rw [he]; simp, hb⟩
theorem newsK_in (n d z a : Int) : ∀ (k : Nat) (x : Int), x ∈ newsK n d z a k → a ≤ x ∧ x < a + k
  | 0, x, h => by simp [newsK] at h
  | k + 1, x, h => by
    simp only [newsK] at h
    split at h
    · rw [List.mem_append] at h
      rcases h with h | h
      · have := newsK_in n d z a k x h; omega
      · simp at h; omega
    · have := newsK_in n d z a k x h; omega
end Go.Proofs.Ytanfccdeacohfaa
