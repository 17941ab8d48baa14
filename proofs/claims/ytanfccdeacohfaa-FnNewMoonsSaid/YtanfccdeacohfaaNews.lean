/- Contracts of the two functions NewMoons. No conditions. -/
import Derived.Test.YtanfccdeacohfaaNextMoon
import Derived.Test.YtanfccdeacohfaaApp
namespace Go.Proofs.Ytanfccdeacohfaa
open Go.RowKit
set_option linter.unusedVariables false
set_option linter.unusedSimpArgs false
/-- the days with a new moon among the k from fr on -/
def newsK (n d z fr : Int) : Nat → List Int
  | 0 => []
  | k + 1 => if ageI n d z (fr + (k : Int)) < d then newsK n d z fr k ++ [fr + (k : Int)] else newsK n d z fr k
theorem newsK_len (n d z fr : Int) : ∀ k, (newsK n d z fr k).length ≤ k
  | 0 => by simp [newsK]
  | k + 1 => by
    have := newsK_len n d z fr k
    simp only [newsK]
    split
    · simp; omega
    · omega
def okD (a b : Int) : Bool := inB a (-10000000) 10000000 && (inB b (-10000000) 10000000 && inB (b - a) 0 1000)
theorem okD_no1 {a b : Int} (h : inB a (-10000000) 10000000 = false) : okD a b = false := by rw [okD, h]; rfl
theorem okD_no2 {a b : Int} (h : inB a (-10000000) 10000000 = true) (h' : inB b (-10000000) 10000000 = false) : okD a b = false := by rw [okD, h, h']; rfl
theorem okD_is {a b : Int} (h : inB a (-10000000) 10000000 = true) (h' : inB b (-10000000) 10000000 = true) : okD a b = inB (b - a) 0 1000 := by rw [okD, h, h']; rfl
def newL (n d z a b : Int) : List Int := if vMoon n d z then if okD a b then newsK n d z a (b - a).toNat else [] else []
def newC (n d z a b : Int) : Int := if vMoon n d z then if okD a b then 0 else 2 else 1
theorem newL_len (n d z a b : Int) : (newL n d z a b).length ≤ 1048576 := by
  unfold newL
  split
  · split
    · rename_i h
      simp only [okD, Bool.and_eq_true] at h
      have h1 := inB_yes h.2.2
      have := newsK_len n d z a (b - a).toNat
      omega
    · simp
  · simp
theorem new_bad {n d z a b : Int} (h : vMoon n d z = false) : newL n d z a b = [] ∧ newC n d z a b = 1 := by simp [newL, newC, h]
theorem new_far {n d z a b : Int} (h : vMoon n d z = true) (h' : okD a b = false) : newL n d z a b = [] ∧ newC n d z a b = 2 := by simp [newL, newC, h, h']
theorem new_ok {n d z a : Int} {m : Nat} (h : vMoon n d z = true) (h' : okD a (a + m) = true) : newL n d z a (a + m) = newsK n d z a m ∧ newC n d z a (a + m) = 0 := by
  simp only [newL, newC, h, h']
  exact ⟨by simp; congr; omega, rfl⟩
set_option maxHeartbeats 4000000 in
theorem NewMoons_any (n d z a b : Int) (w : World) :
    Calls Try.prog 27 #[.agg #[.int .i64 n, .int .i64 d, .int .i64 z], .int .i64 a, .int .i64 b] w (NewIntsCode w (newL n d z a b) (newC n d z a b)) := by
  by_cases h : vMoon n d z = true
  · have cV := fun w => ValidMoon_any n d z w
    rw [h] at cV
    have CV := Lib.hid cV
    clear cV
    cases ha : inB a (-10000000) 10000000
    · have hf := new_far (a := a) (b := b) h (okD_no1 ha)
      rw [hf.1, hf.2]
      clear hf
      go_enter Try.func27, Try.ntmps27
      go_wp2_with (first | (go_at_call 16; refine (CV.out _).mono ?_; rintro e w1 ⟨rfl, hb1⟩; obtain ⟨hc1, hf1, hs1⟩ := bcell hb1; have hz1 := hb1.size; (try simp at hz1); (try (refine cut_ (p := w.heap.size < w1.heap.size) ?_ ?_; (focus (refine hs1 _ ?_; first | assumption | omega | (simp [go_sem]; done) | (simp [go_sem]; omega))); intro hl1a)); (try (refine cut_ (p := w.heap.size + 1 < w1.heap.size) ?_ ?_; (focus (refine hs1 _ ?_; first | assumption | omega | (simp [go_sem]; done) | (simp [go_sem]; omega))); intro hl1b)); (try (refine cut_ (p := w.heap.size + 1 + 1 < w1.heap.size) ?_ ?_; (focus (refine hs1 _ ?_; first | assumption | omega | (simp [go_sem]; done) | (simp [go_sem]; omega))); intro hl1c))) | (go_at_call 48; refine (isMoonDay_any _ _).mono ?_; rintro e w' ⟨rfl, rfl⟩))
      go_ret2
      exact ⟨none, 0, 0, rfl, Own.nil_, by (repeat (first | with_reducible exact Below.refl _ _ | with_reducible refine below_alloc ?_ _ | with_reducible refine below_drewN ?_ _ | with_reducible refine Below.drew ?_ | ((with_reducible refine below_set ?_ ?_ _); rotate_left; (focus (first | (simp; done) | (simp; omega) | omega))) | with_reducible refine below_call ?_ (by assumption)))⟩
    · cases hb : inB b (-10000000) 10000000
      · have hf := new_far (a := a) (b := b) h (okD_no2 ha hb)
        rw [hf.1, hf.2]
        clear hf
        go_enter Try.func27, Try.ntmps27
        go_wp2_with (first | (go_at_call 16; refine (CV.out _).mono ?_; rintro e w1 ⟨rfl, hb1⟩; obtain ⟨hc1, hf1, hs1⟩ := bcell hb1; have hz1 := hb1.size; (try simp at hz1); (try (refine cut_ (p := w.heap.size < w1.heap.size) ?_ ?_; (focus (refine hs1 _ ?_; first | assumption | omega | (simp [go_sem]; done) | (simp [go_sem]; omega))); intro hl1a)); (try (refine cut_ (p := w.heap.size + 1 < w1.heap.size) ?_ ?_; (focus (refine hs1 _ ?_; first | assumption | omega | (simp [go_sem]; done) | (simp [go_sem]; omega))); intro hl1b)); (try (refine cut_ (p := w.heap.size + 1 + 1 < w1.heap.size) ?_ ?_; (focus (refine hs1 _ ?_; first | assumption | omega | (simp [go_sem]; done) | (simp [go_sem]; omega))); intro hl1c))) | (go_at_call 48; refine (isMoonDay_any _ _).mono ?_; rintro e w' ⟨rfl, rfl⟩))
        go_ret2
        exact ⟨none, 0, 0, rfl, Own.nil_, by (repeat (first | with_reducible exact Below.refl _ _ | with_reducible refine below_alloc ?_ _ | with_reducible refine below_drewN ?_ _ | with_reducible refine Below.drew ?_ | ((with_reducible refine below_set ?_ ?_ _); rotate_left; (focus (first | (simp; done) | (simp; omega) | omega))) | with_reducible refine below_call ?_ (by assumption)))⟩
      · have ba := inB_yes ha
        have bb := inB_yes hb
        cases hc : inB (b - a) 0 1000
        · have hf := new_far (a := a) (b := b) h ((okD_is ha hb).trans hc)
          rw [hf.1, hf.2]
          clear hf
          go_enter Try.func27, Try.ntmps27
          go_wp2_with (first | (go_at_call 16; refine (CV.out _).mono ?_; rintro e w1 ⟨rfl, hb1⟩; obtain ⟨hc1, hf1, hs1⟩ := bcell hb1; have hz1 := hb1.size; (try simp at hz1); (try (refine cut_ (p := w.heap.size < w1.heap.size) ?_ ?_; (focus (refine hs1 _ ?_; first | assumption | omega | (simp [go_sem]; done) | (simp [go_sem]; omega))); intro hl1a)); (try (refine cut_ (p := w.heap.size + 1 < w1.heap.size) ?_ ?_; (focus (refine hs1 _ ?_; first | assumption | omega | (simp [go_sem]; done) | (simp [go_sem]; omega))); intro hl1b)); (try (refine cut_ (p := w.heap.size + 1 + 1 < w1.heap.size) ?_ ?_; (focus (refine hs1 _ ?_; first | assumption | omega | (simp [go_sem]; done) | (simp [go_sem]; omega))); intro hl1c))) | (go_at_call 48; refine (isMoonDay_any _ _).mono ?_; rintro e w' ⟨rfl, rfl⟩) | (go_at_call 51; refine (within_any _ _ _ _).mono ?_; rintro e w' ⟨rfl, rfl⟩))
          go_ret2
          exact ⟨none, 0, 0, rfl, Own.nil_, by (repeat (first | with_reducible exact Below.refl _ _ | with_reducible refine below_alloc ?_ _ | with_reducible refine below_drewN ?_ _ | with_reducible refine Below.drew ?_ | ((with_reducible refine below_set ?_ ?_ _); rotate_left; (focus (first | (simp; done) | (simp; omega) | omega))) | with_reducible refine below_call ?_ (by assumption)))⟩
        · have bc := inB_yes hc
          obtain ⟨m, hm⟩ := Int.eq_ofNat_of_zero_le bc.1
          obtain rfl : b = a + m := by omega
          have hf := new_ok (a := a) (m := m) h ((okD_is ha hb).trans hc)
          rw [hf.1, hf.2]
          clear hf hm
          go_enter Try.func27, Try.ntmps27
          go_wp2_with fail
          go_at_call 16
          refine (CV.out _).mono ?_
          rintro e w1 ⟨rfl, hb1⟩
          obtain ⟨hc1, hf1, hs1⟩ := bcell hb1
          (try (refine cut_ (p := w.heap.size < w1.heap.size) ?_ ?_; (focus (refine hs1 _ ?_; first | assumption | omega | (simp [go_sem]; done) | (simp [go_sem]; omega))); intro hl1a))
          (try (refine cut_ (p := w.heap.size + 1 < w1.heap.size) ?_ ?_; (focus (refine hs1 _ ?_; first | assumption | omega | (simp [go_sem]; done) | (simp [go_sem]; omega))); intro hl1b))
          (try (refine cut_ (p := w.heap.size + 1 + 1 < w1.heap.size) ?_ ?_; (focus (refine hs1 _ ?_; first | assumption | omega | (simp [go_sem]; done) | (simp [go_sem]; omega))); intro hl1c))
          have l0 : w1.cell? ⟨w.heap.size, 0, none⟩ = some (.int .i64 n) := by simp [go_sem, hc1]
          have l1 : w1.cell? ⟨w.heap.size, 1, none⟩ = some (.int .i64 d) := by simp [go_sem, hc1]
          have l2 : w1.cell? ⟨w.heap.size, 2, none⟩ = some (.int .i64 z) := by simp [go_sem, hc1]
          have B1 : Below w.heap.size w w1 := by (repeat (first | with_reducible exact Below.refl _ _ | with_reducible refine below_alloc ?_ _ | with_reducible refine below_drewN ?_ _ | with_reducible refine Below.drew ?_ | ((with_reducible refine below_set ?_ ?_ _); rotate_left; (focus (first | (simp; done) | (simp; omega) | omega))) | with_reducible refine below_call ?_ (by assumption)))
          have z1 : w.heap.size < w1.heap.size := by omega
          clear hc1 hf1 hs1 hb1
          go_wp2_with (first | (go_at_call 48; refine (isMoonDay_any _ _).mono ?_; rintro e w' ⟨rfl, rfl⟩) | (go_at_call 51; refine (within_any _ _ _ _).mono ?_; rintro e w' ⟨rfl, rfl⟩))
          go_loopw [8, 9] (fun l t wr => ∃ (k c' n' : Nat) (L : Option Addr), t = .int .i64 (a + (k : Int)) ∧ k ≤ m ∧ l = .slice L n' c' ∧ n' ≤ k ∧ Hid (Own wr w1.heap.size L n' c' (newsK n d z a k)) ∧ Below w1.heap.size w1 wr) (fun _ t _ => (a + m - intOf t).toNat)
          case atStart => exact ⟨0, 0, 0, _, by simp, Nat.zero_le _, rfl, Nat.le_refl _, Lib.hid Own.nil_, Below.refl _ _⟩
          case round =>
            obtain ⟨k, c', n', L, rfl, hk, rfl, hn2, ho, hB⟩ := hrel
            have p0 := (hB.cell (p := ⟨w.heap.size, 0, none⟩) (by simp; omega)).trans l0
            have p1 := (hB.cell (p := ⟨w.heap.size, 1, none⟩) (by simp; omega)).trans l1
            have p2 := (hB.cell (p := ⟨w.heap.size, 2, none⟩) (by simp; omega)).trans l2
            have hz : w1.heap.size ≤ wr.heap.size := hB.size
            have hz0 : w.heap.size < wr.heap.size := by omega
            have HB := Lib.hid hB
            have HB1 := Lib.hid B1
            clear hB B1 l0 l1 l2
            by_cases hlt : k < m
            · have hs : newsK n d z a (k + 1) = if ageI n d z (a + (k : Int)) < d then newsK n d z a k ++ [a + (k : Int)] else newsK n d z a k := rfl
              have cN := fun w => isNew_any n d z (a + (k : Int)) w h (by omega) (by omega)
              have s1 : a + (k : Int) + 1 = a + ((k + 1 : Nat) : Int) := by omega
              generalize ageI n d z (a + (k : Int)) = g at *
              by_cases hg : g < d
              · have HS := Lib.hid (hs.trans (if_pos hg))
                clear hs
                rw [decide_eq_true hg] at cN
                have CN := Lib.hid cN
                go_wp2_with (first | (go_at_call 55; refine (CN.out _).mono ?_; rintro e w2 ⟨rfl, b2⟩; have z2 : wr.heap.size ≤ w2.heap.size := b2.size) | (at_builtin; refine wpList_app rfl _ _ rfl _ w1.heap.size _ _ _ (newsK n d z a k) rfl ((Own.call ho.out b2).alloc _) _ rfl (a + (k : Int)) (by simp [go_sem]) (by omega) (by simp; omega) ?_; intro L2 c2 w3 ho3 hb3; have HO3 := Lib.hid ho3; clear ho3))
                go_roundw
                case rel => exact ⟨k + 1, c2, n' + 1, L2, by go_num, by omega, rfl, by omega, Lib.hid (by rw [HS.out]; exact HO3.out), ((HB.out.trans (b2.mono (by omega))).alloc (by omega) _).trans hb3⟩
                case measure => simp [intOf]; omega
              · have HS := Lib.hid (hs.trans (if_neg hg))
                clear hs
                rw [decide_eq_false hg] at cN
                have CN := Lib.hid cN
                go_wp2_with (go_at_call 55; refine (CN.out _).mono ?_; rintro e w2 ⟨rfl, b2⟩)
                go_roundw
                case rel => exact ⟨k + 1, c', n', L, by go_num, by omega, rfl, by omega, Lib.hid (by rw [HS.out]; exact Own.call ho.out b2), HB.out.trans (b2.mono (by omega))⟩
                case measure => simp [intOf]; omega
            · have HE := Lib.hid (show k = m by omega)
              go_wp2
              go_ret2
              refine ⟨L, n', c', rfl, ?_, HB1.out.trans (HB.out.mono (by omega))⟩
              have := ho.out.low (b0 := w.heap.size) (by omega)
              rw [HE.out] at this
              exact this
  · have h2 : vMoon n d z = false := by simpa using h
    have cV := fun w => ValidMoon_any n d z w
    rw [h2] at cV
    have CV := Lib.hid cV
    rw [(new_bad h2).1, (new_bad h2).2]
    clear cV h
    go_enter Try.func27, Try.ntmps27
    go_wp2_with fail
    go_at_call 16
    refine (CV.out _).mono ?_
    rintro e w1 ⟨rfl, hb1⟩
    obtain ⟨hc1, hf1, hs1⟩ := bcell hb1
    (try (refine cut_ (p := w.heap.size < w1.heap.size) ?_ ?_; (focus (refine hs1 _ ?_; first | assumption | omega | (simp [go_sem]; done) | (simp [go_sem]; omega))); intro hl1a))
    (try (refine cut_ (p := w.heap.size + 1 < w1.heap.size) ?_ ?_; (focus (refine hs1 _ ?_; first | assumption | omega | (simp [go_sem]; done) | (simp [go_sem]; omega))); intro hl1b))
    (try (refine cut_ (p := w.heap.size + 1 + 1 < w1.heap.size) ?_ ?_; (focus (refine hs1 _ ?_; first | assumption | omega | (simp [go_sem]; done) | (simp [go_sem]; omega))); intro hl1c))
    go_wp2
    go_ret2
    exact ⟨none, 0, 0, rfl, Own.nil_, by (repeat (first | with_reducible exact Below.refl _ _ | with_reducible refine below_alloc ?_ _ | with_reducible refine below_drewN ?_ _ | with_reducible refine Below.drew ?_ | ((with_reducible refine below_set ?_ ?_ _); rotate_left; (focus (first | (simp; done) | (simp; omega) | omega))) | with_reducible refine below_call ?_ (by assumption)))⟩
set_option maxHeartbeats 4000000 in
theorem specNewMoons_any (n d z a b : Int) (w : World) :
    Calls Try.prog 26 #[.agg #[.int .i64 n, .int .i64 d, .int .i64 z], .int .i64 a, .int .i64 b] w (NewIntsCode w (newL n d z a b) (newC n d z a b)) := by
  by_cases h : vMoon n d z = true
  · have cV := fun w => l19Ok_any n d z w
    rw [h] at cV
    have CV := Lib.hid cV
    clear cV
    cases ha : inB a (-10000000) 10000000
    · have hf := new_far (a := a) (b := b) h (okD_no1 ha)
      rw [hf.1, hf.2]
      clear hf
      go_enter Try.func26, Try.ntmps26
      go_wp2_with (first | (go_at_call 46; refine (CV.out _).mono ?_; rintro e w1 ⟨rfl, hb1⟩; obtain ⟨hc1, hf1, hs1⟩ := bcell hb1; have hz1 := hb1.size; (try simp at hz1); (try (refine cut_ (p := w.heap.size < w1.heap.size) ?_ ?_; (focus (refine hs1 _ ?_; first | assumption | omega | (simp [go_sem]; done) | (simp [go_sem]; omega))); intro hl1a)); (try (refine cut_ (p := w.heap.size + 1 < w1.heap.size) ?_ ?_; (focus (refine hs1 _ ?_; first | assumption | omega | (simp [go_sem]; done) | (simp [go_sem]; omega))); intro hl1b)); (try (refine cut_ (p := w.heap.size + 1 + 1 < w1.heap.size) ?_ ?_; (focus (refine hs1 _ ?_; first | assumption | omega | (simp [go_sem]; done) | (simp [go_sem]; omega))); intro hl1c))) | (go_at_call 53; refine (l19Day_any _ _).mono ?_; rintro e w' ⟨rfl, rfl⟩))
      go_ret2
      exact ⟨none, 0, 0, rfl, Own.nil_, by (repeat (first | with_reducible exact Below.refl _ _ | with_reducible refine below_alloc ?_ _ | with_reducible refine below_drewN ?_ _ | with_reducible refine Below.drew ?_ | ((with_reducible refine below_set ?_ ?_ _); rotate_left; (focus (first | (simp; done) | (simp; omega) | omega))) | with_reducible refine below_call ?_ (by assumption)))⟩
    · cases hb : inB b (-10000000) 10000000
      · have hf := new_far (a := a) (b := b) h (okD_no2 ha hb)
        rw [hf.1, hf.2]
        clear hf
        go_enter Try.func26, Try.ntmps26
        go_wp2_with (first | (go_at_call 46; refine (CV.out _).mono ?_; rintro e w1 ⟨rfl, hb1⟩; obtain ⟨hc1, hf1, hs1⟩ := bcell hb1; have hz1 := hb1.size; (try simp at hz1); (try (refine cut_ (p := w.heap.size < w1.heap.size) ?_ ?_; (focus (refine hs1 _ ?_; first | assumption | omega | (simp [go_sem]; done) | (simp [go_sem]; omega))); intro hl1a)); (try (refine cut_ (p := w.heap.size + 1 < w1.heap.size) ?_ ?_; (focus (refine hs1 _ ?_; first | assumption | omega | (simp [go_sem]; done) | (simp [go_sem]; omega))); intro hl1b)); (try (refine cut_ (p := w.heap.size + 1 + 1 < w1.heap.size) ?_ ?_; (focus (refine hs1 _ ?_; first | assumption | omega | (simp [go_sem]; done) | (simp [go_sem]; omega))); intro hl1c))) | (go_at_call 53; refine (l19Day_any _ _).mono ?_; rintro e w' ⟨rfl, rfl⟩))
        go_ret2
        exact ⟨none, 0, 0, rfl, Own.nil_, by (repeat (first | with_reducible exact Below.refl _ _ | with_reducible refine below_alloc ?_ _ | with_reducible refine below_drewN ?_ _ | with_reducible refine Below.drew ?_ | ((with_reducible refine below_set ?_ ?_ _); rotate_left; (focus (first | (simp; done) | (simp; omega) | omega))) | with_reducible refine below_call ?_ (by assumption)))⟩
      · have ba := inB_yes ha
        have bb := inB_yes hb
        cases hc : inB (b - a) 0 1000
        · have hf := new_far (a := a) (b := b) h ((okD_is ha hb).trans hc)
          rw [hf.1, hf.2]
          clear hf
          go_enter Try.func26, Try.ntmps26
          go_wp2_with (first | (go_at_call 46; refine (CV.out _).mono ?_; rintro e w1 ⟨rfl, hb1⟩; obtain ⟨hc1, hf1, hs1⟩ := bcell hb1; have hz1 := hb1.size; (try simp at hz1); (try (refine cut_ (p := w.heap.size < w1.heap.size) ?_ ?_; (focus (refine hs1 _ ?_; first | assumption | omega | (simp [go_sem]; done) | (simp [go_sem]; omega))); intro hl1a)); (try (refine cut_ (p := w.heap.size + 1 < w1.heap.size) ?_ ?_; (focus (refine hs1 _ ?_; first | assumption | omega | (simp [go_sem]; done) | (simp [go_sem]; omega))); intro hl1b)); (try (refine cut_ (p := w.heap.size + 1 + 1 < w1.heap.size) ?_ ?_; (focus (refine hs1 _ ?_; first | assumption | omega | (simp [go_sem]; done) | (simp [go_sem]; omega))); intro hl1c))) | (go_at_call 53; refine (l19Day_any _ _).mono ?_; rintro e w' ⟨rfl, rfl⟩) | (go_at_call 49; refine (l00In_any _ _ _ _).mono ?_; rintro e w' ⟨rfl, rfl⟩))
          go_ret2
          exact ⟨none, 0, 0, rfl, Own.nil_, by (repeat (first | with_reducible exact Below.refl _ _ | with_reducible refine below_alloc ?_ _ | with_reducible refine below_drewN ?_ _ | with_reducible refine Below.drew ?_ | ((with_reducible refine below_set ?_ ?_ _); rotate_left; (focus (first | (simp; done) | (simp; omega) | omega))) | with_reducible refine below_call ?_ (by assumption)))⟩
        · have bc := inB_yes hc
          obtain ⟨m, hm⟩ := Int.eq_ofNat_of_zero_le bc.1
          obtain rfl : b = a + m := by omega
          have hf := new_ok (a := a) (m := m) h ((okD_is ha hb).trans hc)
          rw [hf.1, hf.2]
          clear hf hm
          go_enter Try.func26, Try.ntmps26
          go_wp2_with fail
          go_at_call 46
          refine (CV.out _).mono ?_
          rintro e w1 ⟨rfl, hb1⟩
          obtain ⟨hc1, hf1, hs1⟩ := bcell hb1
          (try (refine cut_ (p := w.heap.size < w1.heap.size) ?_ ?_; (focus (refine hs1 _ ?_; first | assumption | omega | (simp [go_sem]; done) | (simp [go_sem]; omega))); intro hl1a))
          (try (refine cut_ (p := w.heap.size + 1 < w1.heap.size) ?_ ?_; (focus (refine hs1 _ ?_; first | assumption | omega | (simp [go_sem]; done) | (simp [go_sem]; omega))); intro hl1b))
          (try (refine cut_ (p := w.heap.size + 1 + 1 < w1.heap.size) ?_ ?_; (focus (refine hs1 _ ?_; first | assumption | omega | (simp [go_sem]; done) | (simp [go_sem]; omega))); intro hl1c))
          have l0 : w1.cell? ⟨w.heap.size, 0, none⟩ = some (.int .i64 n) := by simp [go_sem, hc1]
          have l1 : w1.cell? ⟨w.heap.size, 1, none⟩ = some (.int .i64 d) := by simp [go_sem, hc1]
          have l2 : w1.cell? ⟨w.heap.size, 2, none⟩ = some (.int .i64 z) := by simp [go_sem, hc1]
          have B1 : Below w.heap.size w w1 := by (repeat (first | with_reducible exact Below.refl _ _ | with_reducible refine below_alloc ?_ _ | with_reducible refine below_drewN ?_ _ | with_reducible refine Below.drew ?_ | ((with_reducible refine below_set ?_ ?_ _); rotate_left; (focus (first | (simp; done) | (simp; omega) | omega))) | with_reducible refine below_call ?_ (by assumption)))
          have z1 : w.heap.size < w1.heap.size := by omega
          clear hc1 hf1 hs1 hb1
          go_wp2_with (first | (go_at_call 53; refine (l19Day_any _ _).mono ?_; rintro e w' ⟨rfl, rfl⟩) | (go_at_call 49; refine (l00In_any _ _ _ _).mono ?_; rintro e w' ⟨rfl, rfl⟩))
          go_loopw [8, 9] (fun l t wr => ∃ (k c' n' : Nat) (L : Option Addr), t = .int .i64 (a + (k : Int)) ∧ k ≤ m ∧ l = .slice L n' c' ∧ n' ≤ k ∧ Hid (Own wr w1.heap.size L n' c' (newsK n d z a k)) ∧ Below w1.heap.size w1 wr) (fun _ t _ => (a + m - intOf t).toNat)
          case atStart => exact ⟨0, 0, 0, _, by simp, Nat.zero_le _, rfl, Nat.le_refl _, Lib.hid (own_empty rfl (Nat.le_refl _)), (Below.refl _ _).alloc (Nat.le_refl _) _⟩
          case round =>
            obtain ⟨k, c', n', L, rfl, hk, rfl, hn2, ho, hB⟩ := hrel
            have p0 := (hB.cell (p := ⟨w.heap.size, 0, none⟩) (by simp; omega)).trans l0
            have p1 := (hB.cell (p := ⟨w.heap.size, 1, none⟩) (by simp; omega)).trans l1
            have p2 := (hB.cell (p := ⟨w.heap.size, 2, none⟩) (by simp; omega)).trans l2
            have hz : w1.heap.size ≤ wr.heap.size := hB.size
            have hz0 : w.heap.size < wr.heap.size := by omega
            have HB := Lib.hid hB
            have HB1 := Lib.hid B1
            clear hB B1 l0 l1 l2
            by_cases hlt : k < m
            · have hs : newsK n d z a (k + 1) = if ageI n d z (a + (k : Int)) < d then newsK n d z a k ++ [a + (k : Int)] else newsK n d z a k := rfl
              have cN := fun w => l19Age_any n d z (a + (k : Int)) w h (by omega) (by omega)
              have s1 : a + (k : Int) + 1 = a + ((k + 1 : Nat) : Int) := by omega
              generalize ageI n d z (a + (k : Int)) = g at *
              by_cases hg : g < d
              · have HS := Lib.hid (hs.trans (if_pos hg))
                clear hs
                have CN := Lib.hid cN
                go_wp2
                have r1 := Below.refl wr.heap.size wr
                go_region_held3 (fun w' => w'.cell? ⟨w.heap.size, 0, none⟩ = some (.int .i64 n) ∧ w'.cell? ⟨w.heap.size, 1, none⟩ = some (.int .i64 d) ∧ w'.cell? ⟨w.heap.size, 2, none⟩ = some (.int .i64 z) ∧ w.heap.size < w'.heap.size ∧ Below wr.heap.size wr w') (first | ((try go_split_ands); (try dsimp only); refine ⟨?_, ?_, ?_, ?_, ?_⟩ <;> first | (exact cell_call (by assumption) (by assumption) (by assumption)) | (exact lt_call (by assumption) (by assumption)) | (exact below_call' (by assumption) (by assumption)) | (exact Below.drew (by assumption)) | (with_reducible assumption) | (simp; done) | (simp [*]; done) | ((repeat (first | with_reducible exact Below.refl _ _ | with_reducible refine below_alloc ?_ _ | with_reducible refine below_drewN ?_ _ | with_reducible refine Below.drew ?_ | ((with_reducible refine below_set ?_ ?_ _); rotate_left; (focus (first | (simp; done) | (simp; omega) | omega))) | with_reducible refine below_call ?_ (by assumption))); done) | omega)) ((go_at_call 54; refine (CN.out _).mono ?_; rintro e w2 ⟨rfl, hb2⟩))
                go_split_ands
                have b2 : Below wr.heap.size wr w2 := by assumption
                have z2 : wr.heap.size ≤ w2.heap.size := b2.size
                go_wp2_with (at_builtin; refine wpList_app rfl _ _ rfl _ w1.heap.size _ _ _ (newsK n d z a k) rfl ((Own.call ho.out b2).alloc _) _ rfl (a + (k : Int)) (by simp [go_sem]) (by omega) (by simp; omega) ?_; intro L2 c2 w3 ho3 hb3; have HO3 := Lib.hid ho3; clear ho3)
                go_roundw
                case rel => exact ⟨k + 1, c2, n' + 1, L2, by go_num, by omega, rfl, by omega, Lib.hid (by rw [HS.out]; exact HO3.out), ((HB.out.trans (b2.mono (by omega))).alloc (by omega) _).trans hb3⟩
                case measure => simp [intOf]; omega
              · have HS := Lib.hid (hs.trans (if_neg hg))
                clear hs
                have CN := Lib.hid cN
                go_wp2
                have r1 := Below.refl wr.heap.size wr
                go_region_held3 (fun w' => w'.cell? ⟨w.heap.size, 0, none⟩ = some (.int .i64 n) ∧ w'.cell? ⟨w.heap.size, 1, none⟩ = some (.int .i64 d) ∧ w'.cell? ⟨w.heap.size, 2, none⟩ = some (.int .i64 z) ∧ w.heap.size < w'.heap.size ∧ Below wr.heap.size wr w') (first | ((try go_split_ands); (try dsimp only); refine ⟨?_, ?_, ?_, ?_, ?_⟩ <;> first | (exact cell_call (by assumption) (by assumption) (by assumption)) | (exact lt_call (by assumption) (by assumption)) | (exact below_call' (by assumption) (by assumption)) | (exact Below.drew (by assumption)) | (with_reducible assumption) | (simp; done) | (simp [*]; done) | ((repeat (first | with_reducible exact Below.refl _ _ | with_reducible refine below_alloc ?_ _ | with_reducible refine below_drewN ?_ _ | with_reducible refine Below.drew ?_ | ((with_reducible refine below_set ?_ ?_ _); rotate_left; (focus (first | (simp; done) | (simp; omega) | omega))) | with_reducible refine below_call ?_ (by assumption))); done) | omega)) ((go_at_call 54; refine (CN.out _).mono ?_; rintro e w2 ⟨rfl, hb2⟩))
                go_split_ands
                have b2 : Below wr.heap.size wr w2 := by assumption
                have z2 : wr.heap.size ≤ w2.heap.size := b2.size
                go_wp2
                go_roundw
                case rel => exact ⟨k + 1, c', n', L, by go_num, by omega, rfl, by omega, Lib.hid (by rw [HS.out]; exact Own.call ho.out b2), HB.out.trans (b2.mono (by omega))⟩
                case measure => simp [intOf]; omega
            · have HE := Lib.hid (show k = m by omega)
              go_wp2
              go_ret2
              refine ⟨L, n', c', rfl, ?_, HB1.out.trans (HB.out.mono (by omega))⟩
              have := ho.out.low (b0 := w.heap.size) (by omega)
              rw [HE.out] at this
              exact this
  · have h2 : vMoon n d z = false := by simpa using h
    have cV := fun w => l19Ok_any n d z w
    rw [h2] at cV
    have CV := Lib.hid cV
    rw [(new_bad h2).1, (new_bad h2).2]
    clear cV h
    go_enter Try.func26, Try.ntmps26
    go_wp2_with fail
    go_at_call 46
    refine (CV.out _).mono ?_
    rintro e w1 ⟨rfl, hb1⟩
    obtain ⟨hc1, hf1, hs1⟩ := bcell hb1
    (try (refine cut_ (p := w.heap.size < w1.heap.size) ?_ ?_; (focus (refine hs1 _ ?_; first | assumption | omega | (simp [go_sem]; done) | (simp [go_sem]; omega))); intro hl1a))
    (try (refine cut_ (p := w.heap.size + 1 < w1.heap.size) ?_ ?_; (focus (refine hs1 _ ?_; first | assumption | omega | (simp [go_sem]; done) | (simp [go_sem]; omega))); intro hl1b))
    (try (refine cut_ (p := w.heap.size + 1 + 1 < w1.heap.size) ?_ ?_; (focus (refine hs1 _ ?_; first | assumption | omega | (simp [go_sem]; done) | (simp [go_sem]; omega))); intro hl1c))
    go_wp2
    go_ret2
    exact ⟨none, 0, 0, rfl, Own.nil_, by (repeat (first | with_reducible exact Below.refl _ _ | with_reducible refine below_alloc ?_ _ | with_reducible refine below_drewN ?_ _ | with_reducible refine Below.drew ?_ | ((with_reducible refine below_set ?_ ?_ _); rotate_left; (focus (first | (simp; done) | (simp; omega) | omega))) | with_reducible refine below_call ?_ (by assumption)))⟩
end Go.Proofs.Ytanfccdeacohfaa
