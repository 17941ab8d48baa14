/- The two functions NightsUntil and the two functions ShowsDate. No conditions but that a cam has at most 2^20 levels. -/
import Derived.Test.YtcppmocninhdpaaRun
namespace Go.Proofs.Ytcppmocninhdpaa
open Go.RowKit
set_option linter.unusedVariables false
set_option linter.unusedSimpArgs false
/-- the first number from s on of which P holds, or s + f -/
def firstB (P : Nat → Bool) : Nat → Nat → Nat
  | 0, s => s
  | f + 1, s => if P s then s else firstB P f (s + 1)
theorem firstB_miss {P : Nat → Bool} (f s : Nat) (h : ∀ i, s ≤ i → i < s + f → P i = false) : firstB P f s = s + f := by
  induction f generalizing s with
  | zero => rfl
  | succ f ih =>
    rw [firstB, if_neg (by rw [h s (Nat.le_refl _) (by omega)]; decide), ih (s + 1) (fun i h1 h2 => h i (by omega) (by omega))]; omega
theorem firstB_hit {P : Nat → Bool} (f s j : Nat) (hs : s ≤ j) (hj : j < s + f) (h : ∀ i, s ≤ i → i < j → P i = false) (hP : P j = true) : firstB P f s = j := by
  induction f generalizing s with
  | zero => omega
  | succ f ih =>
    rw [firstB]
    by_cases e : s = j
    · subst e; rw [if_pos hP]
    · rw [if_neg (by rw [h s (Nat.le_refl _) (by omega)]; decide)]
      exact ih (s + 1) (by omega) (by omega) (fun i h1 h2 => h i (by omega) h2)
def untilP (zs : List Int) (n : Nat) (mo te we : Int) (s : Nat × Int × Int) (m d : Int) (j : Nat) : Bool := showB mo ((nightsS zs n te we j s).1 : Int) (nightsS zs n te we j s).2.1 m d
def firstT (r N : Nat) : Value := if r ≤ N then .tuple #[.int .i64 (r : Int), .int .i64 0] else .tuple #[.int .i64 0, .int .i64 3]
def untilT (zs : List Int) (n : Nat) (mo te ix da we wd m d : Int) : Value :=
  if vPerp zs n mo te ix da we wd then if inB m 1 mo && inB d 1 te then firstT (firstB (untilP zs n mo te we (ix.toNat, da, wd) m d) 200001 0) 200000 else .tuple #[.int .i64 0, .int .i64 2] else .tuple #[.int .i64 0, .int .i64 1]
theorem until_bad {zs : List Int} {n : Nat} {mo te ix da we wd m d : Int} (h : vPerp zs n mo te ix da we wd = false) : untilT zs n mo te ix da we wd m d = .tuple #[.int .i64 0, .int .i64 1] := by rw [untilT, h]; rfl
theorem until_far {zs : List Int} {n : Nat} {mo te ix da we wd m d : Int} (h : vPerp zs n mo te ix da we wd = true) (h2 : (inB m 1 mo && inB d 1 te) = false) : untilT zs n mo te ix da we wd m d = .tuple #[.int .i64 0, .int .i64 2] := by rw [untilT, h, h2]; rfl
theorem until_ok {zs : List Int} {n k : Nat} {mo te da we wd m d : Int} (h : vPerp zs n mo te (k : Int) da we wd = true) (h2 : (inB m 1 mo && inB d 1 te) = true) : untilT zs n mo te (k : Int) da we wd m d = firstT (firstB (untilP zs n mo te we (k, da, wd) m d) 200001 0) 200000 := by rw [untilT, h, h2]; rfl
theorem first_hit {P : Nat → Bool} {j : Nat} (hj : j < 200001) (h : ∀ i, i < j → P i = false) (hP : P j = true) : Value.tuple #[.int .i64 (j : Int), .int .i64 0] = firstT (firstB P 200001 0) 200000 := by
  rw [firstB_hit 200001 0 j (Nat.zero_le _) (by omega) (fun i _ h2 => h i h2) hP, firstT, if_pos (by omega)]
theorem first_miss {P : Nat → Bool} (h : ∀ i, i < 200001 → P i = false) : Value.tuple #[.int .i64 0, .int .i64 3] = firstT (firstB P 200001 0) 200000 := by
  rw [firstB_miss 200001 0 (fun i _ h2 => h i (by omega)), firstT, if_neg (by omega)]
theorem untilT_form (zs : List Int) (n : Nat) (mo te ix da we wd m d : Int) : ∃ a b : Int, untilT zs n mo te ix da we wd m d = .tuple #[.int .i64 a, .int .i64 b] := by
  unfold untilT firstT; split
  · split
    · split <;> exact ⟨_, _, rfl⟩
    · exact ⟨_, _, rfl⟩
  · exact ⟨_, _, rfl⟩
theorem ret_val {a b : Value} (h : a = b) : Ending.returned a = .returned b := by rw [h]
set_option maxHeartbeats 4000000 in
theorem NightsUntil_any (A : Option Addr) (n c B : Nat) (zs : List Int) (mo te ix da we wd : Int) (month day : Int) (w : World) (h : Ints w B A n zs) (hB : B ≤ w.heap.size) (hn : n ≤ 1048576) (hmo : mo ≤ 9223372036854775807) :
    Calls Try.prog 35 #[.agg #[.slice A n c, .int .i64 mo, .int .i64 te, .int .i64 ix, .int .i64 da, .int .i64 we, .int .i64 wd], .int .i64 month, .int .i64 day] w fun e w' => e = .returned (untilT zs n mo te ix da we wd month day) ∧ Below w.heap.size w w' := by
  have H := Lib.hid (h.more hB)
  clear h
  have cV := fun (W : World) (h : Ints W w.heap.size A n zs) (h2 : w.heap.size ≤ W.heap.size) => ValidPerpetual_any A n c w.heap.size zs mo te ix da we wd W h h2 hn
  cases hv : vPerp zs n mo te ix da we wd
  · simp only [hv] at cV
    rw [until_bad hv]
    have CV := Lib.hid cV
    clear cV hv
    go_enter Try.func35, Try.ntmps35
    go_wp2_with fail
    go_at_call 20
    refine (CV.out _ (by exact Ints.below (H.out) (by (repeat (first | with_reducible exact Below.refl _ _ | with_reducible refine below_alloc ?_ _ | with_reducible refine below_drewN ?_ _ | with_reducible refine Below.drew ?_ | ((with_reducible refine below_set ?_ ?_ _); rotate_left; (focus (first | (simp; done) | (simp; omega) | omega))) | with_reducible refine below_call ?_ (by assumption))))) (by exact Below.size (B := w.heap.size) (w := w) (by (repeat (first | with_reducible exact Below.refl _ _ | with_reducible refine below_alloc ?_ _ | with_reducible refine below_drewN ?_ _ | with_reducible refine Below.drew ?_ | ((with_reducible refine below_set ?_ ?_ _); rotate_left; (focus (first | (simp; done) | (simp; omega) | omega))) | with_reducible refine below_call ?_ (by assumption)))))).mono ?_
    rintro e w1 ⟨rfl, hb1⟩
    obtain ⟨hc1, hf1, hs1⟩ := bcell hb1
    (try (refine cut_ (p := w.heap.size < w1.heap.size) ?_ ?_; (focus (refine hs1 _ ?_; first | assumption | omega | (simp [go_sem]; done) | (simp [go_sem]; omega))); intro hl1a))
    (try (refine cut_ (p := w.heap.size + 1 < w1.heap.size) ?_ ?_; (focus (refine hs1 _ ?_; first | assumption | omega | (simp [go_sem]; done) | (simp [go_sem]; omega))); intro hl1b))
    (try (refine cut_ (p := w.heap.size + 1 + 1 < w1.heap.size) ?_ ?_; (focus (refine hs1 _ ?_; first | assumption | omega | (simp [go_sem]; done) | (simp [go_sem]; omega))); intro hl1c))
    go_wp2
    go_ret2
    exact ⟨rfl, by (repeat (first | with_reducible exact Below.refl _ _ | with_reducible refine below_alloc ?_ _ | with_reducible refine below_drewN ?_ _ | with_reducible refine Below.drew ?_ | ((with_reducible refine below_set ?_ ?_ _); rotate_left; (focus (first | (simp; done) | (simp; omega) | omega))) | with_reducible refine below_call ?_ (by assumption)))⟩
  · have hv' := hv
    simp only [hv] at cV
    have CV := Lib.hid cV
    cases i1 : inB month 1 mo
    · rw [until_far hv (by rw [i1]; rfl)]
      clear cV hv hv'
      go_enter Try.func35, Try.ntmps35
      go_wp2_with fail
      go_at_call 20
      refine (CV.out _ (by exact Ints.below (H.out) (by (repeat (first | with_reducible exact Below.refl _ _ | with_reducible refine below_alloc ?_ _ | with_reducible refine below_drewN ?_ _ | with_reducible refine Below.drew ?_ | ((with_reducible refine below_set ?_ ?_ _); rotate_left; (focus (first | (simp; done) | (simp; omega) | omega))) | with_reducible refine below_call ?_ (by assumption))))) (by exact Below.size (B := w.heap.size) (w := w) (by (repeat (first | with_reducible exact Below.refl _ _ | with_reducible refine below_alloc ?_ _ | with_reducible refine below_drewN ?_ _ | with_reducible refine Below.drew ?_ | ((with_reducible refine below_set ?_ ?_ _); rotate_left; (focus (first | (simp; done) | (simp; omega) | omega))) | with_reducible refine below_call ?_ (by assumption)))))).mono ?_
      rintro e w1 ⟨rfl, hb1⟩
      obtain ⟨hc1, hf1, hs1⟩ := bcell hb1
      (try (refine cut_ (p := w.heap.size < w1.heap.size) ?_ ?_; (focus (refine hs1 _ ?_; first | assumption | omega | (simp [go_sem]; done) | (simp [go_sem]; omega))); intro hl1a))
      (try (refine cut_ (p := w.heap.size + 1 < w1.heap.size) ?_ ?_; (focus (refine hs1 _ ?_; first | assumption | omega | (simp [go_sem]; done) | (simp [go_sem]; omega))); intro hl1b))
      (try (refine cut_ (p := w.heap.size + 1 + 1 < w1.heap.size) ?_ ?_; (focus (refine hs1 _ ?_; first | assumption | omega | (simp [go_sem]; done) | (simp [go_sem]; omega))); intro hl1c))
      go_wp2_with (go_at_call 52; refine (within_any _ _ _ _).mono ?_; rintro e w' ⟨rfl, rfl⟩)
      go_ret2
      exact ⟨rfl, by (repeat (first | with_reducible exact Below.refl _ _ | with_reducible refine below_alloc ?_ _ | with_reducible refine below_drewN ?_ _ | with_reducible refine Below.drew ?_ | ((with_reducible refine below_set ?_ ?_ _); rotate_left; (focus (first | (simp; done) | (simp; omega) | omega))) | with_reducible refine below_call ?_ (by assumption)))⟩
    cases i2 : inB day 1 te
    · rw [until_far hv (by rw [i1, i2]; rfl)]
      clear cV hv hv'
      go_enter Try.func35, Try.ntmps35
      go_wp2_with fail
      go_at_call 20
      refine (CV.out _ (by exact Ints.below (H.out) (by (repeat (first | with_reducible exact Below.refl _ _ | with_reducible refine below_alloc ?_ _ | with_reducible refine below_drewN ?_ _ | with_reducible refine Below.drew ?_ | ((with_reducible refine below_set ?_ ?_ _); rotate_left; (focus (first | (simp; done) | (simp; omega) | omega))) | with_reducible refine below_call ?_ (by assumption))))) (by exact Below.size (B := w.heap.size) (w := w) (by (repeat (first | with_reducible exact Below.refl _ _ | with_reducible refine below_alloc ?_ _ | with_reducible refine below_drewN ?_ _ | with_reducible refine Below.drew ?_ | ((with_reducible refine below_set ?_ ?_ _); rotate_left; (focus (first | (simp; done) | (simp; omega) | omega))) | with_reducible refine below_call ?_ (by assumption)))))).mono ?_
      rintro e w1 ⟨rfl, hb1⟩
      obtain ⟨hc1, hf1, hs1⟩ := bcell hb1
      (try (refine cut_ (p := w.heap.size < w1.heap.size) ?_ ?_; (focus (refine hs1 _ ?_; first | assumption | omega | (simp [go_sem]; done) | (simp [go_sem]; omega))); intro hl1a))
      (try (refine cut_ (p := w.heap.size + 1 < w1.heap.size) ?_ ?_; (focus (refine hs1 _ ?_; first | assumption | omega | (simp [go_sem]; done) | (simp [go_sem]; omega))); intro hl1b))
      (try (refine cut_ (p := w.heap.size + 1 + 1 < w1.heap.size) ?_ ?_; (focus (refine hs1 _ ?_; first | assumption | omega | (simp [go_sem]; done) | (simp [go_sem]; omega))); intro hl1c))
      go_wp2_with (go_at_call 52; refine (within_any _ _ _ _).mono ?_; rintro e w' ⟨rfl, rfl⟩)
      go_ret2
      exact ⟨rfl, by (repeat (first | with_reducible exact Below.refl _ _ | with_reducible refine below_alloc ?_ _ | with_reducible refine below_drewN ?_ _ | with_reducible refine Below.drew ?_ | ((with_reducible refine below_set ?_ ?_ _); rotate_left; (focus (first | (simp; done) | (simp; omega) | omega))) | with_reducible refine below_call ?_ (by assumption)))⟩
    obtain ⟨_, v1, v2, hte, hix, hda, hwe, hwd1, hwd2⟩ := vPerp_yes hv
    obtain ⟨k, rfl⟩ := Int.eq_ofNat_of_zero_le hix.1
    rw [until_ok hv' (by rw [i1, i2]; rfl)]
    have hk : k < n := by omega
    have HG0 : Hid (goodS n te we (k, da, wd)) := Lib.hid ⟨hk, hda.1, hda.2, hwd1, hwd2⟩
    have HN := Lib.hid (fun (W : World) (k : Nat) (da wd : Int) (h : Ints W w.heap.size A n zs) (hW : Work W w.heap.size (.slice A n c) mo te (k : Int) da we wd) (hs : goodS n te we (k, da, wd)) => midnight_any A n c w.heap.size w.heap.size k zs mo te da we wd W h (by have := hW.lt; omega) hW hs hn hte.1 hte.2 hwe.1 hwe.2)
    clear cV hv hv'
    go_enter Try.func35, Try.ntmps35
    go_wp2_with fail
    go_at_call 20
    refine (CV.out _ (by exact Ints.below (H.out) (by (repeat (first | with_reducible exact Below.refl _ _ | with_reducible refine below_alloc ?_ _ | with_reducible refine below_drewN ?_ _ | with_reducible refine Below.drew ?_ | ((with_reducible refine below_set ?_ ?_ _); rotate_left; (focus (first | (simp; done) | (simp; omega) | omega))) | with_reducible refine below_call ?_ (by assumption))))) (by exact Below.size (B := w.heap.size) (w := w) (by (repeat (first | with_reducible exact Below.refl _ _ | with_reducible refine below_alloc ?_ _ | with_reducible refine below_drewN ?_ _ | with_reducible refine Below.drew ?_ | ((with_reducible refine below_set ?_ ?_ _); rotate_left; (focus (first | (simp; done) | (simp; omega) | omega))) | with_reducible refine below_call ?_ (by assumption)))))).mono ?_
    rintro e w2 ⟨rfl, hb1⟩
    have B2 : Below w.heap.size w w2 := by (repeat (first | with_reducible exact Below.refl _ _ | with_reducible refine below_alloc ?_ _ | with_reducible refine below_drewN ?_ _ | with_reducible refine Below.drew ?_ | ((with_reducible refine below_set ?_ ?_ _); rotate_left; (focus (first | (simp; done) | (simp; omega) | omega))) | with_reducible refine below_call ?_ (by assumption)))
    have W0 := (work_new w 27 (.slice A n c) mo te (k : Int) da we wd).call hb1
    have zl := W0.lt
    obtain ⟨p0, p1, p2, p3, p4, p5, p6, pf⟩ := W0
    have Q7 := Lib.hid pf
    clear hb1
    go_wp2_with (go_at_call 52; refine (within_any _ _ _ _).mono ?_; rintro e w' ⟨rfl, rfl⟩)
    clear i1 i2
    go_loopw [8] (fun t wr => ∃ (j : Nat) (K : Nat) (D V : Int), t = .int .i64 (j : Int) ∧ j ≤ 200001 ∧ (K, D, V) = nightsS zs n te we j (k, da, wd) ∧ Hid (∀ i, i < j → untilP zs n mo te we (k, da, wd) month day i = false) ∧ Hid (Work wr w.heap.size (.slice A n c) mo te (K : Int) D we V) ∧ w2.grownBy wr (some w.heap.size)) (fun t _ => 200001 - (intOf t).toNat)
    case atStart => exact ⟨0, k, da, wd, rfl, Nat.zero_le _, rfl, Lib.hid (fun i hi => absurd hi (by omega)), Lib.hid ⟨by simp [go_sem, *], by simp [go_sem, *], by simp [go_sem, *], by simp [go_sem, *], by simp [go_sem, *], by simp [go_sem, *], by simp [go_sem, *], fun o => by simp [go_sem, Q7.out o]⟩, by (repeat (first | with_reducible exact World.grownBy.refl _ _ | with_reducible refine only_alloc ?_ _ | with_reducible refine only_drewN ?_ _ | with_reducible refine only_drew ?_ | ((with_reducible refine only_setCell ?_ ?_ _); rotate_left; (focus (first | exact .inl rfl | (left; simp; done) | (right; simp; done) | (right; simp; omega)))) | with_reducible refine World.grownBy.trans ?_ (by assumption) | with_reducible refine only_below ?_ (by assumption)))⟩
    case round =>
      obtain ⟨j, K, D, V, rfl, hj, hS, HP, hW, hg⟩ := hrel
      have hgood : goodS n te we (K, D, V) := by rw [hS]; exact good_nights HG0.out j
      have HS := Lib.hid hS
      have hPj : untilP zs n mo te we (k, da, wd) month day j = showB mo (K : Int) D month day := by unfold untilP; rw [← hS]
      have hK1 : (K : Int) ≤ 1048576 := by have := hgood.1; simp only at this; omega
      have z3 := hg.size
      have B3 : Below w.heap.size w wr := below_only B2 hg B2.size (Nat.le_refl _)
      clear hS
      by_cases hlt : j < 200001
      · have hm : (j : Int) ≤ 200000 := by omega
        obtain ⟨b, hb⟩ : ∃ b, showB mo (K : Int) D month day = b := ⟨_, rfl⟩
        have cW := fun (W : World) => shows_any (.slice A n c) K mo te D we V month day W (by omega) hmo hK1
        simp only [hb] at cW
        have CW := Lib.hid cW
        have HPj := Lib.hid (hPj.trans hb)
        clear cW hb hPj
        obtain ⟨q0, q1, q2, q3, q4, q5, q6, qf⟩ := hW.out
        go_wp2_with fail
        go_at_call 54
        refine (CW.out _).mono ?_
        rintro e w3 ⟨rfl, hb3⟩
        have HW3 := Lib.hid (hW.out.call hb3)
        have HI3 := Lib.hid (Ints.below H.out (B3.trans (hb3.mono B3.size)))
        have hg3 := only_below hg hb3
        have B4 : Below w.heap.size w w3 := B3.trans (hb3.mono B3.size)
        clear q0 q1 q2 q3 q4 q5 q6 qf
        cases b
        · go_wp2_with fail
          go_at_call 65
          refine (HN.out _ K D V HI3.out HW3.out hgood).mono ?_
          rintro e w4 ⟨rfl, hW4, hg4⟩
          have H4 := Lib.hid hW4
          have hg5 := hg3.trans hg4
          clear hW4 hg4 hg hg3
          go_wp2
          go_roundw
          case rel =>
            refine ⟨j + 1, _, _, _, by go_num, by omega, ?_, Lib.hid (fun i hi => ?_), H4, hg5⟩
            · show _ = nightS zs n te we (nightsS zs n te we j (k, da, wd))
              rw [← HS.out]
            · by_cases e : i = j
              · rw [e]; exact HPj.out
              · exact HP.out i (by omega)
          case measure => simp [intOf]; omega
        · go_wp2
          go_ret2
          exact ⟨ret_val (first_hit hlt HP.out HPj.out), B4⟩
      · have hm : ¬ (j : Int) ≤ 200000 := by omega
        have hj2 : j = 200001 := by omega
        have HP2 : Hid (∀ i, i < 200001 → untilP zs n mo te we (k, da, wd) month day i = false) := Lib.hid (by rw [← hj2]; exact HP.out)
        clear hj2 HP hPj
        go_wp2
        go_ret2
        exact ⟨ret_val (first_miss HP2.out), B3⟩
set_option maxHeartbeats 4000000 in
theorem specNightsUntil_any (A : Option Addr) (n c B : Nat) (zs : List Int) (mo te ix da we wd : Int) (month day : Int) (w : World) (h : Ints w B A n zs) (hB : B ≤ w.heap.size) (hn : n ≤ 1048576) (hmo : mo ≤ 9223372036854775807) :
    Calls Try.prog 34 #[.agg #[.slice A n c, .int .i64 mo, .int .i64 te, .int .i64 ix, .int .i64 da, .int .i64 we, .int .i64 wd], .int .i64 month, .int .i64 day] w fun e w' => e = .returned (untilT zs n mo te ix da we wd month day) ∧ Below w.heap.size w w' := by
  have H := Lib.hid (h.more hB)
  clear h
  have cV := fun (W : World) (h : Ints W w.heap.size A n zs) (h2 : w.heap.size ≤ W.heap.size) => l18Ok_any A n c w.heap.size w.heap.size zs mo te ix da we wd W h h2 hn
  cases hv : vPerp zs n mo te ix da we wd
  · simp only [hv] at cV
    rw [until_bad hv]
    have CV := Lib.hid cV
    clear cV hv
    go_enter Try.func34, Try.ntmps34
    go_wp2_with fail
    go_at_call 49
    refine (CV.out _ (H.out.alloc (Nat.le_refl _) _) (by simp) (by simp [go_sem]) (by simp [go_sem]) (by simp [go_sem]) (by simp [go_sem]) (by simp [go_sem]) (by simp [go_sem]) (by simp [go_sem])).mono ?_
    rintro e w1 ⟨rfl, m1, rfl⟩
    go_wp2
    go_ret2
    exact ⟨rfl, by (repeat (first | with_reducible exact Below.refl _ _ | with_reducible refine below_alloc ?_ _ | with_reducible refine below_drewN ?_ _ | with_reducible refine Below.drew ?_ | ((with_reducible refine below_set ?_ ?_ _); rotate_left; (focus (first | (simp; done) | (simp; omega) | omega))) | with_reducible refine below_call ?_ (by assumption)))⟩
  · have hv' := hv
    simp only [hv] at cV
    have CV := Lib.hid cV
    cases i1 : inB month 1 mo
    · rw [until_far hv (by rw [i1]; rfl)]
      clear cV hv hv'
      go_enter Try.func34, Try.ntmps34
      go_wp2_with fail
      go_at_call 49
      refine (CV.out _ (H.out.alloc (Nat.le_refl _) _) (by simp) (by simp [go_sem]) (by simp [go_sem]) (by simp [go_sem]) (by simp [go_sem]) (by simp [go_sem]) (by simp [go_sem]) (by simp [go_sem])).mono ?_
      rintro e w1 ⟨rfl, m1, rfl⟩
      go_wp2_with (go_at_call 63; refine (l00In_any _ _ _ _).mono ?_; rintro e w' ⟨rfl, rfl⟩)
      go_ret2
      exact ⟨rfl, by (repeat (first | with_reducible exact Below.refl _ _ | with_reducible refine below_alloc ?_ _ | with_reducible refine below_drewN ?_ _ | with_reducible refine Below.drew ?_ | ((with_reducible refine below_set ?_ ?_ _); rotate_left; (focus (first | (simp; done) | (simp; omega) | omega))) | with_reducible refine below_call ?_ (by assumption)))⟩
    cases i2 : inB day 1 te
    · rw [until_far hv (by rw [i1, i2]; rfl)]
      clear cV hv hv'
      go_enter Try.func34, Try.ntmps34
      go_wp2_with fail
      go_at_call 49
      refine (CV.out _ (H.out.alloc (Nat.le_refl _) _) (by simp) (by simp [go_sem]) (by simp [go_sem]) (by simp [go_sem]) (by simp [go_sem]) (by simp [go_sem]) (by simp [go_sem]) (by simp [go_sem])).mono ?_
      rintro e w1 ⟨rfl, m1, rfl⟩
      go_wp2_with (go_at_call 63; refine (l00In_any _ _ _ _).mono ?_; rintro e w' ⟨rfl, rfl⟩)
      go_ret2
      exact ⟨rfl, by (repeat (first | with_reducible exact Below.refl _ _ | with_reducible refine below_alloc ?_ _ | with_reducible refine below_drewN ?_ _ | with_reducible refine Below.drew ?_ | ((with_reducible refine below_set ?_ ?_ _); rotate_left; (focus (first | (simp; done) | (simp; omega) | omega))) | with_reducible refine below_call ?_ (by assumption)))⟩
    obtain ⟨_, v1, v2, hte, hix, hda, hwe, hwd1, hwd2⟩ := vPerp_yes hv
    obtain ⟨k, rfl⟩ := Int.eq_ofNat_of_zero_le hix.1
    rw [until_ok hv' (by rw [i1, i2]; rfl)]
    have hk : k < n := by omega
    have HG0 : Hid (goodS n te we (k, da, wd)) := Lib.hid ⟨hk, hda.1, hda.2, hwd1, hwd2⟩
    have HN := Lib.hid (fun (W : World) (A : Option Addr) (c g k : Nat) (da wd : Int) (h : Ints W W.heap.size A n zs) (hW : Work W g (.slice A n c) mo te (k : Int) da we wd) (hs : goodS n te we (k, da, wd)) => l18Night_any A n c W.heap.size g k zs mo te da we wd W h (Nat.le_refl _) hW hs hn hte.1 hte.2 hwe.1 hwe.2)
    have cO := fun (W : World) (h : Ints W w.heap.size A n zs) (h2 : w.heap.size ≤ W.heap.size) (hw : Work W w.heap.size (.slice A n c) mo te (k : Int) da we wd) => l18Own_any A n c w.heap.size w.heap.size zs mo te (k : Int) da we wd W h h2 (by omega) hn hw
    have CO := Lib.hid cO
    clear cV hv hv' cO
    go_enter Try.func34, Try.ntmps34
    go_wp2_with fail
    go_at_call 49
    refine (CV.out _ (H.out.alloc (Nat.le_refl _) _) (by simp) (by simp [go_sem]) (by simp [go_sem]) (by simp [go_sem]) (by simp [go_sem]) (by simp [go_sem]) (by simp [go_sem]) (by simp [go_sem])).mono ?_
    rintro e w1 ⟨rfl, m1, rfl⟩
    go_wp2_with (first | (go_at_call 63; refine (l00In_any _ _ _ _).mono ?_; rintro e w' ⟨rfl, rfl⟩) | fail)
    go_at_call 57
    refine (CO.out _ (Ints.drewN (H.out.alloc (Nat.le_refl _) _) _) (by simp) (Work.drewN (work_new w 27 (.slice A n c) mo te (k : Int) da we wd) _)).mono ?_
    rintro e w2 ⟨L, c2, rfl, ho2, hb2⟩
    have HO : Hid (OwnIn w2 (w.heap.size + 1) w2.heap.size L n c2 zs) := Lib.hid (by simpa using OwnIn.of ho2)
    have B2 : Below w.heap.size w w2 := by (repeat (first | with_reducible exact Below.refl _ _ | with_reducible refine below_alloc ?_ _ | with_reducible refine below_drewN ?_ _ | with_reducible refine Below.drew ?_ | ((with_reducible refine below_set ?_ ?_ _); rotate_left; (focus (first | (simp; done) | (simp; omega) | omega))) | with_reducible refine below_call ?_ (by assumption)))
    have z2 : w.heap.size + 1 ≤ w2.heap.size := by have := hb2.size; simpa using this
    clear ho2 hb2 i1 i2
    go_wp2
    go_loopw [9] (fun t wr => ∃ (j : Nat) (K : Nat) (D V : Int), t = .int .i64 (j : Int) ∧ j ≤ 200001 ∧ (K, D, V) = nightsS zs n te we j (k, da, wd) ∧ Hid (∀ i, i < j → untilP zs n mo te we (k, da, wd) month day i = false) ∧ Hid (Work wr w2.heap.size (.slice L n c2) mo te (K : Int) D we V) ∧ w2.grownBy wr (some w2.heap.size)) (fun t _ => 200001 - (intOf t).toNat)
    case atStart => exact ⟨0, k, da, wd, rfl, Nat.zero_le _, rfl, Lib.hid (fun i hi => absurd hi (by omega)), Lib.hid (work_new _ _ _ _ _ _ _ _ _), by (repeat (first | with_reducible exact World.grownBy.refl _ _ | with_reducible refine only_alloc ?_ _ | with_reducible refine only_drewN ?_ _ | with_reducible refine only_drew ?_ | ((with_reducible refine only_setCell ?_ ?_ _); rotate_left; (focus (first | exact .inl rfl | (left; simp; done) | (right; simp; done) | (right; simp; omega)))) | with_reducible refine World.grownBy.trans ?_ (by assumption) | with_reducible refine only_below ?_ (by assumption)))⟩
    case round =>
      obtain ⟨j, K, D, V, rfl, hj, hS, HP, hW, hg⟩ := hrel
      have hgood : goodS n te we (K, D, V) := by rw [hS]; exact good_nights HG0.out j
      have HS := Lib.hid hS
      have hPj : untilP zs n mo te we (k, da, wd) month day j = showB mo (K : Int) D month day := by unfold untilP; rw [← hS]
      have hK1 : (K : Int) ≤ 1048576 := by have := hgood.1; simp only at this; omega
      have z3 := hg.size
      have HO3 := Lib.hid (OwnIn.grown HO.out hg (fun g hg => by cases hg; right; exact Nat.le_refl _) (by omega))
      have B3 : Below w.heap.size w wr := below_only B2 hg B2.size (by omega)
      clear hS
      by_cases hlt : j < 200001
      · have hm : (j : Int) ≤ 200000 := by omega
        obtain ⟨b, hb⟩ : ∃ b, showB mo (K : Int) D month day = b := ⟨_, rfl⟩
        have cW := fun (W : World) (h : Work W w2.heap.size (.slice L n c2) mo te (K : Int) D we V) => l18Shows_any (.slice L n c2) w2.heap.size K mo te D we V month day W h (by omega) hmo hK1
        simp only [hb] at cW
        have CW := Lib.hid cW
        have HPj := Lib.hid (hPj.trans hb)
        clear cW hb hPj
        obtain ⟨q0, q1, q2, q3, q4, q5, q6, qf⟩ := hW.out
        go_wp2_with fail
        go_at_call 53
        refine (CW.out _ hW.out).mono ?_
        rintro e w3 ⟨rfl, m3, rfl⟩
        have HW3 := Lib.hid (hW.out.drewN m3)
        have hg3 := only_drewN hg m3
        have B4 : Below w.heap.size w (wr.drewN m3) := below_drewN B3 m3
        clear q0 q1 q2 q3 q4 q5 q6 qf
        cases b
        · go_wp2_with fail
          go_at_call 64
          refine (HN.out _ L c2 w2.heap.size K D V (Ints.drewN (OwnIn.ints HO3.out (by simp; omega)) _) HW3.out hgood).mono ?_
          rintro e w4 ⟨rfl, hW4, hg4⟩
          have H4 := Lib.hid hW4
          have hg5 := hg3.trans hg4
          clear hW4 hg4 hg hg3
          go_wp2
          go_roundw
          case rel =>
            refine ⟨j + 1, _, _, _, by go_num, by omega, ?_, Lib.hid (fun i hi => ?_), H4, hg5⟩
            · show _ = nightS zs n te we (nightsS zs n te we j (k, da, wd))
              rw [← HS.out]
            · by_cases e : i = j
              · rw [e]; exact HPj.out
              · exact HP.out i (by omega)
          case measure => simp [intOf]; omega
        · go_wp2
          go_ret2
          exact ⟨ret_val (first_hit hlt HP.out HPj.out), B4⟩
      · have hm : ¬ (j : Int) ≤ 200000 := by omega
        have hj2 : j = 200001 := by omega
        have HP2 : Hid (∀ i, i < 200001 → untilP zs n mo te we (k, da, wd) month day i = false) := Lib.hid (by rw [← hj2]; exact HP.out)
        clear hj2 HP hPj
        go_wp2
        go_ret2
        exact ⟨ret_val (first_miss HP2.out), B3⟩
def shT (zs : List Int) (n : Nat) (mo te ix da we wd m d : Int) : Bool := vPerp zs n mo te ix da we wd && showB mo ix da m d
set_option maxHeartbeats 2000000 in
theorem ShowsDate_any (A : Option Addr) (n c B : Nat) (zs : List Int) (mo te ix da we wd y m d : Int) (w : World) (h : Ints w B A n zs) (hB : B ≤ w.heap.size) (hn : n ≤ 1048576) (hmo : mo ≤ 9223372036854775807) :
    Calls Try.prog 23 #[.agg #[.slice A n c, .int .i64 mo, .int .i64 te, .int .i64 ix, .int .i64 da, .int .i64 we, .int .i64 wd], .agg #[.int .i64 y, .int .i64 m, .int .i64 d]] w fun e w' => e = .returned (.bool (shT zs n mo te ix da we wd m d)) ∧ Below w.heap.size w w' := by
  have H := Lib.hid (h.more hB)
  clear h
  have cV := fun (W : World) (h : Ints W w.heap.size A n zs) (h2 : w.heap.size ≤ W.heap.size) => ValidPerpetual_any A n c w.heap.size zs mo te ix da we wd W h h2 hn
  unfold shT
  cases hv : vPerp zs n mo te ix da we wd
  · simp only [hv, Bool.false_and] at cV ⊢
    have CV := Lib.hid cV
    clear cV hv
    go_enter Try.func23, Try.ntmps23
    go_wp2_with fail
    go_at_call 20
    refine (CV.out _ (by exact Ints.below (H.out) (by (repeat (first | with_reducible exact Below.refl _ _ | with_reducible refine below_alloc ?_ _ | with_reducible refine below_drewN ?_ _ | with_reducible refine Below.drew ?_ | ((with_reducible refine below_set ?_ ?_ _); rotate_left; (focus (first | (simp; done) | (simp; omega) | omega))) | with_reducible refine below_call ?_ (by assumption))))) (by exact Below.size (B := w.heap.size) (w := w) (by (repeat (first | with_reducible exact Below.refl _ _ | with_reducible refine below_alloc ?_ _ | with_reducible refine below_drewN ?_ _ | with_reducible refine Below.drew ?_ | ((with_reducible refine below_set ?_ ?_ _); rotate_left; (focus (first | (simp; done) | (simp; omega) | omega))) | with_reducible refine below_call ?_ (by assumption)))))).mono ?_
    rintro e w1 ⟨rfl, hb1⟩
    obtain ⟨hc1, hf1, hs1⟩ := bcell hb1
    (try (refine cut_ (p := w.heap.size < w1.heap.size) ?_ ?_; (focus (refine hs1 _ ?_; first | assumption | omega | (simp [go_sem]; done) | (simp [go_sem]; omega))); intro hl1a))
    (try (refine cut_ (p := w.heap.size + 1 < w1.heap.size) ?_ ?_; (focus (refine hs1 _ ?_; first | assumption | omega | (simp [go_sem]; done) | (simp [go_sem]; omega))); intro hl1b))
    (try (refine cut_ (p := w.heap.size + 1 + 1 < w1.heap.size) ?_ ?_; (focus (refine hs1 _ ?_; first | assumption | omega | (simp [go_sem]; done) | (simp [go_sem]; omega))); intro hl1c))
    go_wp2
    go_ret
    exact ⟨rfl, by (repeat (first | with_reducible exact Below.refl _ _ | with_reducible refine below_alloc ?_ _ | with_reducible refine below_drewN ?_ _ | with_reducible refine Below.drew ?_ | ((with_reducible refine below_set ?_ ?_ _); rotate_left; (focus (first | (simp; done) | (simp; omega) | omega))) | with_reducible refine below_call ?_ (by assumption)))⟩
  · simp only [hv, Bool.true_and] at cV ⊢
    have CV := Lib.hid cV
    obtain ⟨_, v1, v2, hte, hix, hda, hwe, hwd1, hwd2⟩ := vPerp_yes hv
    obtain ⟨k, rfl⟩ := Int.eq_ofNat_of_zero_le hix.1
    have cW := fun (W : World) => shows_any (.slice A n c) k mo te da we wd m d W (by omega) hmo (by omega)
    generalize showB mo (k : Int) da m d = b at *
    have CW := Lib.hid cW
    clear cV hv cW
    go_enter Try.func23, Try.ntmps23
    go_wp2_with fail
    go_at_call 20
    refine (CV.out _ (by exact Ints.below (H.out) (by (repeat (first | with_reducible exact Below.refl _ _ | with_reducible refine below_alloc ?_ _ | with_reducible refine below_drewN ?_ _ | with_reducible refine Below.drew ?_ | ((with_reducible refine below_set ?_ ?_ _); rotate_left; (focus (first | (simp; done) | (simp; omega) | omega))) | with_reducible refine below_call ?_ (by assumption))))) (by exact Below.size (B := w.heap.size) (w := w) (by (repeat (first | with_reducible exact Below.refl _ _ | with_reducible refine below_alloc ?_ _ | with_reducible refine below_drewN ?_ _ | with_reducible refine Below.drew ?_ | ((with_reducible refine below_set ?_ ?_ _); rotate_left; (focus (first | (simp; done) | (simp; omega) | omega))) | with_reducible refine below_call ?_ (by assumption)))))).mono ?_
    rintro e w1 ⟨rfl, hb1⟩
    obtain ⟨hc1, hf1, hs1⟩ := bcell hb1
    (try (refine cut_ (p := w.heap.size < w1.heap.size) ?_ ?_; (focus (refine hs1 _ ?_; first | assumption | omega | (simp [go_sem]; done) | (simp [go_sem]; omega))); intro hl1a))
    (try (refine cut_ (p := w.heap.size + 1 < w1.heap.size) ?_ ?_; (focus (refine hs1 _ ?_; first | assumption | omega | (simp [go_sem]; done) | (simp [go_sem]; omega))); intro hl1b))
    (try (refine cut_ (p := w.heap.size + 1 + 1 < w1.heap.size) ?_ ?_; (focus (refine hs1 _ ?_; first | assumption | omega | (simp [go_sem]; done) | (simp [go_sem]; omega))); intro hl1c))
    go_wp2_with fail
    go_at_call 54
    refine (CW.out _).mono ?_
    rintro e w2 ⟨rfl, hb2⟩
    obtain ⟨hc2, hf2, hs2⟩ := bcell hb2
    (try (refine cut_ (p := w.heap.size < w2.heap.size) ?_ ?_; (focus (refine hs2 _ ?_; first | assumption | omega | (simp [go_sem]; done) | (simp [go_sem]; omega))); intro hl2a))
    (try (refine cut_ (p := w.heap.size + 1 < w2.heap.size) ?_ ?_; (focus (refine hs2 _ ?_; first | assumption | omega | (simp [go_sem]; done) | (simp [go_sem]; omega))); intro hl2b))
    (try (refine cut_ (p := w.heap.size + 1 + 1 < w2.heap.size) ?_ ?_; (focus (refine hs2 _ ?_; first | assumption | omega | (simp [go_sem]; done) | (simp [go_sem]; omega))); intro hl2c))
    go_wp2
    go_ret
    exact ⟨rfl, by (repeat (first | with_reducible exact Below.refl _ _ | with_reducible refine below_alloc ?_ _ | with_reducible refine below_drewN ?_ _ | with_reducible refine Below.drew ?_ | ((with_reducible refine below_set ?_ ?_ _); rotate_left; (focus (first | (simp; done) | (simp; omega) | omega))) | with_reducible refine below_call ?_ (by assumption)))⟩
set_option maxHeartbeats 2000000 in
theorem specShowsDate_any (A : Option Addr) (n c B : Nat) (zs : List Int) (mo te ix da we wd y m d : Int) (w : World) (h : Ints w B A n zs) (hB : B ≤ w.heap.size) (hn : n ≤ 1048576) (hmo : mo ≤ 9223372036854775807) :
    Calls Try.prog 21 #[.agg #[.slice A n c, .int .i64 mo, .int .i64 te, .int .i64 ix, .int .i64 da, .int .i64 we, .int .i64 wd], .agg #[.int .i64 y, .int .i64 m, .int .i64 d]] w fun e w' => e = .returned (.bool (shT zs n mo te ix da we wd m d)) ∧ Below w.heap.size w w' := by
  have H := Lib.hid (h.more hB)
  clear h
  have cV := fun (W : World) (h : Ints W w.heap.size A n zs) (h2 : w.heap.size ≤ W.heap.size) => l18Ok_any A n c w.heap.size w.heap.size zs mo te ix da we wd W h h2 hn
  unfold shT
  cases hv : vPerp zs n mo te ix da we wd
  · simp only [hv, Bool.false_and] at cV ⊢
    have CV := Lib.hid cV
    clear cV hv
    go_enter Try.func21, Try.ntmps21
    go_wp2_with fail
    go_at_call 49
    refine (CV.out _ ((H.out.alloc (Nat.le_refl _) _).alloc (by simp) _) (by simp; omega) (by simp [go_sem]) (by simp [go_sem]) (by simp [go_sem]) (by simp [go_sem]) (by simp [go_sem]) (by simp [go_sem]) (by simp [go_sem])).mono ?_
    rintro e w1 ⟨rfl, m1, rfl⟩
    go_wp2
    go_ret
    exact ⟨rfl, by (repeat (first | with_reducible exact Below.refl _ _ | with_reducible refine below_alloc ?_ _ | with_reducible refine below_drewN ?_ _ | with_reducible refine Below.drew ?_ | ((with_reducible refine below_set ?_ ?_ _); rotate_left; (focus (first | (simp; done) | (simp; omega) | omega))) | with_reducible refine below_call ?_ (by assumption)))⟩
  · simp only [hv, Bool.true_and] at cV ⊢
    have CV := Lib.hid cV
    obtain ⟨_, v1, v2, hte, hix, hda, hwe, hwd1, hwd2⟩ := vPerp_yes hv
    obtain ⟨k, rfl⟩ := Int.eq_ofNat_of_zero_le hix.1
    have cW := fun (W : World) (h : Work W w.heap.size (.slice A n c) mo te (k : Int) da we wd) => l18Shows_any (.slice A n c) w.heap.size k mo te da we wd m d W h (by omega) hmo (by omega)
    generalize showB mo (k : Int) da m d = b at *
    have CW := Lib.hid cW
    clear cV hv cW
    go_enter Try.func21, Try.ntmps21
    go_wp2_with fail
    go_at_call 49
    refine (CV.out _ ((H.out.alloc (Nat.le_refl _) _).alloc (by simp) _) (by simp; omega) (by simp [go_sem]) (by simp [go_sem]) (by simp [go_sem]) (by simp [go_sem]) (by simp [go_sem]) (by simp [go_sem]) (by simp [go_sem])).mono ?_
    rintro e w1 ⟨rfl, m1, rfl⟩
    go_wp2_with fail
    go_at_call 53
    refine (CW.out _ (Work.drewN ((work_new w 27 (.slice A n c) mo te (k : Int) da we wd).alloc _) _)).mono ?_
    rintro e w2 ⟨rfl, m2, rfl⟩
    go_wp2
    go_ret
    exact ⟨rfl, by (repeat (first | with_reducible exact Below.refl _ _ | with_reducible refine below_alloc ?_ _ | with_reducible refine below_drewN ?_ _ | with_reducible refine Below.drew ?_ | ((with_reducible refine below_set ?_ ?_ _); rotate_left; (focus (first | (simp; done) | (simp; omega) | omega))) | with_reducible refine below_call ?_ (by assumption)))⟩
end Go.Proofs.Ytcppmocninhdpaa
