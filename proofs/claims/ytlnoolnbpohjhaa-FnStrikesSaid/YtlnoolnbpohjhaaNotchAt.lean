/- The two functions NotchAt: a search by halves and a plain search find the same notch. No conditions but that a wheel has at most 2^20 gaps. -/
import Derived.Test.YtlnoolnbpohjhaaNotches
import Derived.Test.YtlnoolnbpohjhaaLifts
namespace Go.Proofs.Ytlnoolnbpohjhaa
open Go.RowKit
set_option linter.unusedVariables false
set_option linter.unusedSimpArgs false
theorem notchK_getD (zs : List Int) : ∀ (k j : Nat), j < k → (notchK zs k).getD j 0 = sumK zs j
  | k + 1, j, h => by
    simp only [notchK, List.getD_eq_getElem?_getD]
    by_cases e : j < k
    · rw [List.getElem?_append_left (by rw [notchK_len]; exact e), ← List.getD_eq_getElem?_getD]; exact notchK_getD zs k j e
    · have e : j = k := by omega
      subst e
      rw [List.getElem?_append_right (by rw [notchK_len]; exact Nat.le_refl _), notchK_len, Nat.sub_self]; rfl
theorem sumK_lt {zs : List Int} (h : ∀ j, j < zs.length → 1 ≤ zs.getD j 0 ∧ zs.getD j 0 ≤ 12) : ∀ k j, j < k → k ≤ zs.length → sumK zs j < sumK zs k
  | k + 1, j, hj, hk => by
    have e : sumK zs (k + 1) = sumK zs k + zs.getD k 0 := rfl
    have := (h k (by omega)).1
    rcases Nat.lt_or_ge j k with h1 | h1
    · have := sumK_lt h k j h1 (by omega); omega
    · have : j = k := by omega
      subst this; omega
theorem notch_rises {zs : List Int} {n : Nat} (hl : zs.length = n) (h : vWheel zs = true) : ∀ i j, i < j → j < n → (notchK zs n).getD i 0 < (notchK zs n).getD j 0 := by
  intro i j hi hj
  rw [notchK_getD zs n i (by omega), notchK_getD zs n j hj]
  exact sumK_lt (vWheel_yes h).1 j i hi (by omega)
set_option maxHeartbeats 400000 in
theorem isNaN_any (x : Int) (w : World) : Calls Try.prog 50 #[.int .i64 x] w fun e w' => e = .returned (.bool false) ∧ w = w' := by
  go_enter Try.func50, Try.ntmps50
  go_wp2
  go_ret
  exact ⟨ret_bool (by simp), rfl⟩
set_option maxHeartbeats 400000 in
theorem sIsNaN_any (x : Int) (w : World) : Calls Try.prog 48 #[.int .i64 x] w fun e w' => e = .returned (.bool false) ∧ w = w' := by
  go_enter Try.func48, Try.ntmps48
  go_wp2
  go_ret
  exact ⟨ret_bool (by simp), rfl⟩
set_option maxHeartbeats 400000 in
theorem Less_any (x y : Int) (w : World) : Calls Try.prog 47 #[.int .i64 x, .int .i64 y] w fun e w' => e = .returned (.bool (decide (x < y))) ∧ w = w' := by
  have hn : (y != y) = false := by simp
  have hn2 : (x != x) = false := by simp
  by_cases h : x < y
  · go_enter Try.func47, Try.ntmps47
    go_wp2_with (first | (go_at_call 50; refine (isNaN_any _ _).mono ?_; rintro e w' ⟨rfl, rfl⟩))
    go_ret
    exact ⟨ret_bool (by simp [h]), rfl⟩
  · go_enter Try.func47, Try.ntmps47
    go_wp2_with (first | (go_at_call 50; refine (isNaN_any _ _).mono ?_; rintro e w' ⟨rfl, rfl⟩))
    go_ret
    exact ⟨ret_bool (by simp [h]), rfl⟩
/-- what a search by halves finds -/
def Found (zs : List Int) (n : Nat) (p : Int) (e : Ending) : Prop := ∃ (i : Nat) (f : Bool), e = .returned (.tuple #[.int .i64 (i : Int), .bool f]) ∧ i ≤ n ∧ (∀ q, q < i → zs.getD q 0 < p) ∧ (∀ q, i ≤ q → q < n → p ≤ zs.getD q 0) ∧ f = (decide (i < n) && decide (zs.getD i 0 = p))
set_option maxHeartbeats 2000000 in
theorem BinarySearch_any (A : Option Addr) (n c B : Nat) (zs : List Int) (p : Int) (w : World) (h : Ints w B A n zs) (hn : n ≤ 1048576) (hr : ∀ i j, i < j → j < n → zs.getD i 0 < zs.getD j 0) :
    Calls Try.prog 44 #[.slice A n c, .int .i64 p] w fun e w' => Found zs n p e ∧ w = w' := by
  have H := Lib.hid h
  have HR := Lib.hid hr
  clear h hr
  go_enter Try.func44, Try.ntmps44
  go_wp2
  go_loop [7, 8] (fun s t => ∃ i j : Nat, s = .int .i64 (i : Int) ∧ t = .int .i64 (j : Int) ∧ i ≤ j ∧ j ≤ n ∧ Hid (∀ q, q < i → zs.getD q 0 < p) ∧ Hid (∀ q, j ≤ q → q < n → p ≤ zs.getD q 0)) (fun s t => (intOf t).toNat - (intOf s).toNat)
  case atStart => exact ⟨0, n, rfl, rfl, Nat.zero_le _, Nat.le_refl _, Lib.hid (fun q hq => absurd hq (by omega)), Lib.hid (fun q h1 h2 => absurd h2 (by omega))⟩
  case round =>
    obtain ⟨i, j, rfl, rfl, hij, hj, HI, HJ⟩ := hrel
    by_cases hlt : i < j
    · have hm : (i + j) / 2 < n := by omega
      have hm1 : i ≤ (i + j) / 2 := by omega
      have hm2 : (i + j) / 2 < j := by omega
      obtain ⟨b, off, rfl, hbl, hc⟩ := H.out.at_ hm
      obtain ⟨x, hx⟩ : ∃ x, zs.getD ((i + j) / 2) 0 = x := ⟨_, rfl⟩
      rw [hx] at hc
      have hq : ((i : Int) + (j : Int)) / 2 = (((i + j) / 2 : Nat) : Int) := by omega
      have HX := Lib.hid hx
      generalize (i + j) / 2 = m at *
      clear hx
      by_cases hl : x < p
      · go_wp2_with (go_at_call 47; refine (Less_any _ _ _).mono ?_; rintro e w' ⟨rfl, rfl⟩)
        go_round
        case rel =>
          refine ⟨m + 1, j, by go_num, rfl, by omega, hj, Lib.hid (fun q hq => ?_), HJ⟩
          rcases Nat.lt_or_ge q m with h1 | h1
          · have := HR.out q m h1 (by omega); rw [HX.out] at this; omega
          · have : q = m := by omega
            rw [this, HX.out]; exact hl
        case measure => simp [intOf]; omega
      · go_wp2_with (go_at_call 47; refine (Less_any _ _ _).mono ?_; rintro e w' ⟨rfl, rfl⟩)
        go_round
        case rel =>
          refine ⟨i, m, rfl, by go_num, by omega, by omega, HI, Lib.hid (fun q h1 h2 => ?_)⟩
          rcases Nat.lt_or_ge m q with h3 | h3
          · have := HR.out m q h3 h2; rw [HX.out] at this; omega
          · have : q = m := by omega
            rw [this, HX.out]; omega
        case measure => simp [intOf]; omega
    · have e : i = j := by omega
      subst e
      by_cases hin : i < n
      · obtain ⟨b, off, rfl, hbl, hc⟩ := H.out.at_ hin
        obtain ⟨x, hx⟩ : ∃ x, zs.getD i 0 = x := ⟨_, rfl⟩
        rw [hx] at hc
        have HX := Lib.hid hx
        clear hx
        by_cases hxp : x = p
        · subst hxp
          go_wp2_with (go_at_call 48; refine (sIsNaN_any _ _).mono ?_; rintro e w' ⟨rfl, rfl⟩)
          go_ret2
          exact ⟨⟨i, true, rfl, hj, HI.out, HJ.out, by rw [HX.out]; simp [hin]⟩, rfl⟩
        · have hne : (x == p) = false := by simpa using hxp
          go_wp2_with (go_at_call 48; refine (sIsNaN_any _ _).mono ?_; rintro e w' ⟨rfl, rfl⟩)
          go_ret2
          exact ⟨⟨i, false, rfl, hj, HI.out, HJ.out, by rw [HX.out]; simp [hxp]⟩, rfl⟩
      · go_wp2_with (go_at_call 48; refine (sIsNaN_any _ _).mono ?_; rintro e w' ⟨rfl, rfl⟩)
        go_ret2
        exact ⟨⟨i, false, rfl, hj, HI.out, HJ.out, by simp [hin]⟩, rfl⟩
noncomputable def naT (zs : List Int) (n : Nat) (p : Int) : Value := if vWheel zs then if inB p 0 (sumK zs n - 1) then firstT (notchK zs n) p else .tuple #[.int .i64 0, .int .i64 2] else .tuple #[.int .i64 0, .int .i64 1]
theorem na_bad {zs : List Int} {n : Nat} {p : Int} (h : vWheel zs = false) : naT zs n p = .tuple #[.int .i64 0, .int .i64 1] := by rw [naT, h]; rfl
theorem na_far {zs : List Int} {n : Nat} {p : Int} (h : vWheel zs = true) (h2 : inB p 0 (sumK zs n - 1) = false) : naT zs n p = .tuple #[.int .i64 0, .int .i64 2] := by rw [naT, h, h2]; rfl
theorem na_ok {zs : List Int} {n : Nat} {p : Int} (h : vWheel zs = true) (h2 : inB p 0 (sumK zs n - 1) = true) : naT zs n p = firstT (notchK zs n) p := by rw [naT, h, h2]; rfl
theorem firstT_form (l : List Int) (v : Int) : ∃ a b : Int, firstT l v = .tuple #[.int .i64 a, .int .i64 b] := by
  unfold firstT; split <;> exact ⟨_, _, rfl⟩
theorem naT_form (zs : List Int) (n : Nat) (p : Int) : ∃ a b : Int, naT zs n p = .tuple #[.int .i64 a, .int .i64 b] := by
  unfold naT; split
  · split
    · exact firstT_form _ _
    · exact ⟨_, _, rfl⟩
  · exact ⟨_, _, rfl⟩
theorem ret_val' {a b : Value} (h : a = b) : Ending.returned a = .returned b := by rw [h]
set_option maxHeartbeats 4000000 in
theorem NotchAt_any (A : Option Addr) (n c B : Nat) (zs : List Int) (p : Int) (w : World) (h : Ints w B A n zs) (hB : B ≤ w.heap.size) (hn : n ≤ 1048576) :
    Calls Try.prog 25 #[.agg #[.slice A n c], .int .i64 p] w fun e w' => e = .returned (naT zs n p) ∧ Below w.heap.size w w' := by
  have hl := h.len
  have H := Lib.hid (h.more hB)
  clear h
  have cV := fun (W : World) (h : Ints W w.heap.size A n zs) (h2 : w.heap.size ≤ W.heap.size) => ValidCountWheel_any A n c w.heap.size zs W h h2 hn
  cases hv : vWheel zs
  · rw [na_bad hv]
    simp only [hv] at cV
    have CV := Lib.hid cV
    clear cV hv
    go_enter Try.func25, Try.ntmps25
    go_wp2_with fail
    go_at_call 18
    refine (CV.out _ (by exact Ints.below (H.out) (by (repeat (first | with_reducible exact Below.refl _ _ | with_reducible refine below_alloc ?_ _ | with_reducible refine below_drewN ?_ _ | with_reducible refine Below.drew ?_ | ((with_reducible refine below_set ?_ ?_ _); rotate_left; (focus (first | (simp; done) | (simp; omega) | omega))) | with_reducible refine below_call ?_ (by assumption))))) (by exact Below.size (B := w.heap.size) (w := w) (by (repeat (first | with_reducible exact Below.refl _ _ | with_reducible refine below_alloc ?_ _ | with_reducible refine below_drewN ?_ _ | with_reducible refine Below.drew ?_ | ((with_reducible refine below_set ?_ ?_ _); rotate_left; (focus (first | (simp; done) | (simp; omega) | omega))) | with_reducible refine below_call ?_ (by assumption)))))).mono ?_
    rintro e w1 ⟨rfl, hb1⟩
    obtain ⟨hc1, hf1, hs1⟩ := bcell hb1
    (try (refine cut_ (p := w.heap.size < w1.heap.size) ?_ ?_; (focus (refine hs1 _ ?_; first | assumption | omega | (simp [go_sem]; done) | (simp [go_sem]; omega))); intro hl1a))
    (try (refine cut_ (p := w.heap.size + 1 < w1.heap.size) ?_ ?_; (focus (refine hs1 _ ?_; first | assumption | omega | (simp [go_sem]; done) | (simp [go_sem]; omega))); intro hl1b))
    (try (refine cut_ (p := w.heap.size + 1 + 1 < w1.heap.size) ?_ ?_; (focus (refine hs1 _ ?_; first | assumption | omega | (simp [go_sem]; done) | (simp [go_sem]; omega))); intro hl1c))
    go_wp2
    go_ret2
    exact ⟨rfl, by (repeat (first | with_reducible exact Below.refl _ _ | with_reducible refine below_alloc ?_ _ | with_reducible refine below_drewN ?_ _ | with_reducible refine Below.drew ?_ | ((with_reducible refine below_set ?_ ?_ _); rotate_left; (focus (first | (simp; done) | (simp; omega) | omega))) | with_reducible refine below_call ?_ (by assumption)))⟩
  · have hv' := hv
    have hbd := sumK_bd (vWheel_yes hv).1 n (by omega)
    have cT := fun (W : World) (h : Ints W w.heap.size A n zs) (h2 : w.heap.size ≤ W.heap.size) => totalBlows_any A n c w.heap.size zs W h h2 hv
    have cN := fun (W : World) (h : Ints W w.heap.size A n zs) (h2 : w.heap.size ≤ W.heap.size) => notchesOf_any A n c w.heap.size zs W h h2 hv
    simp only [hv] at cV
    have CV := Lib.hid cV
    cases hi : inB p 0 (sumK zs n - 1)
    · rw [na_far hv' hi]
      generalize sumK zs n = T at *
      have CT := Lib.hid cT
      clear cV cT cN hv hv'
      go_enter Try.func25, Try.ntmps25
      go_wp2_with fail
      go_at_call 18
      refine (CV.out _ (by exact Ints.below (H.out) (by (repeat (first | with_reducible exact Below.refl _ _ | with_reducible refine below_alloc ?_ _ | with_reducible refine below_drewN ?_ _ | with_reducible refine Below.drew ?_ | ((with_reducible refine below_set ?_ ?_ _); rotate_left; (focus (first | (simp; done) | (simp; omega) | omega))) | with_reducible refine below_call ?_ (by assumption))))) (by exact Below.size (B := w.heap.size) (w := w) (by (repeat (first | with_reducible exact Below.refl _ _ | with_reducible refine below_alloc ?_ _ | with_reducible refine below_drewN ?_ _ | with_reducible refine Below.drew ?_ | ((with_reducible refine below_set ?_ ?_ _); rotate_left; (focus (first | (simp; done) | (simp; omega) | omega))) | with_reducible refine below_call ?_ (by assumption)))))).mono ?_
      rintro e w1 ⟨rfl, hb1⟩
      obtain ⟨hc1, hf1, hs1⟩ := bcell hb1
      (try (refine cut_ (p := w.heap.size < w1.heap.size) ?_ ?_; (focus (refine hs1 _ ?_; first | assumption | omega | (simp [go_sem]; done) | (simp [go_sem]; omega))); intro hl1a))
      (try (refine cut_ (p := w.heap.size + 1 < w1.heap.size) ?_ ?_; (focus (refine hs1 _ ?_; first | assumption | omega | (simp [go_sem]; done) | (simp [go_sem]; omega))); intro hl1b))
      (try (refine cut_ (p := w.heap.size + 1 + 1 < w1.heap.size) ?_ ?_; (focus (refine hs1 _ ?_; first | assumption | omega | (simp [go_sem]; done) | (simp [go_sem]; omega))); intro hl1c))
      go_wp2_with fail
      go_at_call 41
      refine (CT.out _ (by exact Ints.below (H.out) (by (repeat (first | with_reducible exact Below.refl _ _ | with_reducible refine below_alloc ?_ _ | with_reducible refine below_drewN ?_ _ | with_reducible refine Below.drew ?_ | ((with_reducible refine below_set ?_ ?_ _); rotate_left; (focus (first | (simp; done) | (simp; omega) | omega))) | with_reducible refine below_call ?_ (by assumption))))) (by exact Below.size (B := w.heap.size) (w := w) (by (repeat (first | with_reducible exact Below.refl _ _ | with_reducible refine below_alloc ?_ _ | with_reducible refine below_drewN ?_ _ | with_reducible refine Below.drew ?_ | ((with_reducible refine below_set ?_ ?_ _); rotate_left; (focus (first | (simp; done) | (simp; omega) | omega))) | with_reducible refine below_call ?_ (by assumption)))))).mono ?_
      rintro e w2 ⟨rfl, hb2⟩
      obtain ⟨hc2, hf2, hs2⟩ := bcell hb2
      (try (refine cut_ (p := w.heap.size < w2.heap.size) ?_ ?_; (focus (refine hs2 _ ?_; first | assumption | omega | (simp [go_sem]; done) | (simp [go_sem]; omega))); intro hl2a))
      (try (refine cut_ (p := w.heap.size + 1 < w2.heap.size) ?_ ?_; (focus (refine hs2 _ ?_; first | assumption | omega | (simp [go_sem]; done) | (simp [go_sem]; omega))); intro hl2b))
      (try (refine cut_ (p := w.heap.size + 1 + 1 < w2.heap.size) ?_ ?_; (focus (refine hs2 _ ?_; first | assumption | omega | (simp [go_sem]; done) | (simp [go_sem]; omega))); intro hl2c))
      go_wp2_with (go_at_call 38; refine (within_any _ _ _ _).mono ?_; rintro e w' ⟨rfl, rfl⟩)
      go_ret2
      exact ⟨rfl, by (repeat (first | with_reducible exact Below.refl _ _ | with_reducible refine below_alloc ?_ _ | with_reducible refine below_drewN ?_ _ | with_reducible refine Below.drew ?_ | ((with_reducible refine below_set ?_ ?_ _); rotate_left; (focus (first | (simp; done) | (simp; omega) | omega))) | with_reducible refine below_call ?_ (by assumption)))⟩
    · rw [na_ok hv' hi]
      have hr := notch_rises hl hv'
      have hlen := notchK_len zs n
      generalize sumK zs n = T at *
      generalize notchK zs n = G at *
      have CT := Lib.hid cT
      have CN := Lib.hid cN
      have HR := Lib.hid hr
      have HG := Lib.hid hlen
      clear cV cT cN hv hv' hr hlen
      go_enter Try.func25, Try.ntmps25
      go_wp2_with fail
      go_at_call 18
      refine (CV.out _ (by exact Ints.below (H.out) (by (repeat (first | with_reducible exact Below.refl _ _ | with_reducible refine below_alloc ?_ _ | with_reducible refine below_drewN ?_ _ | with_reducible refine Below.drew ?_ | ((with_reducible refine below_set ?_ ?_ _); rotate_left; (focus (first | (simp; done) | (simp; omega) | omega))) | with_reducible refine below_call ?_ (by assumption))))) (by exact Below.size (B := w.heap.size) (w := w) (by (repeat (first | with_reducible exact Below.refl _ _ | with_reducible refine below_alloc ?_ _ | with_reducible refine below_drewN ?_ _ | with_reducible refine Below.drew ?_ | ((with_reducible refine below_set ?_ ?_ _); rotate_left; (focus (first | (simp; done) | (simp; omega) | omega))) | with_reducible refine below_call ?_ (by assumption)))))).mono ?_
      rintro e w1 ⟨rfl, hb1⟩
      obtain ⟨hc1, hf1, hs1⟩ := bcell hb1
      (try (refine cut_ (p := w.heap.size < w1.heap.size) ?_ ?_; (focus (refine hs1 _ ?_; first | assumption | omega | (simp [go_sem]; done) | (simp [go_sem]; omega))); intro hl1a))
      (try (refine cut_ (p := w.heap.size + 1 < w1.heap.size) ?_ ?_; (focus (refine hs1 _ ?_; first | assumption | omega | (simp [go_sem]; done) | (simp [go_sem]; omega))); intro hl1b))
      (try (refine cut_ (p := w.heap.size + 1 + 1 < w1.heap.size) ?_ ?_; (focus (refine hs1 _ ?_; first | assumption | omega | (simp [go_sem]; done) | (simp [go_sem]; omega))); intro hl1c))
      go_wp2_with fail
      go_at_call 41
      refine (CT.out _ (by exact Ints.below (H.out) (by (repeat (first | with_reducible exact Below.refl _ _ | with_reducible refine below_alloc ?_ _ | with_reducible refine below_drewN ?_ _ | with_reducible refine Below.drew ?_ | ((with_reducible refine below_set ?_ ?_ _); rotate_left; (focus (first | (simp; done) | (simp; omega) | omega))) | with_reducible refine below_call ?_ (by assumption))))) (by exact Below.size (B := w.heap.size) (w := w) (by (repeat (first | with_reducible exact Below.refl _ _ | with_reducible refine below_alloc ?_ _ | with_reducible refine below_drewN ?_ _ | with_reducible refine Below.drew ?_ | ((with_reducible refine below_set ?_ ?_ _); rotate_left; (focus (first | (simp; done) | (simp; omega) | omega))) | with_reducible refine below_call ?_ (by assumption)))))).mono ?_
      rintro e w2 ⟨rfl, hb2⟩
      obtain ⟨hc2, hf2, hs2⟩ := bcell hb2
      (try (refine cut_ (p := w.heap.size < w2.heap.size) ?_ ?_; (focus (refine hs2 _ ?_; first | assumption | omega | (simp [go_sem]; done) | (simp [go_sem]; omega))); intro hl2a))
      (try (refine cut_ (p := w.heap.size + 1 < w2.heap.size) ?_ ?_; (focus (refine hs2 _ ?_; first | assumption | omega | (simp [go_sem]; done) | (simp [go_sem]; omega))); intro hl2b))
      (try (refine cut_ (p := w.heap.size + 1 + 1 < w2.heap.size) ?_ ?_; (focus (refine hs2 _ ?_; first | assumption | omega | (simp [go_sem]; done) | (simp [go_sem]; omega))); intro hl2c))
      go_wp2_with (first | (go_at_call 38; refine (within_any _ _ _ _).mono ?_; rintro e w' ⟨rfl, rfl⟩) | fail)
      go_at_call 42
      refine (CN.out _ (by exact Ints.below (H.out) (by (repeat (first | with_reducible exact Below.refl _ _ | with_reducible refine below_alloc ?_ _ | with_reducible refine below_drewN ?_ _ | with_reducible refine Below.drew ?_ | ((with_reducible refine below_set ?_ ?_ _); rotate_left; (focus (first | (simp; done) | (simp; omega) | omega))) | with_reducible refine below_call ?_ (by assumption))))) (by exact Below.size (B := w.heap.size) (w := w) (by (repeat (first | with_reducible exact Below.refl _ _ | with_reducible refine below_alloc ?_ _ | with_reducible refine below_drewN ?_ _ | with_reducible refine Below.drew ?_ | ((with_reducible refine below_set ?_ ?_ _); rotate_left; (focus (first | (simp; done) | (simp; omega) | omega))) | with_reducible refine below_call ?_ (by assumption)))))).mono ?_
      rintro e w3 ⟨L, m3, c3, rfl, ho3, hb3⟩
      have hm3 : m3 = n := by have := ho3.len; have := HG.out; omega
      subst hm3
      have HO := Lib.hid ho3
      clear ho3
      go_wp2_with fail
      go_at_call 44
      refine (BinarySearch_any L _ c3 w3.heap.size G p _ (HO.out.ints (Nat.le_refl _)) hn HR.out).mono ?_
      rintro e w' ⟨⟨i, f, rfl, hin, h1, h2, hf⟩, rfl⟩
      have B3 : Below w.heap.size w w3 := by (repeat (first | with_reducible exact Below.refl _ _ | with_reducible refine below_alloc ?_ _ | with_reducible refine below_drewN ?_ _ | with_reducible refine Below.drew ?_ | ((with_reducible refine below_set ?_ ?_ _); rotate_left; (focus (first | (simp; done) | (simp; omega) | omega))) | with_reducible refine below_call ?_ (by assumption)))
      have H1 := Lib.hid h1
      have H2 := Lib.hid h2
      have HF := Lib.hid hf
      clear h1 h2 hf hi
      cases f
      · go_wp2
        go_ret2
        refine ⟨ret_val' (firstT_none (fun j hj e => ?_)).symm, B3⟩
        rw [HG.out] at hj
        have hf := HF.out
        rcases Nat.lt_or_ge j i with h3 | h3
        · have := H1.out j h3; omega
        · have hin2 : i < _ := Nat.lt_of_le_of_lt h3 hj
          have h4 := H2.out i (Nat.le_refl _) hin2
          simp [hin2] at hf
          rcases Nat.lt_or_ge i j with h5 | h5
          · have := HR.out i j h5 hj; omega
          · have : i = j := by omega
            subst this; exact hf e
      · have hf := HF.out
        simp at hf
        go_wp2
        go_ret2
        exact ⟨ret_val' (firstT_of ⟨by rw [HG.out]; exact hf.1, hf.2, fun j hj e => by have := H1.out j hj; omega⟩).symm, B3⟩
end Go.Proofs.Ytlnoolnbpohjhaa
