/- Contracts of the two functions LiftsUntil. No conditions but that a wheel has at most 2^20 gaps. -/
import Derived.Test.YtlnoolnbpohjhaaMany
namespace Go.Proofs.Ytlnoolnbpohjhaa
open Go.RowKit
set_option linter.unusedVariables false
set_option linter.unusedSimpArgs false
/-- k is the first place of v in l -/
def IsFirst (l : List Int) (v : Int) (k : Nat) : Prop := k < l.length ∧ l.getD k 0 = v ∧ ∀ j, j < k → l.getD j 0 ≠ v
theorem IsFirst.only {l : List Int} {v : Int} {k k' : Nat} (h : IsFirst l v k) (h' : IsFirst l v k') : k = k' := by
  rcases Nat.lt_trichotomy k k' with e | e | e
  · exact absurd h.2.1 (h'.2.2 k e)
  · exact e
  · exact absurd h'.2.1 (h.2.2 k' e)
open Classical in
noncomputable def firstT (l : List Int) (v : Int) : Value := if h : ∃ k, IsFirst l v k then .tuple #[.int .i64 (h.choose : Int), .int .i64 0] else .tuple #[.int .i64 0, .int .i64 3]
theorem firstT_of {l : List Int} {v : Int} {k : Nat} (h : IsFirst l v k) : firstT l v = .tuple #[.int .i64 (k : Int), .int .i64 0] := by
  have hh : ∃ k, IsFirst l v k := ⟨k, h⟩
  unfold firstT
  rw [dif_pos hh, IsFirst.only hh.choose_spec h]
theorem firstT_none {l : List Int} {v : Int} (h : ∀ j, j < l.length → l.getD j 0 ≠ v) : firstT l v = .tuple #[.int .i64 0, .int .i64 3] := by
  unfold firstT
  rw [dif_neg]
  rintro ⟨k, h1, h2, _⟩
  exact h k h1 h2
noncomputable def liftsT (zs : List Int) (n : Nat) (x bl : Int) : Value :=
  if vWheel zs then if inB x 0 ((n : Int) - 1) && inB bl 1 12 then firstT (manyL zs n x.toNat n) bl else .tuple #[.int .i64 0, .int .i64 2] else .tuple #[.int .i64 0, .int .i64 1]
theorem lifts_bad {zs : List Int} {n : Nat} {x bl : Int} (h : vWheel zs = false) : liftsT zs n x bl = .tuple #[.int .i64 0, .int .i64 1] := by simp [liftsT, h]
theorem lifts_far {zs : List Int} {n : Nat} {x bl : Int} (h : vWheel zs = true) (h' : (inB x 0 ((n : Int) - 1) && inB bl 1 12) = false) : liftsT zs n x bl = .tuple #[.int .i64 0, .int .i64 2] := by simp only [liftsT, h, h']; rfl
theorem lifts_ok {zs : List Int} {n : Nat} {x bl : Int} (h : vWheel zs = true) (h' : (inB x 0 ((n : Int) - 1) && inB bl 1 12) = true) : liftsT zs n x bl = firstT (manyL zs n x.toNat n) bl := by simp only [liftsT, h, h']; rfl
theorem liftsT_form (zs : List Int) (n : Nat) (x bl : Int) : ∃ a b : Int, liftsT zs n x bl = .tuple #[.int .i64 a, .int .i64 b] := by
  unfold liftsT
  split
  · split
    · unfold firstT; split <;> exact ⟨_, _, rfl⟩
    · exact ⟨_, _, rfl⟩
  · exact ⟨_, _, rfl⟩
set_option maxHeartbeats 4000000 in
theorem LiftsUntil_any (A : Option Addr) (n c B : Nat) (zs : List Int) (x bl : Int) (w : World) (h : Ints w B A n zs) (hB : B ≤ w.heap.size) (hn : n ≤ 1048576) :
    Calls Try.prog 7 #[.agg #[.slice A n c], .int .i64 x, .int .i64 bl] w fun e w' => e = .returned (liftsT zs n x bl) ∧ Below w.heap.size w w' := by
  have hl := h.len
  have H := Lib.hid (h.more hB)
  clear h
  cases hv : vWheel zs
  · rw [lifts_bad hv]
    go_enter Try.func7, Try.ntmps7
    go_wp2_with fail
    refine (ValidCountWheel_any _ _ _ _ zs _ (by exact Ints.below (H.out) (by (repeat (first | with_reducible exact Below.refl _ _ | with_reducible refine below_alloc ?_ _ | with_reducible refine below_drewN ?_ _ | with_reducible refine Below.drew ?_ | ((with_reducible refine below_set ?_ ?_ _); rotate_left; (focus (first | (simp; done) | (simp; omega) | omega))) | with_reducible refine below_call ?_ (by assumption))))) (by exact Below.size (B := w.heap.size) (w := w) (by (repeat (first | with_reducible exact Below.refl _ _ | with_reducible refine below_alloc ?_ _ | with_reducible refine below_drewN ?_ _ | with_reducible refine Below.drew ?_ | ((with_reducible refine below_set ?_ ?_ _); rotate_left; (focus (first | (simp; done) | (simp; omega) | omega))) | with_reducible refine below_call ?_ (by assumption))))) hn).mono ?_
    rintro e w1 ⟨rfl, hb1⟩
    obtain ⟨hc1, hf1, hs1⟩ := bcell hb1
    (try (refine cut_ (p := w.heap.size < w1.heap.size) ?_ ?_; (focus (refine hs1 _ ?_; first | assumption | omega | (simp [go_sem]; done) | (simp [go_sem]; omega))); intro hl1a))
    (try (refine cut_ (p := w.heap.size + 1 < w1.heap.size) ?_ ?_; (focus (refine hs1 _ ?_; first | assumption | omega | (simp [go_sem]; done) | (simp [go_sem]; omega))); intro hl1b))
    (try (refine cut_ (p := w.heap.size + 1 + 1 < w1.heap.size) ?_ ?_; (focus (refine hs1 _ ?_; first | assumption | omega | (simp [go_sem]; done) | (simp [go_sem]; omega))); intro hl1c))
    go_wp2
    go_ret2
    exact ⟨rfl, by (repeat (first | with_reducible exact Below.refl _ _ | with_reducible refine below_alloc ?_ _ | with_reducible refine below_drewN ?_ _ | with_reducible refine Below.drew ?_ | ((with_reducible refine below_set ?_ ?_ _); rotate_left; (focus (first | (simp; done) | (simp; omega) | omega))) | with_reducible refine below_call ?_ (by assumption)))⟩
  · cases hi : inB x 0 ((n : Int) - 1)
    · rw [lifts_far hv (by rw [hi]; rfl)]
      go_enter Try.func7, Try.ntmps7
      go_wp2_with fail
      refine (ValidCountWheel_any _ _ _ _ zs _ (by exact Ints.below (H.out) (by (repeat (first | with_reducible exact Below.refl _ _ | with_reducible refine below_alloc ?_ _ | with_reducible refine below_drewN ?_ _ | with_reducible refine Below.drew ?_ | ((with_reducible refine below_set ?_ ?_ _); rotate_left; (focus (first | (simp; done) | (simp; omega) | omega))) | with_reducible refine below_call ?_ (by assumption))))) (by exact Below.size (B := w.heap.size) (w := w) (by (repeat (first | with_reducible exact Below.refl _ _ | with_reducible refine below_alloc ?_ _ | with_reducible refine below_drewN ?_ _ | with_reducible refine Below.drew ?_ | ((with_reducible refine below_set ?_ ?_ _); rotate_left; (focus (first | (simp; done) | (simp; omega) | omega))) | with_reducible refine below_call ?_ (by assumption))))) hn).mono ?_
      rintro e w1 ⟨rfl, hb1⟩
      obtain ⟨hc1, hf1, hs1⟩ := bcell hb1
      (try (refine cut_ (p := w.heap.size < w1.heap.size) ?_ ?_; (focus (refine hs1 _ ?_; first | assumption | omega | (simp [go_sem]; done) | (simp [go_sem]; omega))); intro hl1a))
      (try (refine cut_ (p := w.heap.size + 1 < w1.heap.size) ?_ ?_; (focus (refine hs1 _ ?_; first | assumption | omega | (simp [go_sem]; done) | (simp [go_sem]; omega))); intro hl1b))
      (try (refine cut_ (p := w.heap.size + 1 + 1 < w1.heap.size) ?_ ?_; (focus (refine hs1 _ ?_; first | assumption | omega | (simp [go_sem]; done) | (simp [go_sem]; omega))); intro hl1c))
      go_wp2_with fail
      refine (isNotch_any _ _ _ _ _ hn).mono ?_
      rintro e w2 ⟨rfl, hb2⟩
      obtain ⟨hc2, hf2, hs2⟩ := bcell hb2
      (try (refine cut_ (p := w.heap.size < w2.heap.size) ?_ ?_; (focus (refine hs2 _ ?_; first | assumption | omega | (simp [go_sem]; done) | (simp [go_sem]; omega))); intro hl2a))
      (try (refine cut_ (p := w.heap.size + 1 < w2.heap.size) ?_ ?_; (focus (refine hs2 _ ?_; first | assumption | omega | (simp [go_sem]; done) | (simp [go_sem]; omega))); intro hl2b))
      (try (refine cut_ (p := w.heap.size + 1 + 1 < w2.heap.size) ?_ ?_; (focus (refine hs2 _ ?_; first | assumption | omega | (simp [go_sem]; done) | (simp [go_sem]; omega))); intro hl2c))
      go_wp2_with (go_at_call 31; refine (isBlows_any _ _).mono ?_; rintro e w' ⟨rfl, rfl⟩)
      go_ret2
      exact ⟨rfl, by (repeat (first | with_reducible exact Below.refl _ _ | with_reducible refine below_alloc ?_ _ | with_reducible refine below_drewN ?_ _ | with_reducible refine Below.drew ?_ | ((with_reducible refine below_set ?_ ?_ _); rotate_left; (focus (first | (simp; done) | (simp; omega) | omega))) | with_reducible refine below_call ?_ (by assumption)))⟩
    · cases hb : inB bl 1 12
      · rw [lifts_far hv (by rw [hi, hb]; rfl)]
        go_enter Try.func7, Try.ntmps7
        go_wp2_with fail
        refine (ValidCountWheel_any _ _ _ _ zs _ (by exact Ints.below (H.out) (by (repeat (first | with_reducible exact Below.refl _ _ | with_reducible refine below_alloc ?_ _ | with_reducible refine below_drewN ?_ _ | with_reducible refine Below.drew ?_ | ((with_reducible refine below_set ?_ ?_ _); rotate_left; (focus (first | (simp; done) | (simp; omega) | omega))) | with_reducible refine below_call ?_ (by assumption))))) (by exact Below.size (B := w.heap.size) (w := w) (by (repeat (first | with_reducible exact Below.refl _ _ | with_reducible refine below_alloc ?_ _ | with_reducible refine below_drewN ?_ _ | with_reducible refine Below.drew ?_ | ((with_reducible refine below_set ?_ ?_ _); rotate_left; (focus (first | (simp; done) | (simp; omega) | omega))) | with_reducible refine below_call ?_ (by assumption))))) hn).mono ?_
        rintro e w1 ⟨rfl, hb1⟩
        obtain ⟨hc1, hf1, hs1⟩ := bcell hb1
        (try (refine cut_ (p := w.heap.size < w1.heap.size) ?_ ?_; (focus (refine hs1 _ ?_; first | assumption | omega | (simp [go_sem]; done) | (simp [go_sem]; omega))); intro hl1a))
        (try (refine cut_ (p := w.heap.size + 1 < w1.heap.size) ?_ ?_; (focus (refine hs1 _ ?_; first | assumption | omega | (simp [go_sem]; done) | (simp [go_sem]; omega))); intro hl1b))
        (try (refine cut_ (p := w.heap.size + 1 + 1 < w1.heap.size) ?_ ?_; (focus (refine hs1 _ ?_; first | assumption | omega | (simp [go_sem]; done) | (simp [go_sem]; omega))); intro hl1c))
        go_wp2_with fail
        refine (isNotch_any _ _ _ _ _ hn).mono ?_
        rintro e w2 ⟨rfl, hb2⟩
        obtain ⟨hc2, hf2, hs2⟩ := bcell hb2
        (try (refine cut_ (p := w.heap.size < w2.heap.size) ?_ ?_; (focus (refine hs2 _ ?_; first | assumption | omega | (simp [go_sem]; done) | (simp [go_sem]; omega))); intro hl2a))
        (try (refine cut_ (p := w.heap.size + 1 < w2.heap.size) ?_ ?_; (focus (refine hs2 _ ?_; first | assumption | omega | (simp [go_sem]; done) | (simp [go_sem]; omega))); intro hl2b))
        (try (refine cut_ (p := w.heap.size + 1 + 1 < w2.heap.size) ?_ ?_; (focus (refine hs2 _ ?_; first | assumption | omega | (simp [go_sem]; done) | (simp [go_sem]; omega))); intro hl2c))
        go_wp2_with (go_at_call 31; refine (isBlows_any _ _).mono ?_; rintro e w' ⟨rfl, rfl⟩)
        go_ret2
        exact ⟨rfl, by (repeat (first | with_reducible exact Below.refl _ _ | with_reducible refine below_alloc ?_ _ | with_reducible refine below_drewN ?_ _ | with_reducible refine Below.drew ?_ | ((with_reducible refine below_set ?_ ?_ _); rotate_left; (focus (first | (simp; done) | (simp; omega) | omega))) | with_reducible refine below_call ?_ (by assumption)))⟩
      · have hx := inB_yes hi
        obtain ⟨v1, v2, v3⟩ := vWheel_yes hv
        have hT := lifts_ok (zs := zs) (n := n) hv (show (inB x 0 ((n : Int) - 1) && inB bl 1 12) = true by rw [hi, hb]; rfl)
        obtain ⟨x, rfl⟩ := Int.eq_ofNat_of_zero_le hx.1
        rw [Int.toNat_natCast] at hT
        rw [hl] at v2
        obtain ⟨V, hV⟩ : ∃ V, liftsT zs n x bl = V := ⟨_, rfl⟩
        rw [hV] at hT ⊢
        have HT := Lib.hid hT
        clear hT hV v1 v3 hl
        go_enter Try.func7, Try.ntmps7
        go_wp2_with fail
        refine (ValidCountWheel_any _ _ _ _ zs _ (by exact Ints.below (H.out) (by (repeat (first | with_reducible exact Below.refl _ _ | with_reducible refine below_alloc ?_ _ | with_reducible refine below_drewN ?_ _ | with_reducible refine Below.drew ?_ | ((with_reducible refine below_set ?_ ?_ _); rotate_left; (focus (first | (simp; done) | (simp; omega) | omega))) | with_reducible refine below_call ?_ (by assumption))))) (by exact Below.size (B := w.heap.size) (w := w) (by (repeat (first | with_reducible exact Below.refl _ _ | with_reducible refine below_alloc ?_ _ | with_reducible refine below_drewN ?_ _ | with_reducible refine Below.drew ?_ | ((with_reducible refine below_set ?_ ?_ _); rotate_left; (focus (first | (simp; done) | (simp; omega) | omega))) | with_reducible refine below_call ?_ (by assumption))))) hn).mono ?_
        rintro e w1 ⟨rfl, hb1⟩
        obtain ⟨hc1, hf1, hs1⟩ := bcell hb1
        (try (refine cut_ (p := w.heap.size < w1.heap.size) ?_ ?_; (focus (refine hs1 _ ?_; first | assumption | omega | (simp [go_sem]; done) | (simp [go_sem]; omega))); intro hl1a))
        (try (refine cut_ (p := w.heap.size + 1 < w1.heap.size) ?_ ?_; (focus (refine hs1 _ ?_; first | assumption | omega | (simp [go_sem]; done) | (simp [go_sem]; omega))); intro hl1b))
        (try (refine cut_ (p := w.heap.size + 1 + 1 < w1.heap.size) ?_ ?_; (focus (refine hs1 _ ?_; first | assumption | omega | (simp [go_sem]; done) | (simp [go_sem]; omega))); intro hl1c))
        go_wp2_with fail
        refine (isNotch_any _ _ _ _ _ hn).mono ?_
        rintro e w2 ⟨rfl, hb2⟩
        obtain ⟨hc2, hf2, hs2⟩ := bcell hb2
        (try (refine cut_ (p := w.heap.size < w2.heap.size) ?_ ?_; (focus (refine hs2 _ ?_; first | assumption | omega | (simp [go_sem]; done) | (simp [go_sem]; omega))); intro hl2a))
        (try (refine cut_ (p := w.heap.size + 1 < w2.heap.size) ?_ ?_; (focus (refine hs2 _ ?_; first | assumption | omega | (simp [go_sem]; done) | (simp [go_sem]; omega))); intro hl2b))
        (try (refine cut_ (p := w.heap.size + 1 + 1 < w2.heap.size) ?_ ?_; (focus (refine hs2 _ ?_; first | assumption | omega | (simp [go_sem]; done) | (simp [go_sem]; omega))); intro hl2c))
        have B2 : Below w.heap.size w w2 := by (repeat (first | with_reducible exact Below.refl _ _ | with_reducible refine below_alloc ?_ _ | with_reducible refine below_drewN ?_ _ | with_reducible refine Below.drew ?_ | ((with_reducible refine below_set ?_ ?_ _); rotate_left; (focus (first | (simp; done) | (simp; omega) | omega))) | with_reducible refine below_call ?_ (by assumption)))
        have l2 : w2.cell? ⟨w.heap.size, 0, none⟩ = some (.slice A n c) := by simp [go_sem, hc2, hc1, *]
        have z2 : w.heap.size < w2.heap.size := by omega
        clear hc1 hf1 hs1 hb1 hc2 hf2 hs2 hb2
        go_wp2_with (go_at_call 31; refine (isBlows_any _ _).mono ?_; rintro e w' ⟨rfl, rfl⟩)
        go_loopw [8] (fun t wr => ∃ k : Nat, t = .int .i64 k ∧ k ≤ n ∧ Hid (∀ j, j < k → zs.getD ((x + j) % n) 0 ≠ bl) ∧ wr.cell? ⟨w.heap.size, 0, none⟩ = some (.slice A n c) ∧ w.heap.size < wr.heap.size ∧ Below w.heap.size w wr) (fun t _ => n - (intOf t).toNat)
        case atStart => exact ⟨0, rfl, Nat.zero_le _, Lib.hid (fun j hj => absurd hj (by omega)), l2, z2, B2⟩
        case round =>
          obtain ⟨k, rfl, hk, hj, hbx, hlt0, hBw⟩ := hrel
          clear l2 z2 B2
          by_cases hlt : k < n
          · have hg := fun (W : World) (h1 : Ints W w.heap.size A n zs) (h2 : w.heap.size ≤ W.heap.size) => gapAt_any A n c w.heap.size zs ((x : Int) + (k : Int)) W h1 h2 v2 hn (by omega) (by omega)
            have e1 : ((x : Int) + (k : Int)).toNat = x + k := by omega
            simp only [e1] at hg
            obtain ⟨y, hy⟩ : ∃ y, zs.getD ((x + k) % n) 0 = y := ⟨_, rfl⟩
            simp only [hy] at hg
            have HG := Lib.hid hg
            have HY := Lib.hid hy
            clear hg hy e1
            by_cases hyb : y = bl
            · have hq : (y == bl) = true := by simpa using hyb
              have HQ := Lib.hid hyb
              clear hyb
              go_wp2_with (go_at_call 32; refine (HG.out _ (Ints.below H.out hBw) (by omega)).mono ?_; rintro e w3 ⟨rfl, hb3⟩)
              go_ret2
              refine ⟨?_, by (repeat (first | with_reducible exact Below.refl _ _ | with_reducible refine below_alloc ?_ _ | with_reducible refine below_drewN ?_ _ | with_reducible refine Below.drew ?_ | ((with_reducible refine below_set ?_ ?_ _); rotate_left; (focus (first | (simp; done) | (simp; omega) | omega))) | with_reducible refine below_call ?_ (by assumption)))⟩
              rw [HT.out, firstT_of (k := k) ⟨by rw [manyL_len]; exact hlt, by rw [manyL_getD hlt, HY.out, HQ.out], fun j hj2 => by rw [manyL_getD (by omega)]; exact hj.out j hj2⟩]
              rfl
            · have hq : (y == bl) = false := by simpa using hyb
              have HQ := Lib.hid hyb
              clear hyb
              go_wp2_with (go_at_call 32; refine (HG.out _ (Ints.below H.out hBw) (by omega)).mono ?_; rintro e w3 ⟨rfl, hb3⟩)
              go_roundw
              case rel =>
                refine ⟨k + 1, by go_num, by omega, Lib.hid (fun j hj2 => ?_), cell_call hb3 hlt0 hbx, lt_call hb3 hlt0, hBw.trans (hb3.mono (by omega))⟩
                by_cases e : j = k
                · subst e; rw [HY.out]; exact HQ.out
                · exact hj.out j (by omega)
              case measure => simp [intOf]; omega
          · have HE := Lib.hid (show k = n by omega)
            go_wp2
            go_ret2
            refine ⟨?_, hBw⟩
            rw [HT.out, firstT_none (fun j hj2 => by rw [manyL_len] at hj2; rw [manyL_getD hj2]; exact hj.out j (by rw [HE.out]; exact hj2))]
            rfl
set_option maxHeartbeats 4000000 in
theorem specLiftsUntil_any (A : Option Addr) (n c B : Nat) (zs : List Int) (x bl : Int) (w : World) (h : Ints w B A n zs) (hB : B ≤ w.heap.size) (hn : n ≤ 1048576) :
    Calls Try.prog 8 #[.agg #[.slice A n c], .int .i64 x, .int .i64 bl] w fun e w' => e = .returned (liftsT zs n x bl) ∧ Below w.heap.size w w' := by
  have hl := h.len
  have H := Lib.hid (h.more hB)
  clear h
  have hC := fun (w' : World) (h' : Ints w' w.heap.size A n zs) (hB : w.heap.size ≤ w'.heap.size) => l20Code_any A n c w.heap.size zs x w' h' hB hn
  cases hv : vWheel zs
  · rw [lifts_bad hv]
    simp only [code_bad hv] at hC
    have HC := Lib.hid hC
    clear hC
    go_enter Try.func8, Try.ntmps8
    go_wp2_with fail
    refine (HC.out _ (by exact Ints.below (H.out) (by (repeat (first | with_reducible exact Below.refl _ _ | with_reducible refine below_alloc ?_ _ | with_reducible refine below_drewN ?_ _ | with_reducible refine Below.drew ?_ | ((with_reducible refine below_set ?_ ?_ _); rotate_left; (focus (first | (simp; done) | (simp; omega) | omega))) | with_reducible refine below_call ?_ (by assumption))))) (by exact Below.size (B := w.heap.size) (w := w) (by (repeat (first | with_reducible exact Below.refl _ _ | with_reducible refine below_alloc ?_ _ | with_reducible refine below_drewN ?_ _ | with_reducible refine Below.drew ?_ | ((with_reducible refine below_set ?_ ?_ _); rotate_left; (focus (first | (simp; done) | (simp; omega) | omega))) | with_reducible refine below_call ?_ (by assumption)))))).mono ?_
    rintro e w1 ⟨rfl, hb1⟩
    obtain ⟨hc1, hf1, hs1⟩ := bcell hb1
    (try (refine cut_ (p := w.heap.size < w1.heap.size) ?_ ?_; (focus (refine hs1 _ ?_; first | assumption | omega | (simp [go_sem]; done) | (simp [go_sem]; omega))); intro hl1a))
    (try (refine cut_ (p := w.heap.size + 1 < w1.heap.size) ?_ ?_; (focus (refine hs1 _ ?_; first | assumption | omega | (simp [go_sem]; done) | (simp [go_sem]; omega))); intro hl1b))
    (try (refine cut_ (p := w.heap.size + 1 + 1 < w1.heap.size) ?_ ?_; (focus (refine hs1 _ ?_; first | assumption | omega | (simp [go_sem]; done) | (simp [go_sem]; omega))); intro hl1c))
    go_wp2_with (go_at_call 34; refine (l20Blows_any _ _).mono ?_; rintro e w' ⟨rfl, rfl⟩)
    go_ret2
    exact ⟨rfl, by (repeat (first | with_reducible exact Below.refl _ _ | with_reducible refine below_alloc ?_ _ | with_reducible refine below_drewN ?_ _ | with_reducible refine Below.drew ?_ | ((with_reducible refine below_set ?_ ?_ _); rotate_left; (focus (first | (simp; done) | (simp; omega) | omega))) | with_reducible refine below_call ?_ (by assumption)))⟩
  · cases hi : inB x 0 ((n : Int) - 1)
    · rw [lifts_far hv (by rw [hi]; rfl)]
      simp only [code_far hv hi] at hC
      have HC := Lib.hid hC
      clear hC
      go_enter Try.func8, Try.ntmps8
      go_wp2_with fail
      refine (HC.out _ (by exact Ints.below (H.out) (by (repeat (first | with_reducible exact Below.refl _ _ | with_reducible refine below_alloc ?_ _ | with_reducible refine below_drewN ?_ _ | with_reducible refine Below.drew ?_ | ((with_reducible refine below_set ?_ ?_ _); rotate_left; (focus (first | (simp; done) | (simp; omega) | omega))) | with_reducible refine below_call ?_ (by assumption))))) (by exact Below.size (B := w.heap.size) (w := w) (by (repeat (first | with_reducible exact Below.refl _ _ | with_reducible refine below_alloc ?_ _ | with_reducible refine below_drewN ?_ _ | with_reducible refine Below.drew ?_ | ((with_reducible refine below_set ?_ ?_ _); rotate_left; (focus (first | (simp; done) | (simp; omega) | omega))) | with_reducible refine below_call ?_ (by assumption)))))).mono ?_
      rintro e w1 ⟨rfl, hb1⟩
      obtain ⟨hc1, hf1, hs1⟩ := bcell hb1
      (try (refine cut_ (p := w.heap.size < w1.heap.size) ?_ ?_; (focus (refine hs1 _ ?_; first | assumption | omega | (simp [go_sem]; done) | (simp [go_sem]; omega))); intro hl1a))
      (try (refine cut_ (p := w.heap.size + 1 < w1.heap.size) ?_ ?_; (focus (refine hs1 _ ?_; first | assumption | omega | (simp [go_sem]; done) | (simp [go_sem]; omega))); intro hl1b))
      (try (refine cut_ (p := w.heap.size + 1 + 1 < w1.heap.size) ?_ ?_; (focus (refine hs1 _ ?_; first | assumption | omega | (simp [go_sem]; done) | (simp [go_sem]; omega))); intro hl1c))
      go_wp2_with (go_at_call 34; refine (l20Blows_any _ _).mono ?_; rintro e w' ⟨rfl, rfl⟩)
      go_ret2
      exact ⟨rfl, by (repeat (first | with_reducible exact Below.refl _ _ | with_reducible refine below_alloc ?_ _ | with_reducible refine below_drewN ?_ _ | with_reducible refine Below.drew ?_ | ((with_reducible refine below_set ?_ ?_ _); rotate_left; (focus (first | (simp; done) | (simp; omega) | omega))) | with_reducible refine below_call ?_ (by assumption)))⟩
    · simp only [code_ok hv hi] at hC
      have HC := Lib.hid hC
      clear hC
      cases hb : inB bl 1 12
      · rw [lifts_far hv (by rw [hi, hb]; rfl)]
        go_enter Try.func8, Try.ntmps8
        go_wp2_with fail
        refine (HC.out _ (by exact Ints.below (H.out) (by (repeat (first | with_reducible exact Below.refl _ _ | with_reducible refine below_alloc ?_ _ | with_reducible refine below_drewN ?_ _ | with_reducible refine Below.drew ?_ | ((with_reducible refine below_set ?_ ?_ _); rotate_left; (focus (first | (simp; done) | (simp; omega) | omega))) | with_reducible refine below_call ?_ (by assumption))))) (by exact Below.size (B := w.heap.size) (w := w) (by (repeat (first | with_reducible exact Below.refl _ _ | with_reducible refine below_alloc ?_ _ | with_reducible refine below_drewN ?_ _ | with_reducible refine Below.drew ?_ | ((with_reducible refine below_set ?_ ?_ _); rotate_left; (focus (first | (simp; done) | (simp; omega) | omega))) | with_reducible refine below_call ?_ (by assumption)))))).mono ?_
        rintro e w1 ⟨rfl, hb1⟩
        obtain ⟨hc1, hf1, hs1⟩ := bcell hb1
        (try (refine cut_ (p := w.heap.size < w1.heap.size) ?_ ?_; (focus (refine hs1 _ ?_; first | assumption | omega | (simp [go_sem]; done) | (simp [go_sem]; omega))); intro hl1a))
        (try (refine cut_ (p := w.heap.size + 1 < w1.heap.size) ?_ ?_; (focus (refine hs1 _ ?_; first | assumption | omega | (simp [go_sem]; done) | (simp [go_sem]; omega))); intro hl1b))
        (try (refine cut_ (p := w.heap.size + 1 + 1 < w1.heap.size) ?_ ?_; (focus (refine hs1 _ ?_; first | assumption | omega | (simp [go_sem]; done) | (simp [go_sem]; omega))); intro hl1c))
        go_wp2_with (go_at_call 34; refine (l20Blows_any _ _).mono ?_; rintro e w' ⟨rfl, rfl⟩)
        go_ret2
        exact ⟨rfl, by (repeat (first | with_reducible exact Below.refl _ _ | with_reducible refine below_alloc ?_ _ | with_reducible refine below_drewN ?_ _ | with_reducible refine Below.drew ?_ | ((with_reducible refine below_set ?_ ?_ _); rotate_left; (focus (first | (simp; done) | (simp; omega) | omega))) | with_reducible refine below_call ?_ (by assumption)))⟩
      · have hx := inB_yes hi
        obtain ⟨v1, v2, v3⟩ := vWheel_yes hv
        have hT := lifts_ok (zs := zs) (n := n) hv (show (inB x 0 ((n : Int) - 1) && inB bl 1 12) = true by rw [hi, hb]; rfl)
        obtain ⟨x, rfl⟩ := Int.eq_ofNat_of_zero_le hx.1
        rw [Int.toNat_natCast] at hT
        rw [hl] at v2
        obtain ⟨V, hV⟩ : ∃ V, liftsT zs n x bl = V := ⟨_, rfl⟩
        rw [hV] at hT ⊢
        have HT := Lib.hid hT
        clear hT hV v1 v3 hl
        go_enter Try.func8, Try.ntmps8
        go_wp2_with fail
        refine (HC.out _ (by exact Ints.below (H.out) (by (repeat (first | with_reducible exact Below.refl _ _ | with_reducible refine below_alloc ?_ _ | with_reducible refine below_drewN ?_ _ | with_reducible refine Below.drew ?_ | ((with_reducible refine below_set ?_ ?_ _); rotate_left; (focus (first | (simp; done) | (simp; omega) | omega))) | with_reducible refine below_call ?_ (by assumption))))) (by exact Below.size (B := w.heap.size) (w := w) (by (repeat (first | with_reducible exact Below.refl _ _ | with_reducible refine below_alloc ?_ _ | with_reducible refine below_drewN ?_ _ | with_reducible refine Below.drew ?_ | ((with_reducible refine below_set ?_ ?_ _); rotate_left; (focus (first | (simp; done) | (simp; omega) | omega))) | with_reducible refine below_call ?_ (by assumption)))))).mono ?_
        rintro e w1 ⟨rfl, hb1⟩
        obtain ⟨hc1, hf1, hs1⟩ := bcell hb1
        (try (refine cut_ (p := w.heap.size < w1.heap.size) ?_ ?_; (focus (refine hs1 _ ?_; first | assumption | omega | (simp [go_sem]; done) | (simp [go_sem]; omega))); intro hl1a))
        (try (refine cut_ (p := w.heap.size + 1 < w1.heap.size) ?_ ?_; (focus (refine hs1 _ ?_; first | assumption | omega | (simp [go_sem]; done) | (simp [go_sem]; omega))); intro hl1b))
        (try (refine cut_ (p := w.heap.size + 1 + 1 < w1.heap.size) ?_ ?_; (focus (refine hs1 _ ?_; first | assumption | omega | (simp [go_sem]; done) | (simp [go_sem]; omega))); intro hl1c))
        have B1 : Below w.heap.size w w1 := by (repeat (first | with_reducible exact Below.refl _ _ | with_reducible refine below_alloc ?_ _ | with_reducible refine below_drewN ?_ _ | with_reducible refine Below.drew ?_ | ((with_reducible refine below_set ?_ ?_ _); rotate_left; (focus (first | (simp; done) | (simp; omega) | omega))) | with_reducible refine below_call ?_ (by assumption)))
        have l1 : w1.cell? ⟨w.heap.size, 0, none⟩ = some (.slice A n c) := by simp [go_sem, hc1, *]
        have z1 : w.heap.size < w1.heap.size := by omega
        clear hc1 hf1 hs1 hb1
        go_wp2_with (first | (go_at_call 34; refine (l20Blows_any _ _).mono ?_; rintro e w' ⟨rfl, rfl⟩) | (go_at_call 35; refine (l20Many_any A n c w.heap.size zs x n _ (Ints.below H.out B1) (by omega) v2 hn (by omega) hn).mono ?_; rintro e w2 ⟨L, m, c2, rfl, ho2, hb2⟩; obtain rfl : n = m := (by rw [← ho2.len, manyL_len]); have I2 := Lib.hid (ho2.ints (Nat.le_refl _)); clear ho2))
        go_loop [10] (fun t => ∃ k : Nat, t = .int .i64 k ∧ k ≤ n ∧ Hid (∀ j, j < k → zs.getD ((x + j) % n) 0 ≠ bl)) (fun t => n - (intOf t).toNat)
        case atStart => exact ⟨0, rfl, Nat.zero_le _, Lib.hid (fun j hj => absurd hj (by omega))⟩
        case round =>
          obtain ⟨k, rfl, hk, hj⟩ := hrel
          by_cases hlt : k < n
          · obtain ⟨b, off, rfl, hbl, hc⟩ := I2.out.at_ hlt
            rw [manyL_getD hlt] at hc
            obtain ⟨y, hy⟩ : ∃ y, zs.getD ((x + k) % n) 0 = y := ⟨_, rfl⟩
            rw [hy] at hc
            have HY := Lib.hid hy
            clear hy
            by_cases hyb : y = bl
            · have hq : (y == bl) = true := by simpa using hyb
              have HQ := Lib.hid hyb
              clear hyb
              go_wp2
              go_ret2
              refine ⟨?_, B1.trans (hb2.mono (by omega))⟩
              rw [HT.out, firstT_of (k := k) ⟨by rw [manyL_len]; exact hlt, by rw [manyL_getD hlt, HY.out, HQ.out], fun j hj2 => by rw [manyL_getD (by omega)]; exact hj.out j hj2⟩]
              rfl
            · have hq : (y == bl) = false := by simpa using hyb
              have HQ := Lib.hid hyb
              clear hyb
              go_wp2
              go_round
              case rel =>
                refine ⟨k + 1, by go_num, by omega, Lib.hid (fun j hj2 => ?_)⟩
                by_cases e : j = k
                · subst e; rw [HY.out]; exact HQ.out
                · exact hj.out j (by omega)
              case measure => simp [intOf]; omega
          · have HE := Lib.hid (show k = n by omega)
            go_wp2
            go_ret2
            refine ⟨?_, B1.trans (hb2.mono (by omega))⟩
            rw [HT.out, firstT_none (fun j hj2 => by rw [manyL_len] at hj2; rw [manyL_getD hj2]; exact hj.out j (by rw [HE.out]; exact hj2))]
            rfl
end Go.Proofs.Ytlnoolnbpohjhaa
