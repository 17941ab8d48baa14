/- Contracts of the two functions WrongStrikes. No conditions but that the slices have at most 2^20 elements. -/
import Derived.Test.YtlnoolnbpohjhaaMany
import Derived.Test.YtlnoolnbpohjhaaLawKit
namespace Go.Proofs.Ytlnoolnbpohjhaa
open Go.RowKit
set_option linter.unusedVariables false
set_option linter.unusedSimpArgs false
/-- among the first k of ys is one that is no number of blows, or ys is too long -/
def badK (ys : List Int) (m : Nat) : Nat → Bool
  | 0 => decide ((500 : Int) < (m : Int))
  | k + 1 => badK ys m k || !inB (ys.getD k 0) 1 12
theorem badK_long {ys : List Int} {m : Nat} (h : 500 < m) : ∀ k, badK ys m k = true
  | 0 => by simp [badK]; omega
  | k + 1 => by simp [badK, badK_long h k]
theorem badK_at {ys : List Int} {m j : Nat} (h : inB (ys.getD j 0) 1 12 = false) : ∀ k, j < k → badK ys m k = true
  | 0, hk => by omega
  | k + 1, hk => by
    by_cases e : j = k
    · subst e; rw [badK, h]; simp
    · rw [badK, badK_at (m := m) h k (by omega)]; rfl
theorem badK_good {ys : List Int} {m : Nat} (h : m ≤ 500) : ∀ k, (∀ j, j < k → inB (ys.getD j 0) 1 12 = true) → badK ys m k = false
  | 0, _ => by simp [badK]; omega
  | k + 1, hk => by rw [badK, badK_good h k (fun j hj => hk j (by omega)), hk k (by omega)]; rfl
theorem badK_len {ys : List Int} {m : Nat} {k : Nat} (h : badK ys m k = false) : m ≤ 500 := by
  by_cases e : m ≤ 500
  · exact e
  · rw [badK_long (by omega)] at h; cases h
/-- the places of the first k strikes that are not as expected -/
def wrongK (zs ys : List Int) (n x : Nat) : Nat → List Int
  | 0 => []
  | k + 1 => if zs.getD ((x + k) % n) 0 = ys.getD k 0 then wrongK zs ys n x k else wrongK zs ys n x k ++ [(k : Int)]
theorem wrongK_len (zs ys : List Int) (n x : Nat) : ∀ k, (wrongK zs ys n x k).length ≤ k
  | 0 => by simp [wrongK]
  | k + 1 => by
    have := wrongK_len zs ys n x k
    simp only [wrongK]
    split
    · omega
    · simp; omega
def wrL (zs ys : List Int) (n m : Nat) (x : Int) : List Int := if vWheel zs then if inB x 0 ((n : Int) - 1) && !badK ys m m then wrongK zs ys n x.toNat m else [] else []
def wrC (zs ys : List Int) (n m : Nat) (x : Int) : Int := if vWheel zs then if inB x 0 ((n : Int) - 1) && !badK ys m m then 0 else 2 else 1
theorem wrL_len (zs ys : List Int) (n m : Nat) (x : Int) (h : m ≤ 1048576) : (wrL zs ys n m x).length ≤ 1048576 := by
  unfold wrL
  split
  · split
    · have := wrongK_len zs ys n x.toNat m; omega
    · simp
  · simp
theorem wr_bad {zs ys : List Int} {n m : Nat} {x : Int} (h : vWheel zs = false) : wrL zs ys n m x = [] ∧ wrC zs ys n m x = 1 := by simp [wrL, wrC, h]
theorem wr_far {zs ys : List Int} {n m : Nat} {x : Int} (h : vWheel zs = true) (h' : (inB x 0 ((n : Int) - 1) && !badK ys m m) = false) : wrL zs ys n m x = [] ∧ wrC zs ys n m x = 2 := by simp only [wrL, wrC, h, h']; exact ⟨rfl, rfl⟩
theorem wr_ok {zs ys : List Int} {n m : Nat} {x : Nat} (h : vWheel zs = true) (h' : (inB (x : Int) 0 ((n : Int) - 1) && !badK ys m m) = true) : wrL zs ys n m x = wrongK zs ys n x m ∧ wrC zs ys n m x = 0 := by simp only [wrL, wrC, h, h']; exact ⟨rfl, rfl⟩
set_option maxHeartbeats 4000000 in
theorem WrongStrikes_any (A E : Option Addr) (n c B m c' B' : Nat) (zs ys : List Int) (x : Int) (w : World) (h : Ints w B A n zs) (hB : B ≤ w.heap.size) (h' : Ints w B' E m ys) (hB' : B' ≤ w.heap.size) (hn : n ≤ 1048576) (hm : m ≤ 1048576) :
    Calls Try.prog 10 #[.agg #[.slice A n c], .int .i64 x, .slice E m c'] w (NewIntsCode w (wrL zs ys n m x) (wrC zs ys n m x)) := by
  have hl := h.len
  have H := Lib.hid (h.more hB)
  have H' := Lib.hid (h'.more hB')
  clear h h'
  cases hv : vWheel zs
  · rw [(wr_bad hv).1, (wr_bad hv).2]
    go_enter Try.func10, Try.ntmps10
    go_wp2_with fail
    refine (ValidCountWheel_any _ _ _ _ zs _ (by exact Ints.below (H.out) (by (repeat (first | with_reducible exact Below.refl _ _ | with_reducible refine below_alloc ?_ _ | with_reducible refine below_drewN ?_ _ | with_reducible refine Below.drew ?_ | ((with_reducible refine below_set ?_ ?_ _); rotate_left; (focus (first | (simp; done) | (simp; omega) | omega))) | with_reducible refine below_call ?_ (by assumption))))) (by exact Below.size (B := w.heap.size) (w := w) (by (repeat (first | with_reducible exact Below.refl _ _ | with_reducible refine below_alloc ?_ _ | with_reducible refine below_drewN ?_ _ | with_reducible refine Below.drew ?_ | ((with_reducible refine below_set ?_ ?_ _); rotate_left; (focus (first | (simp; done) | (simp; omega) | omega))) | with_reducible refine below_call ?_ (by assumption))))) hn).mono ?_
    rintro e w1 ⟨rfl, hb1⟩
    obtain ⟨hc1, hf1, hs1⟩ := bcell hb1
    (try (refine cut_ (p := w.heap.size < w1.heap.size) ?_ ?_; (focus (refine hs1 _ ?_; first | assumption | omega | (simp [go_sem]; done) | (simp [go_sem]; omega))); intro hl1a))
    (try (refine cut_ (p := w.heap.size + 1 < w1.heap.size) ?_ ?_; (focus (refine hs1 _ ?_; first | assumption | omega | (simp [go_sem]; done) | (simp [go_sem]; omega))); intro hl1b))
    (try (refine cut_ (p := w.heap.size + 1 + 1 < w1.heap.size) ?_ ?_; (focus (refine hs1 _ ?_; first | assumption | omega | (simp [go_sem]; done) | (simp [go_sem]; omega))); intro hl1c))
    go_wp2
    go_ret2
    exact ⟨none, 0, 0, rfl, Own.nil_, by (repeat (first | with_reducible exact Below.refl _ _ | with_reducible refine below_alloc ?_ _ | with_reducible refine below_drewN ?_ _ | with_reducible refine Below.drew ?_ | ((with_reducible refine below_set ?_ ?_ _); rotate_left; (focus (first | (simp; done) | (simp; omega) | omega))) | with_reducible refine below_call ?_ (by assumption)))⟩
  · cases hi : inB x 0 ((n : Int) - 1)
    · rw [(wr_far hv (by rw [hi]; rfl)).1, (wr_far hv (by rw [hi]; rfl)).2]
      go_enter Try.func10, Try.ntmps10
      go_wp2_with fail
      refine (ValidCountWheel_any _ _ _ _ zs _ (by exact Ints.below (H.out) (by (repeat (first | with_reducible exact Below.refl _ _ | with_reducible refine below_alloc ?_ _ | with_reducible refine below_drewN ?_ _ | with_reducible refine Below.drew ?_ | ((with_reducible refine below_set ?_ ?_ _); rotate_left; (focus (first | (simp; done) | (simp; omega) | omega))) | with_reducible refine below_call ?_ (by assumption))))) (by exact Below.size (B := w.heap.size) (w := w) (by (repeat (first | with_reducible exact Below.refl _ _ | with_reducible refine below_alloc ?_ _ | with_reducible refine below_drewN ?_ _ | with_reducible refine Below.drew ?_ | ((with_reducible refine below_set ?_ ?_ _); rotate_left; (focus (first | (simp; done) | (simp; omega) | omega))) | with_reducible refine below_call ?_ (by assumption))))) hn).mono ?_
      rintro e w1 ⟨rfl, hb1⟩
      obtain ⟨hc1, hf1, hs1⟩ := bcell hb1
      (try (refine cut_ (p := w.heap.size < w1.heap.size) ?_ ?_; (focus (refine hs1 _ ?_; first | assumption | omega | (simp [go_sem]; done) | (simp [go_sem]; omega))); intro hl1a))
      (try (refine cut_ (p := w.heap.size + 1 < w1.heap.size) ?_ ?_; (focus (refine hs1 _ ?_; first | assumption | omega | (simp [go_sem]; done) | (simp [go_sem]; omega))); intro hl1b))
      (try (refine cut_ (p := w.heap.size + 1 + 1 < w1.heap.size) ?_ ?_; (focus (refine hs1 _ ?_; first | assumption | omega | (simp [go_sem]; done) | (simp [go_sem]; omega))); intro hl1c))
      go_wp2_with fail
      refine (isNotch_any _ _ _ _ _ hn).mono ?_
      rintro e w2 ⟨rfl, hb2⟩
      obtain ⟨hc2, hf2, hs2⟩ := bcell hb2
      (try (refine cut_ (p := w.heap.size < w2.heap.size) ?_ ?_; (focus (refine hs2 _ ?_; first | assumption | omega | (simp [go_sem]; done) | (simp [go_sem]; omega))); intro hl2a))
      (try (refine cut_ (p := w.heap.size + 1 < w2.heap.size) ?_ ?_; (focus (refine hs2 _ ?_; first | assumption | omega | (simp [go_sem]; done) | (simp [go_sem]; omega))); intro hl2b))
      (try (refine cut_ (p := w.heap.size + 1 + 1 < w2.heap.size) ?_ ?_; (focus (refine hs2 _ ?_; first | assumption | omega | (simp [go_sem]; done) | (simp [go_sem]; omega))); intro hl2c))
      go_wp2
      go_ret2
      exact ⟨none, 0, 0, rfl, Own.nil_, by (repeat (first | with_reducible exact Below.refl _ _ | with_reducible refine below_alloc ?_ _ | with_reducible refine below_drewN ?_ _ | with_reducible refine Below.drew ?_ | ((with_reducible refine below_set ?_ ?_ _); rotate_left; (focus (first | (simp; done) | (simp; omega) | omega))) | with_reducible refine below_call ?_ (by assumption)))⟩
    · by_cases hlong : 500 < m
      · have hf := wr_far (ys := ys) (m := m) hv (by rw [hi, badK_long hlong]; rfl)
        rw [hf.1, hf.2]
        clear hf
        go_enter Try.func10, Try.ntmps10
        go_wp2_with fail
        refine (ValidCountWheel_any _ _ _ _ zs _ (by exact Ints.below (H.out) (by (repeat (first | with_reducible exact Below.refl _ _ | with_reducible refine below_alloc ?_ _ | with_reducible refine below_drewN ?_ _ | with_reducible refine Below.drew ?_ | ((with_reducible refine below_set ?_ ?_ _); rotate_left; (focus (first | (simp; done) | (simp; omega) | omega))) | with_reducible refine below_call ?_ (by assumption))))) (by exact Below.size (B := w.heap.size) (w := w) (by (repeat (first | with_reducible exact Below.refl _ _ | with_reducible refine below_alloc ?_ _ | with_reducible refine below_drewN ?_ _ | with_reducible refine Below.drew ?_ | ((with_reducible refine below_set ?_ ?_ _); rotate_left; (focus (first | (simp; done) | (simp; omega) | omega))) | with_reducible refine below_call ?_ (by assumption))))) hn).mono ?_
        rintro e w1 ⟨rfl, hb1⟩
        obtain ⟨hc1, hf1, hs1⟩ := bcell hb1
        (try (refine cut_ (p := w.heap.size < w1.heap.size) ?_ ?_; (focus (refine hs1 _ ?_; first | assumption | omega | (simp [go_sem]; done) | (simp [go_sem]; omega))); intro hl1a))
        (try (refine cut_ (p := w.heap.size + 1 < w1.heap.size) ?_ ?_; (focus (refine hs1 _ ?_; first | assumption | omega | (simp [go_sem]; done) | (simp [go_sem]; omega))); intro hl1b))
        (try (refine cut_ (p := w.heap.size + 1 + 1 < w1.heap.size) ?_ ?_; (focus (refine hs1 _ ?_; first | assumption | omega | (simp [go_sem]; done) | (simp [go_sem]; omega))); intro hl1c))
        go_wp2_with fail
        refine (isNotch_any _ _ _ _ _ hn).mono ?_
        rintro e w2 ⟨rfl, hb2⟩
        obtain ⟨hc2, hf2, hs2⟩ := bcell hb2
        (try (refine cut_ (p := w.heap.size < w2.heap.size) ?_ ?_; (focus (refine hs2 _ ?_; first | assumption | omega | (simp [go_sem]; done) | (simp [go_sem]; omega))); intro hl2a))
        (try (refine cut_ (p := w.heap.size + 1 < w2.heap.size) ?_ ?_; (focus (refine hs2 _ ?_; first | assumption | omega | (simp [go_sem]; done) | (simp [go_sem]; omega))); intro hl2b))
        (try (refine cut_ (p := w.heap.size + 1 + 1 < w2.heap.size) ?_ ?_; (focus (refine hs2 _ ?_; first | assumption | omega | (simp [go_sem]; done) | (simp [go_sem]; omega))); intro hl2c))
        go_wp2
        go_ret2
        exact ⟨none, 0, 0, rfl, Own.nil_, by (repeat (first | with_reducible exact Below.refl _ _ | with_reducible refine below_alloc ?_ _ | with_reducible refine below_drewN ?_ _ | with_reducible refine Below.drew ?_ | ((with_reducible refine below_set ?_ ?_ _); rotate_left; (focus (first | (simp; done) | (simp; omega) | omega))) | with_reducible refine below_call ?_ (by assumption)))⟩
      · have hx := inB_yes hi
        obtain ⟨v1, v2, v3⟩ := vWheel_yes hv
        obtain ⟨x, rfl⟩ := Int.eq_ofNat_of_zero_le hx.1
        have hbad := @wr_far zs ys n m x hv
        have hgood := @wr_ok zs ys n m x hv
        rw [hi] at hbad hgood
        generalize wrL zs ys n m x = G at *
        generalize wrC zs ys n m x = cd at *
        have HBAD := Lib.hid hbad
        have HGOOD := Lib.hid hgood
        rw [hl] at v2
        clear v1 v3 hl hbad hgood
        go_enter Try.func10, Try.ntmps10
        go_wp2_with fail
        refine (ValidCountWheel_any _ _ _ _ zs _ (by exact Ints.below (H.out) (by (repeat (first | with_reducible exact Below.refl _ _ | with_reducible refine below_alloc ?_ _ | with_reducible refine below_drewN ?_ _ | with_reducible refine Below.drew ?_ | ((with_reducible refine below_set ?_ ?_ _); rotate_left; (focus (first | (simp; done) | (simp; omega) | omega))) | with_reducible refine below_call ?_ (by assumption))))) (by exact Below.size (B := w.heap.size) (w := w) (by (repeat (first | with_reducible exact Below.refl _ _ | with_reducible refine below_alloc ?_ _ | with_reducible refine below_drewN ?_ _ | with_reducible refine Below.drew ?_ | ((with_reducible refine below_set ?_ ?_ _); rotate_left; (focus (first | (simp; done) | (simp; omega) | omega))) | with_reducible refine below_call ?_ (by assumption))))) hn).mono ?_
        rintro e w1 ⟨rfl, hb1⟩
        obtain ⟨hc1, hf1, hs1⟩ := bcell hb1
        (try (refine cut_ (p := w.heap.size < w1.heap.size) ?_ ?_; (focus (refine hs1 _ ?_; first | assumption | omega | (simp [go_sem]; done) | (simp [go_sem]; omega))); intro hl1a))
        (try (refine cut_ (p := w.heap.size + 1 < w1.heap.size) ?_ ?_; (focus (refine hs1 _ ?_; first | assumption | omega | (simp [go_sem]; done) | (simp [go_sem]; omega))); intro hl1b))
        (try (refine cut_ (p := w.heap.size + 1 + 1 < w1.heap.size) ?_ ?_; (focus (refine hs1 _ ?_; first | assumption | omega | (simp [go_sem]; done) | (simp [go_sem]; omega))); intro hl1c))
        go_wp2_with fail
        refine (isNotch_any _ _ _ _ _ hn).mono ?_
        rintro e w2 ⟨rfl, hb2⟩
        obtain ⟨hc2, hf2, hs2⟩ := bcell hb2
        (try (refine cut_ (p := w.heap.size < w2.heap.size) ?_ ?_; (focus (refine hs2 _ ?_; first | assumption | omega | (simp [go_sem]; done) | (simp [go_sem]; omega))); intro hl2a))
        (try (refine cut_ (p := w.heap.size + 1 < w2.heap.size) ?_ ?_; (focus (refine hs2 _ ?_; first | assumption | omega | (simp [go_sem]; done) | (simp [go_sem]; omega))); intro hl2b))
        (try (refine cut_ (p := w.heap.size + 1 + 1 < w2.heap.size) ?_ ?_; (focus (refine hs2 _ ?_; first | assumption | omega | (simp [go_sem]; done) | (simp [go_sem]; omega))); intro hl2c))
        have B2 : Below w.heap.size w w2 := by (repeat (first | with_reducible exact Below.refl _ _ | with_reducible refine below_alloc ?_ _ | with_reducible refine below_drewN ?_ _ | with_reducible refine Below.drew ?_ | ((with_reducible refine below_set ?_ ?_ _); rotate_left; (focus (first | (simp; done) | (simp; omega) | omega))) | with_reducible refine below_call ?_ (by assumption)))
        have l2 : w2.cell? ⟨w.heap.size, 0, none⟩ = some (.slice A n c) := by simp [go_sem, hc2, hc1, *]
        have z2 : w.heap.size < w2.heap.size := by omega
        clear hc1 hf1 hs1 hb1 hc2 hf2 hs2 hb2
        have H2 := Lib.hid (Ints.below H'.out B2)
        go_wp2
        go_loop [9, 27] (fun _ t => ∃ k : Nat, t = .int .i64 k ∧ k ≤ m ∧ Hid (∀ j, j < k → inB (ys.getD j 0) 1 12 = true)) (fun _ t => m - (intOf t).toNat)
        case atStart => exact ⟨0, rfl, Nat.zero_le _, Lib.hid (fun j hj => absurd hj (by omega))⟩
        case round =>
          obtain ⟨k, rfl, hk, hj⟩ := hrel
          by_cases hlt : k < m
          · obtain ⟨b, off, rfl, hbl, hc⟩ := H2.out.at_ hlt
            obtain ⟨y, hy⟩ : ∃ y, ys.getD k 0 = y := ⟨_, rfl⟩
            rw [hy] at hc
            have HY := Lib.hid hy
            clear hy
            cases hyi : inB y 1 12
            · have HF := Lib.hid (HBAD.out (by rw [badK_at (by rw [HY.out]; exact hyi) m hlt]; rfl))
              go_wp2_with (go_at_call 31; refine (isBlows_any _ _).mono ?_; rintro e w' ⟨rfl, rfl⟩)
              go_ret2
              refine ⟨none, 0, 0, ?_, ?_, B2⟩
              · rw [HF.out.2]; rfl
              · rw [HF.out.1]; exact Own.nil_
            · go_wp2_with (go_at_call 31; refine (isBlows_any _ _).mono ?_; rintro e w' ⟨rfl, rfl⟩)
              go_round
              case rel =>
                refine ⟨k + 1, by go_num, by omega, Lib.hid (fun j hj2 => ?_)⟩
                by_cases e : j = k
                · subst e; rw [HY.out]; exact hyi
                · exact hj.out j (by omega)
              case measure => simp [intOf]; omega
          · have HE := Lib.hid (show k = m by omega)
            have HF := Lib.hid (HGOOD.out (by rw [badK_good (by omega) m (fun j hj2 => hj.out j (by rw [HE.out]; exact hj2))]; rfl))
            clear hj
            have BH := Lib.hid B2
            go_wp2
            clear hlt
            go_loopw [10, 11, 12, 37] (fun l _ _ t wr => ∃ (k c' n' : Nat) (L : Option Addr), t = .int .i64 k ∧ k ≤ m ∧ l = .slice L n' c' ∧ n' ≤ k ∧ Hid (Own wr w2.heap.size L n' c' (wrongK zs ys n x k)) ∧ Below w2.heap.size w2 wr) (fun _ _ _ t _ => m - (intOf t).toNat)
            case atStart => exact ⟨0, 0, 0, _, rfl, Nat.zero_le _, rfl, Nat.le_refl _, Lib.hid Own.nil_, Below.refl _ _⟩
            case round =>
              obtain ⟨k2, c', n', L, rfl, hk2, rfl, hn2, ho, hB⟩ := hrel
              have hsz : w2.heap.size ≤ wr.heap.size := hB.size
              have hlt0 : w.heap.size < wr.heap.size := by omega
              have hbx : wr.cell? ⟨w.heap.size, 0, none⟩ = some (.slice A n c) := by rw [hB.cell (p := ⟨w.heap.size, 0, none⟩) (by simp; omega)]; exact l2
              have H3 := Lib.hid (Ints.call H2.out (by omega) hB)
              have HB := Lib.hid hB
              clear hB
              by_cases hlt : k2 < m
              · obtain ⟨b, off, rfl, hbl, hc⟩ := H3.out.at_ hlt
                have hs : wrongK zs ys n x (k2 + 1) = if zs.getD ((x + k2) % n) 0 = ys.getD k2 0 then wrongK zs ys n x k2 else wrongK zs ys n x k2 ++ [(k2 : Int)] := rfl
                have hg := fun (W : World) (h1 : Ints W w.heap.size A n zs) (h2 : w.heap.size ≤ W.heap.size) => gapAt_any A n c w.heap.size zs ((x : Int) + (k2 : Int)) W h1 h2 v2 hn (by omega) (by omega)
                have e1 : ((x : Int) + (k2 : Int)).toNat = x + k2 := by omega
                rw [e1] at hg
                generalize zs.getD ((x + k2) % n) 0 = y at *
                generalize ys.getD k2 0 = v at *
                have HG := Lib.hid hg
                have HS := Lib.hid hs
                clear hg hs e1
                by_cases hyv : y = v
                · have hq : (y == v) = true := by simpa using hyv
                  have HS2 := Lib.hid (HS.out.trans (if_pos hyv))
                  subst hyv
                  go_wp2_with (go_at_call 32; refine (HG.out _ (Ints.below H.out (BH.out.trans (HB.out.mono (by omega)))) (by omega)).mono ?_; rintro e w3 ⟨rfl, hb3⟩; have z3 : wr.heap.size ≤ w3.heap.size := hb3.size; have HB3 := Lib.hid hb3; clear hb3)
                  go_roundw
                  case rel => exact ⟨k2 + 1, c', n', L, by go_num, by omega, rfl, by omega, Lib.hid (by rw [HS2.out]; exact Own.call ho.out HB3.out), HB.out.trans (HB3.out.mono (by omega))⟩
                  case measure => simp [intOf]; omega
                · have hq : (y == v) = false := by simpa using hyv
                  have HS2 := Lib.hid (HS.out.trans (if_neg hyv))
                  go_wp2_with (first | (go_at_call 32; refine (HG.out _ (Ints.below H.out (BH.out.trans (HB.out.mono (by omega)))) (by omega)).mono ?_; rintro e w3 ⟨rfl, hb3⟩; have z3 : wr.heap.size ≤ w3.heap.size := hb3.size; have HB3 := Lib.hid hb3; clear hb3) | (at_builtin; refine wpList_app rfl _ _ rfl _ w2.heap.size _ _ _ (wrongK zs ys n x k2) rfl ((Own.call ho.out HB3.out).alloc _) w3.heap.size rfl (k2 : Int) (by simp [go_sem]) (by omega) (by simp; omega) ?_; intro L2 c2 w4 ho2 hb2; have HO2 := Lib.hid ho2; clear ho2))
                  go_roundw
                  case rel => exact ⟨k2 + 1, c2, n' + 1, L2, by go_num, by omega, rfl, by omega, Lib.hid (by rw [HS2.out]; exact HO2.out), ((HB.out.trans (HB3.out.mono (by omega))).alloc (by omega) _).trans hb2⟩
                  case measure => simp [intOf]; omega
              · have HE2 := Lib.hid (show k2 = m by omega)
                go_wp2
                go_ret2
                refine ⟨L, n', c', ?_, ?_, BH.out.trans (HB.out.mono (by omega))⟩
                · rw [HF.out.2]; rfl
                · have := ho.out.low (b0 := w.heap.size) (by omega)
                  rw [HE2.out] at this
                  rw [HF.out.1]; exact this
theorem wpList_appG {ops : Array Oper} {rest : List Oper} {o : Oper} {a : Act} {Q : Exit → Act → World → Prop} (hgd : o.guard = none) (s x : Operand)
    (ho : o.op = .call { callee := .builtin .append, args := #[s, x], argTypes := #[24, 24] })
    (w : World) (base : Nat) (A : Option Addr) (n c : Nat) (zs : List Int) (hs : a.eval s = .slice A n c) (hown : Own w base A n c zs) (g : Nat) (hx : a.eval x = .slice (some ⟨g, 0, none⟩) 1 1) (v : Int)
    (hcell : w.cell? ⟨g, 0, none⟩ = some (.int .i64 v)) (hn : n ≤ 1000000000000) (hb : base ≤ w.heap.size)
    (h : ∀ A' c' w', Own w' base A' (n + 1) c' (zs ++ [v]) → w.grownBy w' (Value.slice A n c).ownBlock → ((Value.slice A' (n + 1) c').ownBlock = (Value.slice A n c).ownBlock ∨ (Value.slice A' (n + 1) c').ownBlock = some w.heap.size) → Below base w w' → wpList Try.prog ops Q rest (a.put o.dst (.slice A' (n + 1) c')) w') : wpList Try.prog ops Q (o :: rest) a w := by
  obtain ⟨i0, hi, hz0, hz1, hz2⟩ := info_parts info_int64
  refine wpList_append_own_at (P := Try.prog) w hgd s x 24 ho base 2 i0 (.int .i64 0) 1 8 Try.underlying24 hi hz0 hz1 hz2 rfl (by omega) (.slice A n c) n (zs.map (Value.int .i64)) hs hown ⟨g, 0, none⟩ 1 1 [.int .i64 v] hx rfl
    (fun j u hj => ?_) (by simp [Value.oneCell']) (by simp only [maxLen]; omega) (by omega) hb (fun v' w' h1 h2 _ h4 => ?_)
  · match j, hj with
    | 0, hj =>
      simp at hj
      subst hj
      simpa [Addr.add] using hcell
  · obtain ⟨A', c', rfl, h3⟩ := own_append h1
    refine h A' c' w' h3 h2 h4 ((Below.refl base w).grown h2 hb (fun k hk => ?_))
    rcases hown.form with ⟨rfl, _⟩ | ⟨g', rfl, hg', _⟩
    · simp [Value.ownBlock] at hk
    · simp [Value.ownBlock] at hk; omega
set_option maxHeartbeats 4000000 in
theorem specWrongStrikes_any (A E : Option Addr) (n c B m c' B' : Nat) (zs ys : List Int) (x : Int) (w : World) (h : Ints w B A n zs) (hB : B ≤ w.heap.size) (h' : Ints w B' E m ys) (hB' : B' ≤ w.heap.size) (hn : n ≤ 1048576) (hm : m ≤ 1048576) :
    Calls Try.prog 11 #[.agg #[.slice A n c], .int .i64 x, .slice E m c'] w (NewIntsCode w (wrL zs ys n m x) (wrC zs ys n m x)) := by
  have hl := h.len
  have H := Lib.hid (h.more hB)
  have H' := Lib.hid (h'.more hB')
  clear h h'
  have hC := fun (w' : World) (h' : Ints w' w.heap.size A n zs) (hB : w.heap.size ≤ w'.heap.size) => l20Code_any A n c w.heap.size zs x w' h' hB hn
  cases hv : vWheel zs
  · rw [(wr_bad hv).1, (wr_bad hv).2]
    simp only [code_bad hv] at hC
    have HC := Lib.hid hC
    clear hC
    go_enter Try.func11, Try.ntmps11
    go_wp2_with fail
    refine (HC.out _ (by exact Ints.below (H.out) (by (repeat (first | with_reducible exact Below.refl _ _ | with_reducible refine below_alloc ?_ _ | with_reducible refine below_drewN ?_ _ | with_reducible refine Below.drew ?_ | ((with_reducible refine below_set ?_ ?_ _); rotate_left; (focus (first | (simp; done) | (simp; omega) | omega))) | with_reducible refine below_call ?_ (by assumption))))) (by exact Below.size (B := w.heap.size) (w := w) (by (repeat (first | with_reducible exact Below.refl _ _ | with_reducible refine below_alloc ?_ _ | with_reducible refine below_drewN ?_ _ | with_reducible refine Below.drew ?_ | ((with_reducible refine below_set ?_ ?_ _); rotate_left; (focus (first | (simp; done) | (simp; omega) | omega))) | with_reducible refine below_call ?_ (by assumption)))))).mono ?_
    rintro e w1 ⟨rfl, hb1⟩
    obtain ⟨hc1, hf1, hs1⟩ := bcell hb1
    (try (refine cut_ (p := w.heap.size < w1.heap.size) ?_ ?_; (focus (refine hs1 _ ?_; first | assumption | omega | (simp [go_sem]; done) | (simp [go_sem]; omega))); intro hl1a))
    (try (refine cut_ (p := w.heap.size + 1 < w1.heap.size) ?_ ?_; (focus (refine hs1 _ ?_; first | assumption | omega | (simp [go_sem]; done) | (simp [go_sem]; omega))); intro hl1b))
    (try (refine cut_ (p := w.heap.size + 1 + 1 < w1.heap.size) ?_ ?_; (focus (refine hs1 _ ?_; first | assumption | omega | (simp [go_sem]; done) | (simp [go_sem]; omega))); intro hl1c))
    go_wp2
    go_ret2
    exact ⟨none, 0, 0, rfl, Own.nil_, by (repeat (first | with_reducible exact Below.refl _ _ | with_reducible refine below_alloc ?_ _ | with_reducible refine below_drewN ?_ _ | with_reducible refine Below.drew ?_ | ((with_reducible refine below_set ?_ ?_ _); rotate_left; (focus (first | (simp; done) | (simp; omega) | omega))) | with_reducible refine below_call ?_ (by assumption)))⟩
  · cases hi : inB x 0 ((n : Int) - 1)
    · rw [(wr_far hv (by rw [hi]; rfl)).1, (wr_far hv (by rw [hi]; rfl)).2]
      simp only [code_far hv hi] at hC
      have HC := Lib.hid hC
      clear hC
      go_enter Try.func11, Try.ntmps11
      go_wp2_with fail
      refine (HC.out _ (by exact Ints.below (H.out) (by (repeat (first | with_reducible exact Below.refl _ _ | with_reducible refine below_alloc ?_ _ | with_reducible refine below_drewN ?_ _ | with_reducible refine Below.drew ?_ | ((with_reducible refine below_set ?_ ?_ _); rotate_left; (focus (first | (simp; done) | (simp; omega) | omega))) | with_reducible refine below_call ?_ (by assumption))))) (by exact Below.size (B := w.heap.size) (w := w) (by (repeat (first | with_reducible exact Below.refl _ _ | with_reducible refine below_alloc ?_ _ | with_reducible refine below_drewN ?_ _ | with_reducible refine Below.drew ?_ | ((with_reducible refine below_set ?_ ?_ _); rotate_left; (focus (first | (simp; done) | (simp; omega) | omega))) | with_reducible refine below_call ?_ (by assumption)))))).mono ?_
      rintro e w1 ⟨rfl, hb1⟩
      obtain ⟨hc1, hf1, hs1⟩ := bcell hb1
      (try (refine cut_ (p := w.heap.size < w1.heap.size) ?_ ?_; (focus (refine hs1 _ ?_; first | assumption | omega | (simp [go_sem]; done) | (simp [go_sem]; omega))); intro hl1a))
      (try (refine cut_ (p := w.heap.size + 1 < w1.heap.size) ?_ ?_; (focus (refine hs1 _ ?_; first | assumption | omega | (simp [go_sem]; done) | (simp [go_sem]; omega))); intro hl1b))
      (try (refine cut_ (p := w.heap.size + 1 + 1 < w1.heap.size) ?_ ?_; (focus (refine hs1 _ ?_; first | assumption | omega | (simp [go_sem]; done) | (simp [go_sem]; omega))); intro hl1c))
      go_wp2
      go_ret2
      exact ⟨none, 0, 0, rfl, Own.nil_, by (repeat (first | with_reducible exact Below.refl _ _ | with_reducible refine below_alloc ?_ _ | with_reducible refine below_drewN ?_ _ | with_reducible refine Below.drew ?_ | ((with_reducible refine below_set ?_ ?_ _); rotate_left; (focus (first | (simp; done) | (simp; omega) | omega))) | with_reducible refine below_call ?_ (by assumption)))⟩
    · simp only [code_ok hv hi] at hC
      have HC := Lib.hid hC
      clear hC
      have hx := inB_yes hi
      obtain ⟨v1, v2, v3⟩ := vWheel_yes hv
      obtain ⟨x, rfl⟩ := Int.eq_ofNat_of_zero_le hx.1
      have hbad := @wr_far zs ys n m x hv
      have hgood := @wr_ok zs ys n m x hv
      rw [hi] at hbad hgood
      generalize wrL zs ys n m x = G at *
      generalize wrC zs ys n m x = cd at *
      have HBAD := Lib.hid hbad
      have HGOOD := Lib.hid hgood
      rw [hl] at v2
      have hM := fun (hm5 : m ≤ 500) (W : World) (h : Ints W w.heap.size A n zs) (h2 : w.heap.size ≤ W.heap.size) => l20Many_any A n c w.heap.size zs x m W h h2 v2 hn (by omega) (by omega)
      have HM := Lib.hid hM
      clear v1 v3 hl hbad hgood hM
      go_enter Try.func11, Try.ntmps11
      go_wp2_with fail
      refine (HC.out _ (by exact Ints.below (H.out) (by (repeat (first | with_reducible exact Below.refl _ _ | with_reducible refine below_alloc ?_ _ | with_reducible refine below_drewN ?_ _ | with_reducible refine Below.drew ?_ | ((with_reducible refine below_set ?_ ?_ _); rotate_left; (focus (first | (simp; done) | (simp; omega) | omega))) | with_reducible refine below_call ?_ (by assumption))))) (by exact Below.size (B := w.heap.size) (w := w) (by (repeat (first | with_reducible exact Below.refl _ _ | with_reducible refine below_alloc ?_ _ | with_reducible refine below_drewN ?_ _ | with_reducible refine Below.drew ?_ | ((with_reducible refine below_set ?_ ?_ _); rotate_left; (focus (first | (simp; done) | (simp; omega) | omega))) | with_reducible refine below_call ?_ (by assumption)))))).mono ?_
      rintro e w1 ⟨rfl, hb1⟩
      obtain ⟨hc1, hf1, hs1⟩ := bcell hb1
      (try (refine cut_ (p := w.heap.size < w1.heap.size) ?_ ?_; (focus (refine hs1 _ ?_; first | assumption | omega | (simp [go_sem]; done) | (simp [go_sem]; omega))); intro hl1a))
      (try (refine cut_ (p := w.heap.size + 1 < w1.heap.size) ?_ ?_; (focus (refine hs1 _ ?_; first | assumption | omega | (simp [go_sem]; done) | (simp [go_sem]; omega))); intro hl1b))
      (try (refine cut_ (p := w.heap.size + 1 + 1 < w1.heap.size) ?_ ?_; (focus (refine hs1 _ ?_; first | assumption | omega | (simp [go_sem]; done) | (simp [go_sem]; omega))); intro hl1c))
      have B1 : Below w.heap.size w w1 := by (repeat (first | with_reducible exact Below.refl _ _ | with_reducible refine below_alloc ?_ _ | with_reducible refine below_drewN ?_ _ | with_reducible refine Below.drew ?_ | ((with_reducible refine below_set ?_ ?_ _); rotate_left; (focus (first | (simp; done) | (simp; omega) | omega))) | with_reducible refine below_call ?_ (by assumption)))
      have l1 : w1.cell? ⟨w.heap.size, 0, none⟩ = some (.slice A n c) := by simp [go_sem, hc1, *]
      have z1 : w.heap.size < w1.heap.size := by omega
      clear hc1 hf1 hs1 hb1
      have H1 := Lib.hid (Ints.below H'.out B1)
      go_wp2
      go_loop [9, 10] (fun b t => ∃ k : Nat, t = .int .i64 k ∧ k ≤ m ∧ b = .bool (badK ys m k)) (fun _ t => m - (intOf t).toNat)
      case atStart => exact ⟨0, rfl, Nat.zero_le _, by rfl⟩
      case round =>
        obtain ⟨k, rfl, hk, rfl⟩ := hrel
        by_cases hlt : k < m
        · have e : badK ys m (k + 1) = (badK ys m k || !inB (ys.getD k 0) 1 12) := rfl
          obtain ⟨b, off, rfl, hbl, hc⟩ := H1.out.at_ hlt
          generalize ys.getD k 0 = y at *
          cases hb : badK ys m k
          · cases hy : inB y 1 12
            all_goals
              rw [hb, hy] at e
              have HE := Lib.hid e
              clear e
              go_wp2_with (go_at_call 34; refine (l20Blows_any _ _).mono ?_; rintro e w' ⟨rfl, rfl⟩)
              go_round
              case rel => exact ⟨k + 1, by go_num, by omega, by rw [HE.out]; rfl⟩
              case measure => simp [intOf]; omega
          · rw [hb] at e
            have HE := Lib.hid e
            clear e
            go_wp2_with (go_at_call 34; refine (l20Blows_any _ _).mono ?_; rintro e w' ⟨rfl, rfl⟩)
            go_round
            case rel => exact ⟨k + 1, by go_num, by omega, by rw [HE.out]; rfl⟩
            case measure => simp [intOf]; omega
        · obtain rfl : k = m := by omega
          cases hb : badK ys k k
          · have HF := Lib.hid (HGOOD.out (by rw [hb]; rfl))
            have h5 := badK_len hb
            have hML := manyL_len zs n x k
            have hMG := fun j (hj : j < k) => @manyL_getD zs n x k j hj
            have cm := HM.out h5
            generalize manyL zs n x k = M at *
            have CM := Lib.hid cm
            have HML := Lib.hid hML
            have HMG := Lib.hid hMG
            clear cm hML hMG
            go_wp2_with fail
            refine (CM.out _ (Ints.below H.out (by (repeat (first | with_reducible exact Below.refl _ _ | with_reducible refine below_alloc ?_ _ | with_reducible refine below_drewN ?_ _ | with_reducible refine Below.drew ?_ | ((with_reducible refine below_set ?_ ?_ _); rotate_left; (focus (first | (simp; done) | (simp; omega) | omega))) | with_reducible refine below_call ?_ (by assumption))))) (by simp; omega)).mono ?_
            rintro e w2 ⟨L, m2, c2, rfl, ho2, hb2⟩
            obtain rfl : k = m2 := (by rw [← ho2.len, HML.out])
            have OM := Lib.hid (show OwnIn w2 (w1.heap.size + 1) w2.heap.size L k c2 M by simpa using OwnIn.of ho2)
            have e2 := own_empty (w := w1) (base := w1.heap.size) (g := w1.heap.size) rfl (Nat.le_refl _)
            have O2 := Lib.hid (Own.call e2 hb2)
            have B2 : Below w1.heap.size w1 w2 := by (repeat (first | with_reducible exact Below.refl _ _ | with_reducible refine below_alloc ?_ _ | with_reducible refine below_drewN ?_ _ | with_reducible refine Below.drew ?_ | ((with_reducible refine below_set ?_ ?_ _); rotate_left; (focus (first | (simp; done) | (simp; omega) | omega))) | with_reducible refine below_call ?_ (by assumption)))
            have z2 : w1.heap.size + 1 ≤ w2.heap.size := by have := hb2.size; simpa using this
            have BH := Lib.hid B1
            clear ho2 e2 hb2
            go_wp2
            go_loopw [11, 13] (fun l t wr => ∃ (k2 c' n' : Nat) (N : Option Addr), t = .int .i64 k2 ∧ k2 ≤ k ∧ l = .slice N n' c' ∧ n' ≤ k2 ∧ w2.heap.size ≤ wr.heap.size ∧ Hid (Own wr w1.heap.size N n' c' (wrongK zs ys n x k2)) ∧ Hid (OwnIn wr (w1.heap.size + 1) w2.heap.size L k c2 M) ∧ Hid (∀ g, (Value.slice N n' c').ownBlock = some g → g < w1.heap.size + 1 ∨ w2.heap.size ≤ g) ∧ Below w1.heap.size w1 wr) (fun _ t _ => k - (intOf t).toNat)
            case atStart => exact ⟨0, 0, 0, _, rfl, Nat.zero_le _, rfl, Nat.le_refl _, Nat.le_refl _, O2, OM, Lib.hid (fun g hg => .inl (by simp [Value.ownBlock] at hg; omega)), B2⟩
            case round =>
              obtain ⟨k2, c', n', N, rfl, hk2, rfl, hn2, hwr, ho, hM2, hbl, hB⟩ := hrel
              clear B2 OM O2
              have I2 := Lib.hid (OwnIn.ints hM2.out hwr)
              have H3 := Lib.hid (Ints.call H1.out (by omega) hB)
              have HB := Lib.hid hB
              clear hB
              by_cases hlt : k2 < k
              · obtain ⟨b, off, rfl, hbl1, hcy⟩ := H3.out.at_ hlt
                obtain ⟨b2, off2, rfl, hbl2, hcm⟩ := I2.out.at_ hlt
                rw [HMG.out k2 hlt] at hcm
                have hs : wrongK zs ys n x (k2 + 1) = if zs.getD ((x + k2) % n) 0 = ys.getD k2 0 then wrongK zs ys n x k2 else wrongK zs ys n x k2 ++ [(k2 : Int)] := rfl
                generalize zs.getD ((x + k2) % n) 0 = y at *
                generalize ys.getD k2 0 = v at *
                have HS := Lib.hid hs
                have i0 : (0 : Int) ≤ (k2 : Int) := Int.natCast_nonneg _
                have i1 : (k2 : Int) < (k : Int) := by omega
                have i2 : w1.heap.size ≤ wr.heap.size := by omega
                clear hs
                by_cases hyv : y = v
                · have hq : (y == v) = true := by simpa using hyv
                  have HS2 := Lib.hid (HS.out.trans (if_pos hyv))
                  subst hyv
                  go_wp2
                  go_quiet (fail)
                  go_wp2
                  go_roundw
                  case rel => exact ⟨k2 + 1, c', n', N, by go_num, by omega, rfl, by omega, hwr, Lib.hid (by rw [HS2.out]; exact ho.out), hM2, hbl, by first | exact HB.out | exact below_drewN HB.out _⟩
                  case measure => simp [intOf]; omega
                · have hq : (y == v) = false := by simpa using hyv
                  have HS2 := Lib.hid (HS.out.trans (if_neg hyv))
                  go_wp2
                  go_quiet (fail)
                  go_wp2_with (at_builtin; refine wpList_appG rfl _ _ rfl _ w1.heap.size _ _ _ (wrongK zs ys n x k2) rfl (Own.alloc (Own.drewN ho.out _) _) wr.heap.size rfl (k2 : Int) (by exact cell_one_new (wr.drewN _) (.int .i64 (k2 : Int)) _ 0 _ rfl) (by omega) (by simp; omega) ?_; intro L2 c3 w4 ho2 hg2 hat2 hb2; have HO2 := Lib.hid ho2; clear ho2)
                  have hgo : ∀ g, (Value.slice N n' c').ownBlock = some g → g < w1.heap.size + 1 ∨ w2.heap.size ≤ g := hbl.out
                  have HM4 := Lib.hid (OwnIn.grown (OwnIn.call hM2.out (show Below wr.heap.size wr ((wr.drewN _).alloc _) from by (repeat (first | with_reducible exact Below.refl _ _ | with_reducible refine below_alloc ?_ _ | with_reducible refine below_drewN ?_ _ | with_reducible refine Below.drew ?_ | ((with_reducible refine below_set ?_ ?_ _); rotate_left; (focus (first | (simp; done) | (simp; omega) | omega))) | with_reducible refine below_call ?_ (by assumption)))) hwr) hg2 hgo (by simp; omega))
                  have hz4 : w2.heap.size ≤ w4.heap.size := by have := hg2.size; simp at this; omega
                  go_roundw
                  case rel =>
                    refine ⟨k2 + 1, c3, n' + 1, L2, by go_num, by omega, rfl, by omega, hz4, Lib.hid (by rw [HS2.out]; exact HO2.out), HM4, Lib.hid (fun g hg => ?_), ((below_drewN HB.out _).alloc (by simp; omega) _).trans hb2⟩
                    rcases hat2 with e | e
                    · rw [e] at hg; exact hbl.out g hg
                    · rw [e] at hg; simp at hg; omega
                  case measure => simp [intOf]; omega
              · have HE2 := Lib.hid (show k2 = k by omega)
                go_wp2
                go_ret2
                refine ⟨N, n', c', ?_, ?_, BH.out.trans (HB.out.mono (by omega))⟩
                · rw [HF.out.2]; rfl
                · have := ho.out.low (b0 := w.heap.size) (by omega)
                  rw [HE2.out] at this
                  rw [HF.out.1]; exact this
          · have HF := Lib.hid (HBAD.out (by rw [hb]; rfl))
            go_wp2
            go_ret2
            refine ⟨none, 0, 0, ?_, ?_, B1⟩
            · rw [HF.out.2]; rfl
            · rw [HF.out.1]; exact Own.nil_
end Go.Proofs.Ytlnoolnbpohjhaa
