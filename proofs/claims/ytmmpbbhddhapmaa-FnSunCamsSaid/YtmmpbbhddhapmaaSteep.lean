/- Contracts of the two functions SteepestStep. No conditions but that a cam has at most 2^20 steps. -/
import Derived.Test.YtmmpbbhddhapmaaSunTime
namespace Go.Proofs.Ytmmpbbhddhapmaa
open Go.RowKit
set_option linter.unusedVariables false
set_option linter.unusedSimpArgs false
/-- the size of the step from k to the next -/
def stepI (zs : List Int) (n k : Nat) : Int := ((zs.getD ((k + 1) % n) 0 - zs.getD k 0).natAbs : Int)
theorem stepI_nn (zs : List Int) (n k : Nat) : 0 ≤ stepI zs n k := Int.natCast_nonneg _
/-- the place of the first largest step of the first k -/
def bestK (zs : List Int) (n : Nat) : Nat → Nat
  | 0 => 0
  | k + 1 => if stepI zs n (bestK zs n k) < stepI zs n k then k else bestK zs n k
theorem bestK_le (zs : List Int) (n : Nat) : ∀ k, bestK zs n k ≤ k - 1
  | 0 => by simp [bestK]
  | k + 1 => by have := bestK_le zs n k; simp only [bestK]; split <;> omega
theorem bestK_one (zs : List Int) (n : Nat) : bestK zs n 1 = 0 := by simp [bestK]
def mostK (zs : List Int) (n : Nat) : Nat → Int
  | 0 => -1
  | k + 1 => stepI zs n (bestK zs n (k + 1))
theorem most_up {zs : List Int} {n k : Nat} (h : mostK zs n k < stepI zs n k) : bestK zs n (k + 1) = k ∧ mostK zs n (k + 1) = stepI zs n k := by
  have e : bestK zs n (k + 1) = k := by
    cases k with
    | zero => exact bestK_one zs n
    | succ j => exact if_pos h
  exact ⟨e, by simp only [mostK, e]⟩
theorem most_keep {zs : List Int} {n k : Nat} (h : ¬ mostK zs n k < stepI zs n k) : bestK zs n (k + 1) = bestK zs n k ∧ mostK zs n (k + 1) = mostK zs n k := by
  cases k with
  | zero => have := stepI_nn zs n 0; simp only [mostK] at h; omega
  | succ j =>
    have e : bestK zs n (j + 1 + 1) = bestK zs n (j + 1) := by
      exact if_neg h
    exact ⟨e, by simp only [mostK, e]⟩
theorem mostK_bd {zs : List Int} {n : Nat} (h : ∀ j, j < n → stepI zs n j ≤ 2400) : ∀ k, k ≤ n → -1 ≤ mostK zs n k ∧ mostK zs n k ≤ 2400
  | 0, _ => by simp [mostK]
  | k + 1, hk => by
    have := stepI_nn zs n (bestK zs n (k + 1))
    have := h (bestK zs n (k + 1)) (by have := bestK_le zs n (k + 1); omega)
    simp only [mostK]; omega
theorem stepI_bd {zs : List Int} {n : Nat} (hl : zs.length = n) (hb : ∀ j, j < zs.length → -1200 ≤ zs.getD j 0 ∧ zs.getD j 0 ≤ 1200) (h2 : 2 ≤ n) : ∀ j, j < n → stepI zs n j ≤ 2400 := by
  intro j hj
  have a := hb j (by omega)
  have b := hb ((j + 1) % n) (by rw [hl]; exact Nat.mod_lt _ (by omega))
  unfold stepI; omega
set_option maxHeartbeats 2000000 in
theorem l19Step_any (A : Option Addr) (n c B : Nat) (zs : List Int) (k : Nat) (w : World) (h : Ints w B A n zs) (hB : B ≤ w.heap.size) (hv : vSun zs = true) (hk : k < n) :
    Calls Try.prog 39 #[.agg #[.slice A n c], .int .i64 k] w fun e w' => e = .returned (.int .i64 (stepI zs n k)) ∧ Below w.heap.size w w' := by
  obtain ⟨hb, h1, h2⟩ := vSun_yes hv
  rw [h.len] at h1 h2
  have hj : (k + 1) % n < n := Nat.mod_lt _ (by omega)
  have b1 := hb k (by rw [h.len]; exact hk)
  have b2 := hb ((k + 1) % n) (by rw [h.len]; exact hj)
  have hE : stepI zs n k = ((zs.getD ((k + 1) % n) 0 - zs.getD k 0).natAbs : Int) := rfl
  obtain ⟨b, off, rfl, hbl, hc⟩ := (h.alloc hB (.cells #[.slice A n c] 27)).2 (by omega)
  have c1 := hc _ hk
  have c2 := hc _ hj
  have qr : ((k + 1 : Nat) : Int).tmod (n : Int) = (((k + 1) % n : Nat) : Int) := by
    rw [Int.tmod_eq_emod_of_nonneg (Int.natCast_nonneg _)]; exact (Int.natCast_emod _ n).symm
  generalize hJ : (k + 1) % n = J at *
  generalize zs.getD k 0 = x at *
  generalize zs.getD J 0 = y at *
  have w1 : IntKind.i64.wrap ((k : Int) + 1) = (k : Int) + 1 := IntWalk.i64_in _ (by omega)
  have w2 : ((k : Int) + 1).tmod (n : Int) = (J : Int) := by rw [← qr]; rfl
  have w3 : IntKind.i64.wrap (y - x) = y - x := IntWalk.i64_in _ (by omega)
  have i0 : (0 : Int) ≤ (k : Int) := Int.natCast_nonneg _
  have i1 : (k : Int) < (n : Int) := by omega
  have j0 : (0 : Int) ≤ (J : Int) := Int.natCast_nonneg _
  have j1 : (J : Int) < (n : Int) := by omega
  have HE := Lib.hid hE
  clear hE h hb hv hJ qr hc
  go_enter Try.func39, Try.ntmps39
  go_wp2
  go_quiet ((go_at_call 56; exact quiet_left (l02Size_any _ _ (by omega))))
  go_wp2
  go_ret
  exact ⟨ret_int HE.out.symm, by (repeat (first | with_reducible exact Below.refl _ _ | with_reducible refine below_alloc ?_ _ | with_reducible refine below_drewN ?_ _ | with_reducible refine Below.drew ?_ | ((with_reducible refine below_set ?_ ?_ _); rotate_left; (focus (first | (simp; done) | (simp; omega) | omega))) | with_reducible refine below_call ?_ (by assumption)))⟩
def steepT (zs : List Int) (n : Nat) : Value := if vSun zs then .tuple #[.int .i64 (bestK zs n n : Int), .int .i64 0] else .tuple #[.int .i64 0, .int .i64 1]
theorem steep_yes {zs : List Int} {n : Nat} (h : vSun zs = true) : steepT zs n = .tuple #[.int .i64 (bestK zs n n : Int), .int .i64 0] := by simp [steepT, h]
theorem steep_no {zs : List Int} {n : Nat} (h : vSun zs = false) : steepT zs n = .tuple #[.int .i64 0, .int .i64 1] := by simp [steepT, h]
theorem steepT_form (zs : List Int) (n : Nat) : ∃ a b : Int, steepT zs n = .tuple #[.int .i64 a, .int .i64 b] := by
  unfold steepT; split <;> exact ⟨_, _, rfl⟩
set_option maxHeartbeats 4000000 in
theorem specSteepestStep_any (A : Option Addr) (n c B : Nat) (zs : List Int) (w : World) (h : Ints w B A n zs) (hB : B ≤ w.heap.size) (hn : n ≤ 1048576) :
    Calls Try.prog 16 #[.agg #[.slice A n c]] w fun e w' => e = .returned (steepT zs n) ∧ Below w.heap.size w w' := by
  have hl := h.len
  have H := Lib.hid (h.more hB)
  clear h
  cases hv : vSun zs
  · rw [steep_no hv]
    go_enter Try.func16, Try.ntmps16
    go_wp2_with fail
    refine (l19Cam_any _ _ _ _ zs _ (by exact Ints.below (H.out) (by (repeat (first | with_reducible exact Below.refl _ _ | with_reducible refine below_alloc ?_ _ | with_reducible refine below_drewN ?_ _ | with_reducible refine Below.drew ?_ | ((with_reducible refine below_set ?_ ?_ _); rotate_left; (focus (first | (simp; done) | (simp; omega) | omega))) | with_reducible refine below_call ?_ (by assumption))))) (by exact Below.size (B := w.heap.size) (w := w) (by (repeat (first | with_reducible exact Below.refl _ _ | with_reducible refine below_alloc ?_ _ | with_reducible refine below_drewN ?_ _ | with_reducible refine Below.drew ?_ | ((with_reducible refine below_set ?_ ?_ _); rotate_left; (focus (first | (simp; done) | (simp; omega) | omega))) | with_reducible refine below_call ?_ (by assumption))))) hn).mono ?_
    rintro e w1 ⟨rfl, hb1⟩
    obtain ⟨hc1, hf1, hs1⟩ := bcell hb1
    (try (refine cut_ (p := w.heap.size < w1.heap.size) ?_ ?_; (focus (refine hs1 _ ?_; first | assumption | omega | (simp [go_sem]; done) | (simp [go_sem]; omega))); intro hl1a))
    (try (refine cut_ (p := w.heap.size + 1 < w1.heap.size) ?_ ?_; (focus (refine hs1 _ ?_; first | assumption | omega | (simp [go_sem]; done) | (simp [go_sem]; omega))); intro hl1b))
    (try (refine cut_ (p := w.heap.size + 1 + 1 < w1.heap.size) ?_ ?_; (focus (refine hs1 _ ?_; first | assumption | omega | (simp [go_sem]; done) | (simp [go_sem]; omega))); intro hl1c))
    go_wp2
    go_ret2
    exact ⟨rfl, by (repeat (first | with_reducible exact Below.refl _ _ | with_reducible refine below_alloc ?_ _ | with_reducible refine below_drewN ?_ _ | with_reducible refine Below.drew ?_ | ((with_reducible refine below_set ?_ ?_ _); rotate_left; (focus (first | (simp; done) | (simp; omega) | omega))) | with_reducible refine below_call ?_ (by assumption)))⟩
  · rw [steep_yes hv]
    obtain ⟨hb, h1, h2⟩ := vSun_yes hv
    rw [hl] at h1 h2
    have hS := fun (k : Nat) (W : World) (h : Ints W w.heap.size A n zs) (hB : w.heap.size ≤ W.heap.size) (hk : k < n) => l19Step_any A n c w.heap.size zs k W h hB hv hk
    have hu := fun k => bestK.eq_2 zs n k
    have hle := bestK_le zs n
    have h10 := bestK_one zs n
    generalize stepI zs n = F at *
    generalize bestK zs n = b at *
    have HS := Lib.hid hS
    have HU := Lib.hid hu
    have HLE := Lib.hid hle
    clear hS hu hle hb
    go_enter Try.func16, Try.ntmps16
    go_wp2_with fail
    refine (l19Cam_any _ _ _ _ zs _ (by exact Ints.below (H.out) (by (repeat (first | with_reducible exact Below.refl _ _ | with_reducible refine below_alloc ?_ _ | with_reducible refine below_drewN ?_ _ | with_reducible refine Below.drew ?_ | ((with_reducible refine below_set ?_ ?_ _); rotate_left; (focus (first | (simp; done) | (simp; omega) | omega))) | with_reducible refine below_call ?_ (by assumption))))) (by exact Below.size (B := w.heap.size) (w := w) (by (repeat (first | with_reducible exact Below.refl _ _ | with_reducible refine below_alloc ?_ _ | with_reducible refine below_drewN ?_ _ | with_reducible refine Below.drew ?_ | ((with_reducible refine below_set ?_ ?_ _); rotate_left; (focus (first | (simp; done) | (simp; omega) | omega))) | with_reducible refine below_call ?_ (by assumption))))) hn).mono ?_
    rintro e w1 ⟨rfl, hb1⟩
    obtain ⟨hc1, hf1, hs1⟩ := bcell hb1
    (try (refine cut_ (p := w.heap.size < w1.heap.size) ?_ ?_; (focus (refine hs1 _ ?_; first | assumption | omega | (simp [go_sem]; done) | (simp [go_sem]; omega))); intro hl1a))
    (try (refine cut_ (p := w.heap.size + 1 < w1.heap.size) ?_ ?_; (focus (refine hs1 _ ?_; first | assumption | omega | (simp [go_sem]; done) | (simp [go_sem]; omega))); intro hl1b))
    (try (refine cut_ (p := w.heap.size + 1 + 1 < w1.heap.size) ?_ ?_; (focus (refine hs1 _ ?_; first | assumption | omega | (simp [go_sem]; done) | (simp [go_sem]; omega))); intro hl1c))
    have B1 : Below w.heap.size w w1 := by (repeat (first | with_reducible exact Below.refl _ _ | with_reducible refine below_alloc ?_ _ | with_reducible refine below_drewN ?_ _ | with_reducible refine Below.drew ?_ | ((with_reducible refine below_set ?_ ?_ _); rotate_left; (focus (first | (simp; done) | (simp; omega) | omega))) | with_reducible refine below_call ?_ (by assumption)))
    have l1 : w1.cell? ⟨w.heap.size, 0, none⟩ = some (.slice A n c) := by simp [go_sem, hc1, *]
    have z1 : w.heap.size < w1.heap.size := by omega
    clear hc1 hf1 hs1 hb1
    go_wp2
    go_loopw [4, 5] (fun v t wr => ∃ k : Nat, t = .int .i64 k ∧ 1 ≤ k ∧ k ≤ n ∧ v = .int .i64 (b k : Int) ∧ wr.cell? ⟨w.heap.size, 0, none⟩ = some (.slice A n c) ∧ w.heap.size < wr.heap.size ∧ Below w.heap.size w wr) (fun _ t _ => n - (intOf t).toNat)
    case atStart => exact ⟨1, rfl, by omega, by omega, by rw [h10]; rfl, l1, z1, B1⟩
    case round =>
      obtain ⟨k, rfl, hk1, hk, rfl, hbx, hlt0, hBw⟩ := hrel
      clear l1 z1 B1
      by_cases hlt : k < n
      · have e := HU.out k
        have hbn : b k < n := by have := HLE.out k; omega
        generalize b k = j at *
        have HE := Lib.hid e
        clear e
        have r1 := Below.refl wr.heap.size wr
        by_cases hgt : F j < F k
        · have HE2 := Lib.hid (HE.out.trans (if_pos hgt))
          go_wp2
          go_region_held3 (fun w' => w'.cell? ⟨w.heap.size, 0, none⟩ = some (.slice A n c) ∧ w.heap.size < w'.heap.size ∧ Below w.heap.size w w')
            (first | ((try go_split_ands); (try dsimp only); refine ⟨?_, ?_, ?_⟩ <;> first | (exact cell_call (by assumption) (by assumption) (by assumption)) | (exact lt_call (by assumption) (by assumption)) | (exact below_call' (by assumption) (by assumption)) | (exact Below.drew (by assumption)) | (with_reducible assumption) | (simp; done) | (simp [*]; done) | ((repeat (first | with_reducible exact Below.refl _ _ | with_reducible refine below_alloc ?_ _ | with_reducible refine below_drewN ?_ _ | with_reducible refine Below.drew ?_ | ((with_reducible refine below_set ?_ ?_ _); rotate_left; (focus (first | (simp; done) | (simp; omega) | omega))) | with_reducible refine below_call ?_ (by assumption))); done) | omega))
            ((go_at_call 39; go_split_ands; refine (HS.out _ _ (by exact Ints.below H.out (by assumption)) (by exact Below.size (B := w.heap.size) (w := w) (by assumption)) (by first | exact hlt | exact hbn)).mono ?_; rintro e w2 ⟨rfl, hb2⟩))
          go_wp2
          go_roundw
          case rel =>
            go_split_ands
            exact ⟨k + 1, by go_num, by omega, by omega, by rw [HE2.out], by first | assumption | simpa using ‹_›, by assumption, by assumption⟩
          case measure => simp [intOf]; omega
        · have HE2 := Lib.hid (HE.out.trans (if_neg hgt))
          go_wp2
          go_region_held3 (fun w' => w'.cell? ⟨w.heap.size, 0, none⟩ = some (.slice A n c) ∧ w.heap.size < w'.heap.size ∧ Below w.heap.size w w')
            (first | ((try go_split_ands); (try dsimp only); refine ⟨?_, ?_, ?_⟩ <;> first | (exact cell_call (by assumption) (by assumption) (by assumption)) | (exact lt_call (by assumption) (by assumption)) | (exact below_call' (by assumption) (by assumption)) | (exact Below.drew (by assumption)) | (with_reducible assumption) | (simp; done) | (simp [*]; done) | ((repeat (first | with_reducible exact Below.refl _ _ | with_reducible refine below_alloc ?_ _ | with_reducible refine below_drewN ?_ _ | with_reducible refine Below.drew ?_ | ((with_reducible refine below_set ?_ ?_ _); rotate_left; (focus (first | (simp; done) | (simp; omega) | omega))) | with_reducible refine below_call ?_ (by assumption))); done) | omega))
            ((go_at_call 39; go_split_ands; refine (HS.out _ _ (by exact Ints.below H.out (by assumption)) (by exact Below.size (B := w.heap.size) (w := w) (by assumption)) (by first | exact hlt | exact hbn)).mono ?_; rintro e w2 ⟨rfl, hb2⟩))
          go_wp2
          go_roundw
          case rel =>
            go_split_ands
            exact ⟨k + 1, by go_num, by omega, by omega, by rw [HE2.out], by first | assumption | simpa using ‹_›, by assumption, by assumption⟩
          case measure => simp [intOf]; omega
      · have HE := Lib.hid (show k = n by omega)
        go_wp2
        go_ret2
        exact ⟨by rw [HE.out]; rfl, hBw⟩
set_option maxHeartbeats 4000000 in
theorem SteepestStep_any (A : Option Addr) (n c B : Nat) (zs : List Int) (w : World) (h : Ints w B A n zs) (hB : B ≤ w.heap.size) (hn : n ≤ 1048576) :
    Calls Try.prog 17 #[.agg #[.slice A n c]] w fun e w' => e = .returned (steepT zs n) ∧ Below w.heap.size w w' := by
  have hl := h.len
  have H := Lib.hid (h.more hB)
  clear h
  cases hv : vSun zs
  · rw [steep_no hv]
    go_enter Try.func17, Try.ntmps17
    go_wp2_with fail
    refine (ValidSunCam_any _ _ _ _ zs _ (by exact Ints.below (H.out) (by (repeat (first | with_reducible exact Below.refl _ _ | with_reducible refine below_alloc ?_ _ | with_reducible refine below_drewN ?_ _ | with_reducible refine Below.drew ?_ | ((with_reducible refine below_set ?_ ?_ _); rotate_left; (focus (first | (simp; done) | (simp; omega) | omega))) | with_reducible refine below_call ?_ (by assumption))))) (by exact Below.size (B := w.heap.size) (w := w) (by (repeat (first | with_reducible exact Below.refl _ _ | with_reducible refine below_alloc ?_ _ | with_reducible refine below_drewN ?_ _ | with_reducible refine Below.drew ?_ | ((with_reducible refine below_set ?_ ?_ _); rotate_left; (focus (first | (simp; done) | (simp; omega) | omega))) | with_reducible refine below_call ?_ (by assumption))))) hn).mono ?_
    rintro e w1 ⟨rfl, hb1⟩
    obtain ⟨hc1, hf1, hs1⟩ := bcell hb1
    (try (refine cut_ (p := w.heap.size < w1.heap.size) ?_ ?_; (focus (refine hs1 _ ?_; first | assumption | omega | (simp [go_sem]; done) | (simp [go_sem]; omega))); intro hl1a))
    (try (refine cut_ (p := w.heap.size + 1 < w1.heap.size) ?_ ?_; (focus (refine hs1 _ ?_; first | assumption | omega | (simp [go_sem]; done) | (simp [go_sem]; omega))); intro hl1b))
    (try (refine cut_ (p := w.heap.size + 1 + 1 < w1.heap.size) ?_ ?_; (focus (refine hs1 _ ?_; first | assumption | omega | (simp [go_sem]; done) | (simp [go_sem]; omega))); intro hl1c))
    go_wp2
    go_ret2
    exact ⟨rfl, by (repeat (first | with_reducible exact Below.refl _ _ | with_reducible refine below_alloc ?_ _ | with_reducible refine below_drewN ?_ _ | with_reducible refine Below.drew ?_ | ((with_reducible refine below_set ?_ ?_ _); rotate_left; (focus (first | (simp; done) | (simp; omega) | omega))) | with_reducible refine below_call ?_ (by assumption)))⟩
  · rw [steep_yes hv]
    obtain ⟨hb, h1, h2⟩ := vSun_yes hv
    have hsb := stepI_bd hl hb (by rw [hl] at h1; exact h1)
    have hmb := mostK_bd hsb
    rw [hl] at h1 h2
    have HB := Lib.hid hb
    have HSB := Lib.hid hsb
    have HMB := Lib.hid hmb
    clear hb hsb hmb
    go_enter Try.func17, Try.ntmps17
    go_wp2_with fail
    refine (ValidSunCam_any _ _ _ _ zs _ (by exact Ints.below (H.out) (by (repeat (first | with_reducible exact Below.refl _ _ | with_reducible refine below_alloc ?_ _ | with_reducible refine below_drewN ?_ _ | with_reducible refine Below.drew ?_ | ((with_reducible refine below_set ?_ ?_ _); rotate_left; (focus (first | (simp; done) | (simp; omega) | omega))) | with_reducible refine below_call ?_ (by assumption))))) (by exact Below.size (B := w.heap.size) (w := w) (by (repeat (first | with_reducible exact Below.refl _ _ | with_reducible refine below_alloc ?_ _ | with_reducible refine below_drewN ?_ _ | with_reducible refine Below.drew ?_ | ((with_reducible refine below_set ?_ ?_ _); rotate_left; (focus (first | (simp; done) | (simp; omega) | omega))) | with_reducible refine below_call ?_ (by assumption))))) hn).mono ?_
    rintro e w1 ⟨rfl, hb1⟩
    obtain ⟨hc1, hf1, hs1⟩ := bcell hb1
    (try (refine cut_ (p := w.heap.size < w1.heap.size) ?_ ?_; (focus (refine hs1 _ ?_; first | assumption | omega | (simp [go_sem]; done) | (simp [go_sem]; omega))); intro hl1a))
    (try (refine cut_ (p := w.heap.size + 1 < w1.heap.size) ?_ ?_; (focus (refine hs1 _ ?_; first | assumption | omega | (simp [go_sem]; done) | (simp [go_sem]; omega))); intro hl1b))
    (try (refine cut_ (p := w.heap.size + 1 + 1 < w1.heap.size) ?_ ?_; (focus (refine hs1 _ ?_; first | assumption | omega | (simp [go_sem]; done) | (simp [go_sem]; omega))); intro hl1c))
    have B1 : Below w.heap.size w w1 := by (repeat (first | with_reducible exact Below.refl _ _ | with_reducible refine below_alloc ?_ _ | with_reducible refine below_drewN ?_ _ | with_reducible refine Below.drew ?_ | ((with_reducible refine below_set ?_ ?_ _); rotate_left; (focus (first | (simp; done) | (simp; omega) | omega))) | with_reducible refine below_call ?_ (by assumption)))
    have l1 : w1.cell? ⟨w.heap.size, 0, none⟩ = some (.slice A n c) := by simp [go_sem, hc1, *]
    have z1 : w.heap.size < w1.heap.size := by omega
    clear hc1 hf1 hs1 hb1
    have H1 := Lib.hid (Ints.below H.out B1)
    have L1 := Lib.hid l1
    have D1 := Lib.hid B1
    clear B1
    go_wp2
    go_loopw [4, 5, 6, 7, 8, 15] (fun v m _ _ _ t wr => ∃ k : Nat, t = .int .i64 k ∧ k ≤ n ∧ v = .int .i64 (bestK zs n k : Int) ∧ m = .int .i64 (mostK zs n k) ∧ wr.cell? ⟨w.heap.size, 0, none⟩ = some (.slice A n c) ∧ w.heap.size < wr.heap.size ∧ Below w.heap.size w wr) (fun _ _ _ _ _ t _ => n - (intOf t).toNat)
    case atStart => exact ⟨0, rfl, Nat.zero_le _, rfl, rfl, l1, z1, D1.out⟩
    case round =>
      obtain ⟨k, rfl, hk, rfl, rfl, hbx, hlt0, hBw⟩ := hrel
      clear l1 z1
      have H2 := Ints.below H.out hBw
      by_cases hlt : k < n
      · have hj : (k + 1) % n < n := Nat.mod_lt _ (by omega)
        have b1 := HB.out k (by rw [hl]; exact hlt)
        have b2 := HB.out ((k + 1) % n) (by rw [hl]; exact hj)
        have m1 := HMB.out k hk
        have u1 := @most_up zs n k
        have u2 := @most_keep zs n k
        have hE : stepI zs n k = ((zs.getD ((k + 1) % n) 0 - zs.getD k 0).natAbs : Int) := rfl
        obtain ⟨b, off, rfl, hbl, hc⟩ := H2.2 (by omega)
        have c1 := hc _ hlt
        have c2 := hc _ hj
        have qr : ((k + 1 : Nat) : Int).tmod (n : Int) = (((k + 1) % n : Nat) : Int) := by
          rw [Int.tmod_eq_emod_of_nonneg (Int.natCast_nonneg _)]; exact (Int.natCast_emod _ n).symm
        generalize hJ : (k + 1) % n = J at *
        generalize stepI zs n k = s at *
        generalize mostK zs n k = m at *
        have w1 : IntKind.i64.wrap ((k : Int) + 1) = (k : Int) + 1 := IntWalk.i64_in _ (by omega)
        have w2 : ((k : Int) + 1).tmod (n : Int) = (J : Int) := by rw [← qr]; rfl
        have w3 : IntKind.i64.wrap (zs.getD J 0 - zs.getD k 0) = zs.getD J 0 - zs.getD k 0 := IntWalk.i64_in _ (by omega)
        generalize zs.getD k 0 = x at *
        generalize zs.getD J 0 = y at *
        have i0 : (0 : Int) ≤ (k : Int) := Int.natCast_nonneg _
        have i1 : (k : Int) < (n : Int) := by omega
        have j0 : (0 : Int) ≤ (J : Int) := Int.natCast_nonneg _
        have j1 : (J : Int) < (n : Int) := by omega
        have hn0 : ((n : Int) == 0) = false := by rw [beq_eq_false_iff_ne]; omega
        have n2 : ¬ ((n : Int) = 0) := by omega
        have n3 : ¬ (n = 0) := by omega
        subst hE
        have U1 := Lib.hid u1
        have U2 := Lib.hid u2
        clear hJ qr hc u1 u2 H2
        by_cases hgt : m < ((y - x).natAbs : Int)
        · have U := Lib.hid (U1.out hgt)
          go_wp2
          go_quiet ((go_at_call 40; exact quiet_left (abs_any _ _ (by omega))))
          go_wp2
          go_roundw
          case rel => exact ⟨k + 1, by go_num, by omega, by rw [U.out.1], by rw [U.out.2], by first | assumption | simpa using hbx, by first | assumption | simpa using hlt0, by first | exact hBw | exact below_drewN hBw _⟩
          case measure => simp [intOf]; omega
        · have U := Lib.hid (U2.out hgt)
          go_wp2
          go_quiet ((go_at_call 40; exact quiet_left (abs_any _ _ (by omega))))
          go_wp2
          go_roundw
          case rel => exact ⟨k + 1, by go_num, by omega, by rw [U.out.1], by rw [U.out.2], by first | assumption | simpa using hbx, by first | assumption | simpa using hlt0, by first | exact hBw | exact below_drewN hBw _⟩
          case measure => simp [intOf]; omega
      · have HE := Lib.hid (show k = n by omega)
        go_wp2
        go_ret2
        exact ⟨by rw [HE.out]; rfl, hBw⟩
end Go.Proofs.Ytmmpbbhddhapmaa
