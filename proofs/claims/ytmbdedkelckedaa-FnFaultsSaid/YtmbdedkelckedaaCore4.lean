/- Contracts of the program's and the reference's functions, several texts in one; what each says, and its conditions, stands at its head. -/
import Derived.Test.YtmbdedkelckedaaCore1
import Derived.Test.YtmbdedkelckedaaCore3
/- Contracts of the validity of cams and of perpetual works, the program's and the reference's. No conditions but that a cam has at most 2^20 levels. -/
namespace Go.Proofs.Ytmbdedkelckedaa
open Go.RowKit
set_option linter.unusedVariables false
set_option linter.unusedSimpArgs false
/-- a cam is valid -/
def vCam (zs : List Int) : Bool := zs.all (fun z => inB z 1 60) && inB zs.length 1 260
theorem vCam_yes {zs : List Int} (h : vCam zs = true) : (∀ j, j < zs.length → 1 ≤ zs.getD j 0 ∧ zs.getD j 0 ≤ 60) ∧ 1 ≤ zs.length ∧ zs.length ≤ 260 := by
  simp only [vCam, Bool.and_eq_true, List.all_eq_true] at h
  obtain ⟨h1, h2⟩ := h
  have := inB_yes h2
  refine ⟨fun j hj => ?_, by omega, by omega⟩
  rw [getD_of hj]
  exact inB_yes (h1 _ (List.getElem_mem hj))
theorem vCam_bad {zs : List Int} {k : Nat} (hk : k < zs.length) (h : inB (zs.getD k 0) 1 60 = false) : vCam zs = false := by
  have : zs.all (fun z => inB z 1 60) = false := by
    rw [List.all_eq_false]
    exact ⟨zs[k], List.getElem_mem hk, by rw [getD_of hk] at h; simp [h]⟩
  rw [vCam, this]; rfl
theorem vCam_len {zs : List Int} {n : Nat} (hl : zs.length = n) (h : ∀ j, j < n → inB (zs.getD j 0) 1 60 = true) : vCam zs = inB n 1 260 := by
  have : zs.all (fun z => inB z 1 60) = true := by
    rw [List.all_eq_true]
    intro x hx
    obtain ⟨j, hj, rfl⟩ := List.mem_iff_getElem.1 hx
    have := h j (by omega)
    rwa [getD_of hj] at this
  rw [vCam, this, hl]; rfl
set_option maxHeartbeats 1000000 in
theorem ValidCam_any (A : Option Addr) (n c B : Nat) (zs : List Int) (w : World) (h : Ints w B A n zs) (hn : n ≤ 1048576) :
    Calls Try.prog 56 #[.slice A n c] w fun e w' => e = .returned (.bool (vCam zs)) ∧ w = w' := by
  have HL := Lib.hid h.len
  have H := Lib.hid h
  clear h
  go_enter Try.func56, Try.ntmps56
  go_wp2
  go_loop [4, 7] (fun g t => ∃ k : Nat, t = .int .i64 k ∧ k ≤ n ∧ Hid (∀ j, j < k → inB (zs.getD j 0) 1 60 = true)) (fun _ t => n - (intOf t).toNat)
  case atStart => exact ⟨0, rfl, Nat.zero_le _, Lib.hid (fun j hj => absurd hj (by omega))⟩
  case round =>
    obtain ⟨k, rfl, hk, hj⟩ := hrel
    by_cases hlt : k < n
    · obtain ⟨b, off, rfl, hbl, hc⟩ := H.out.at_ hlt
      obtain ⟨x, hx⟩ : ∃ x, zs.getD k 0 = x := ⟨_, rfl⟩
      rw [hx] at hc
      have HX := Lib.hid hx
      clear hx
      cases hi : inB x 1 60
      · have HV := Lib.hid (vCam_bad (zs := zs) (k := k) (by rw [HL.out]; exact hlt) (by rw [HX.out]; exact hi))
        go_wp2_with (go_at_call 33; refine (within_any _ _ _ _).mono ?_; rintro e w' ⟨rfl, rfl⟩)
        go_ret
        exact ⟨ret_bool HV.out.symm, rfl⟩
      · go_wp2_with (go_at_call 33; refine (within_any _ _ _ _).mono ?_; rintro e w' ⟨rfl, rfl⟩)
        go_round
        case rel =>
          refine ⟨k + 1, by go_num, by omega, Lib.hid (fun j hj2 => ?_)⟩
          by_cases e : j = k
          · subst e; rw [HX.out]; exact hi
          · exact hj.out j (by omega)
        case measure => simp [intOf]; omega
    · have HV := Lib.hid (vCam_len HL.out (fun j hj2 => hj.out j (by omega)))
      by_cases a1 : 1 ≤ n
      · by_cases a2 : n ≤ 260
        · go_wp2
          go_ret
          exact ⟨ret_bool (by rw [HV.out]; simp [inB]; omega), rfl⟩
        · go_wp2
          go_ret
          exact ⟨ret_bool (by rw [HV.out]; simp [inB]; omega), rfl⟩
      · go_wp2
        go_ret
        exact ⟨ret_bool (by rw [HV.out]; simp [inB]; omega), rfl⟩
set_option maxHeartbeats 1000000 in
theorem l17Ok_any (A : Option Addr) (n c B : Nat) (zs : List Int) (w : World) (h : Ints w B A n zs) (hn : n ≤ 1048576) :
    Calls Try.prog 68 #[.slice A n c] w fun e w' => e = .returned (.bool (vCam zs)) ∧ w = w' := by
  have HL := Lib.hid h.len
  have H := Lib.hid h
  clear h
  go_enter Try.func68, Try.ntmps68
  go_wp2
  go_loop [3] (fun t => ∃ k : Nat, t = .int .i64 k ∧ k ≤ n ∧ Hid (∀ j, j < k → inB (zs.getD j 0) 1 60 = true)) (fun t => n - (intOf t).toNat)
  case atStart => exact ⟨0, rfl, Nat.zero_le _, Lib.hid (fun j hj => absurd hj (by omega))⟩
  case round =>
    obtain ⟨k, rfl, hk, hj⟩ := hrel
    by_cases hlt : k < n
    · obtain ⟨b, off, rfl, hbl, hc⟩ := H.out.at_ hlt
      obtain ⟨x, hx⟩ : ∃ x, zs.getD k 0 = x := ⟨_, rfl⟩
      rw [hx] at hc
      have HX := Lib.hid hx
      clear hx
      cases hi : inB x 1 60
      · have HV := Lib.hid (vCam_bad (zs := zs) (k := k) (by rw [HL.out]; exact hlt) (by rw [HX.out]; exact hi))
        go_wp2_with (go_at_call 54; refine (l00In_any _ _ _ _).mono ?_; rintro e w' ⟨rfl, rfl⟩)
        go_ret
        exact ⟨ret_bool HV.out.symm, rfl⟩
      · go_wp2_with (go_at_call 54; refine (l00In_any _ _ _ _).mono ?_; rintro e w' ⟨rfl, rfl⟩)
        go_round
        case rel =>
          refine ⟨k + 1, by go_num, by omega, Lib.hid (fun j hj2 => ?_)⟩
          by_cases e : j = k
          · subst e; rw [HX.out]; exact hi
          · exact hj.out j (by omega)
        case measure => simp [intOf]; omega
    · have HV := Lib.hid (vCam_len HL.out (fun j hj2 => hj.out j (by omega)))
      go_wp2_with (go_at_call 54; refine (l00In_any _ _ _ _).mono ?_; rintro e w' ⟨rfl, rfl⟩)
      go_ret
      exact ⟨ret_bool HV.out.symm, rfl⟩
/-- the greatest of the first k + 1 -/
def maxK (zs : List Int) : Nat → Int
  | 0 => zs.getD 0 0
  | k + 1 => if maxK zs k < zs.getD (k + 1) 0 then zs.getD (k + 1) 0 else maxK zs k
theorem maxK_le (zs : List Int) (t : Int) : ∀ k, maxK zs k ≤ t ↔ ∀ j, j ≤ k → zs.getD j 0 ≤ t
  | 0 => ⟨fun h j hj => by rw [show j = 0 by omega]; exact h, fun h => h 0 (Nat.le_refl _)⟩
  | k + 1 => by
    have ih := maxK_le zs t k
    constructor
    · intro h j hj
      simp only [maxK] at h
      by_cases e : j = k + 1
      · subst e; split at h <;> omega
      · exact ih.mp (by split at h <;> omega) j (by omega)
    · intro h
      have h1 := ih.mpr (fun j hj => h j (by omega))
      have h2 := h (k + 1) (Nat.le_refl _)
      simp only [maxK]; split <;> omega
set_option maxHeartbeats 1000000 in
theorem Max_any (A : Option Addr) (n c B : Nat) (zs : List Int) (w : World) (h : Ints w B A n zs) (hn1 : 1 ≤ n) (hn : n ≤ 1048576) :
    Calls Try.prog 73 #[.slice A n c] w fun e w' => e = .returned (.int .i64 (maxK zs (n - 1))) ∧ w = w' := by
  obtain ⟨b0, off0, rfl, _, hc00⟩ := h.2 (by omega)
  have hc0 : w.cell? ⟨b0, off0, none⟩ = some (.int .i64 (zs.getD 0 0)) := hc00 0 (by omega)
  have H := Lib.hid h
  obtain ⟨x0, hx0⟩ : ∃ x, zs.getD 0 0 = x := ⟨_, rfl⟩
  rw [hx0] at hc0
  have HX0 := Lib.hid hx0
  clear h hc00 hx0
  go_enter Try.func73, Try.ntmps73
  go_wp2
  go_loop [3, 4] (fun m t => ∃ k : Nat, t = .int .i64 ((k + 1 : Nat) : Int) ∧ k + 1 ≤ n ∧ m = .int .i64 (maxK zs k)) (fun _ t => n - (intOf t).toNat)
  case atStart => exact ⟨0, rfl, hn1, by rw [maxK, HX0.out]⟩
  case round =>
    obtain ⟨k, rfl, hk, rfl⟩ := hrel
    by_cases hlt : k + 1 < n
    · obtain ⟨b, off, e0, hbl, hc⟩ := H.out.at_ hlt
      cases e0
      have hs : maxK zs (k + 1) = if maxK zs k < zs.getD (k + 1) 0 then zs.getD (k + 1) 0 else maxK zs k := rfl
      generalize zs.getD (k + 1) 0 = x at *
      generalize maxK zs k = m at *
      by_cases hm : m < x
      · have HS := Lib.hid (hs.trans (if_pos hm))
        have hm2 : max m x = x := by omega
        clear hs
        go_wp2
        go_round
        case rel => exact ⟨k + 1, by go_num, by omega, by rw [HS.out]⟩
        case measure => simp [intOf]; omega
      · have HS := Lib.hid (hs.trans (if_neg hm))
        have hm2 : max m x = m := by omega
        clear hs
        go_wp2
        go_round
        case rel => exact ⟨k + 1, by go_num, by omega, by rw [HS.out]⟩
        case measure => simp [intOf]; omega
    · have HE := Lib.hid (show n - 1 = k by omega)
      go_wp2
      go_ret
      exact ⟨ret_int (by rw [HE.out]), rfl⟩
end Go.Proofs.Ytmbdedkelckedaa

/- Contracts of the two functions ValidPerpetual. No conditions but that a cam has at most 2^20 levels. -/
namespace Go.Proofs.Ytmbdedkelckedaa
open Go.RowKit
set_option linter.unusedVariables false
set_option linter.unusedSimpArgs false
/-- all levels lie at or below te -/
def allLe (zs : List Int) (te : Int) : Bool := zs.all (fun z => decide (z ≤ te))
theorem allLe_yes {zs : List Int} {te : Int} (h : ∀ j, j < zs.length → zs.getD j 0 ≤ te) : allLe zs te = true := by
  rw [allLe, List.all_eq_true]
  intro x hx
  obtain ⟨j, hj, rfl⟩ := List.mem_iff_getElem.1 hx
  have := h j hj
  rw [getD_of hj] at this
  simpa using this
theorem allLe_no {zs : List Int} {te : Int} {j : Nat} (hj : j < zs.length) (h : te < zs.getD j 0) : allLe zs te = false := by
  rw [allLe, List.all_eq_false]
  exact ⟨zs[j], List.getElem_mem hj, by rw [getD_of hj] at h; simp; omega⟩
theorem allLe_max {zs : List Int} {te : Int} {n : Nat} (hl : zs.length = n) (hn : 1 ≤ n) : allLe zs te = decide (maxK zs (n - 1) ≤ te) := by
  by_cases h : maxK zs (n - 1) ≤ te
  · rw [decide_eq_true h]
    exact allLe_yes (fun j hj => (maxK_le zs te (n - 1)).mp h j (by omega))
  · rw [decide_eq_false h]
    by_cases e : allLe zs te = true
    · exfalso
      apply h
      refine (maxK_le zs te (n - 1)).mpr (fun j hj => ?_)
      rw [allLe, List.all_eq_true] at e
      have := e zs[j] (List.getElem_mem (by omega))
      rw [getD_of (show j < zs.length by omega)]
      simpa using this
    · simpa using e
/-- a perpetual work is valid -/
def vPerp (zs : List Int) (n : Nat) (mo te ix da we wd : Int) : Bool :=
  vCam zs && (decide (1 ≤ mo) && (decide ((n : Int).tmod mo = 0) && (inB te 1 60 && (allLe zs te && (inB ix 0 ((n : Int) - 1) && (inB da 1 te && (inB we 1 12 && inB wd 1 we)))))))
set_option maxHeartbeats 4000000 in
theorem ValidPerpetual_any (A : Option Addr) (n c B : Nat) (zs : List Int) (mo te ix da we wd : Int) (w : World) (h : Ints w B A n zs) (hB : B ≤ w.heap.size) (hn : n ≤ 1048576) :
    Calls Try.prog 31 #[.agg #[.slice A n c, .int .i64 mo, .int .i64 te, .int .i64 ix, .int .i64 da, .int .i64 we, .int .i64 wd]] w fun e w' => e = .returned (.bool (vPerp zs n mo te ix da we wd)) ∧ Below w.heap.size w w' := by
  have hl := h.len
  have H := Lib.hid (h.more hB)
  clear h
  obtain ⟨V, hV⟩ : ∃ V, vPerp zs n mo te ix da we wd = V := ⟨_, rfl⟩
  rw [hV]
  unfold vPerp at hV
  have cV := fun (W : World) (h : Ints W w.heap.size A n zs) => ValidCam_any A n c w.heap.size zs W h hn
  cases hc : vCam zs
  · simp only [hc, Bool.false_and] at hV cV
    have HV := Lib.hid hV
    have CV := Lib.hid cV
    clear hV cV
    go_enter Try.func31, Try.ntmps31
    go_wp2_with (go_at_call 56; refine (CV.out _ (by exact Ints.below (H.out) (by (repeat (first | with_reducible exact Below.refl _ _ | with_reducible refine below_alloc ?_ _ | with_reducible refine below_drewN ?_ _ | with_reducible refine Below.drew ?_ | ((with_reducible refine below_set ?_ ?_ _); rotate_left; (focus (first | (simp; done) | (simp; omega) | omega))) | with_reducible refine below_call ?_ (by assumption)))))).mono ?_; rintro e w' ⟨rfl, rfl⟩)
    go_ret
    exact ⟨ret_bool HV.out, by (repeat (first | with_reducible exact Below.refl _ _ | with_reducible refine below_alloc ?_ _ | with_reducible refine below_drewN ?_ _ | with_reducible refine Below.drew ?_ | ((with_reducible refine below_set ?_ ?_ _); rotate_left; (focus (first | (simp; done) | (simp; omega) | omega))) | with_reducible refine below_call ?_ (by assumption)))⟩
  · obtain ⟨v1, v2, v3⟩ := vCam_yes hc
    rw [hl] at v2 v3
    have cM := fun (W : World) (h : Ints W w.heap.size A n zs) => Max_any A n c w.heap.size zs W h v2 hn
    have hM := allLe_max (te := te) hl v2
    have hx0 := (maxK_le zs te (n - 1)).mp
    simp only [hc, Bool.true_and, hM] at hV cV
    have CV := Lib.hid cV
    have CM := Lib.hid cM
    have t1 : maxK zs (n - 1) ≤ te → 1 ≤ te := fun h => by have := hx0 h 0 (by omega); have := v1 0 (by omega); omega
    generalize maxK zs (n - 1) = M at *
    clear hM cV cM hx0
    by_cases hmo : mo < 1
    · rw [decide_eq_false (show ¬ 1 ≤ mo by omega)] at hV
      have HV := Lib.hid hV
      clear hV
      go_enter Try.func31, Try.ntmps31
      go_wp2_with (go_at_call 56; refine (CV.out _ (by exact Ints.below (H.out) (by (repeat (first | with_reducible exact Below.refl _ _ | with_reducible refine below_alloc ?_ _ | with_reducible refine below_drewN ?_ _ | with_reducible refine Below.drew ?_ | ((with_reducible refine below_set ?_ ?_ _); rotate_left; (focus (first | (simp; done) | (simp; omega) | omega))) | with_reducible refine below_call ?_ (by assumption)))))).mono ?_; rintro e w' ⟨rfl, rfl⟩)
      go_ret
      exact ⟨ret_bool HV.out, by (repeat (first | with_reducible exact Below.refl _ _ | with_reducible refine below_alloc ?_ _ | with_reducible refine below_drewN ?_ _ | with_reducible refine Below.drew ?_ | ((with_reducible refine below_set ?_ ?_ _); rotate_left; (focus (first | (simp; done) | (simp; omega) | omega))) | with_reducible refine below_call ?_ (by assumption)))⟩
    · rw [decide_eq_true (show 1 ≤ mo by omega)] at hV
      have mo0 : (mo == 0) = false := by rw [beq_eq_false_iff_ne]; omega
      have mo2 : ¬ mo = 0 := by omega
      obtain ⟨r, hr⟩ : ∃ r, (n : Int).tmod mo = r := ⟨_, rfl⟩
      rw [hr] at hV
      have hr0 : 0 ≤ r := by rw [← hr]; exact Int.tmod_nonneg _ (by omega)
      have hr1 : r < mo := by rw [← hr]; exact Int.tmod_lt_of_pos _ (by omega)
      have hr2 : r ≤ 1048576 := by
        have := Int.mul_tdiv_add_tmod (n : Int) mo
        rw [hr] at this
        have h3 : 0 ≤ (n : Int).tdiv mo := Int.tdiv_nonneg (by omega) (by omega)
        have h4 : 0 ≤ mo * (n : Int).tdiv mo := Int.mul_nonneg (by omega) h3
        omega
      by_cases hrz : r = 0
      · subst hrz
        simp only [decide_true, Bool.true_and] at hV
        by_cases hte : 60 < te
        · rw [show inB te 1 60 = false by simp [inB]; omega] at hV
          have HV := Lib.hid hV
          clear hV
          go_enter Try.func31, Try.ntmps31
          go_wp2_with (go_at_call 56; refine (CV.out _ (by exact Ints.below (H.out) (by (repeat (first | with_reducible exact Below.refl _ _ | with_reducible refine below_alloc ?_ _ | with_reducible refine below_drewN ?_ _ | with_reducible refine Below.drew ?_ | ((with_reducible refine below_set ?_ ?_ _); rotate_left; (focus (first | (simp; done) | (simp; omega) | omega))) | with_reducible refine below_call ?_ (by assumption)))))).mono ?_; rintro e w' ⟨rfl, rfl⟩)
          go_quiet ((go_at_call 73; exact quiet_left (CM.out _ (by exact Ints.below H.out (by (repeat (first | with_reducible exact Below.refl _ _ | with_reducible refine below_alloc ?_ _ | with_reducible refine below_drewN ?_ _ | with_reducible refine Below.drew ?_ | ((with_reducible refine below_set ?_ ?_ _); rotate_left; (focus (first | (simp; done) | (simp; omega) | omega))) | with_reducible refine below_call ?_ (by assumption))))))))
          go_wp2
          go_ret
          exact ⟨ret_bool HV.out, by (repeat (first | with_reducible exact Below.refl _ _ | with_reducible refine below_alloc ?_ _ | with_reducible refine below_drewN ?_ _ | with_reducible refine Below.drew ?_ | ((with_reducible refine below_set ?_ ?_ _); rotate_left; (focus (first | (simp; done) | (simp; omega) | omega))) | with_reducible refine below_call ?_ (by assumption)))⟩
        · by_cases hmx : M ≤ te
          · have t2 := t1 hmx
            rw [show inB te 1 60 = true by simp [inB]; omega, decide_eq_true hmx] at hV
            simp only [Bool.true_and] at hV
            have n1 : IntKind.i64.wrap ((n : Int) - 1) = (n : Int) - 1 := IntWalk.i64_in _ (by omega)
            cases i1 : inB ix 0 ((n : Int) - 1)
            · rw [i1] at hV
              have HV := Lib.hid hV
              clear hV
              go_enter Try.func31, Try.ntmps31
              go_wp2_with (go_at_call 56; refine (CV.out _ (by exact Ints.below (H.out) (by (repeat (first | with_reducible exact Below.refl _ _ | with_reducible refine below_alloc ?_ _ | with_reducible refine below_drewN ?_ _ | with_reducible refine Below.drew ?_ | ((with_reducible refine below_set ?_ ?_ _); rotate_left; (focus (first | (simp; done) | (simp; omega) | omega))) | with_reducible refine below_call ?_ (by assumption)))))).mono ?_; rintro e w' ⟨rfl, rfl⟩)
              go_quiet ((go_at_call 73; exact quiet_left (CM.out _ (by exact Ints.below H.out (by (repeat (first | with_reducible exact Below.refl _ _ | with_reducible refine below_alloc ?_ _ | with_reducible refine below_drewN ?_ _ | with_reducible refine Below.drew ?_ | ((with_reducible refine below_set ?_ ?_ _); rotate_left; (focus (first | (simp; done) | (simp; omega) | omega))) | with_reducible refine below_call ?_ (by assumption))))))))
              go_wp2_with (go_at_call 33; refine (within_any _ _ _ _).mono ?_; rintro e w' ⟨rfl, rfl⟩)
              go_ret
              exact ⟨ret_bool HV.out, by (repeat (first | with_reducible exact Below.refl _ _ | with_reducible refine below_alloc ?_ _ | with_reducible refine below_drewN ?_ _ | with_reducible refine Below.drew ?_ | ((with_reducible refine below_set ?_ ?_ _); rotate_left; (focus (first | (simp; done) | (simp; omega) | omega))) | with_reducible refine below_call ?_ (by assumption)))⟩
            · cases i2 : inB da 1 te
              · rw [i1, i2] at hV
                have HV := Lib.hid hV
                clear hV
                go_enter Try.func31, Try.ntmps31
                go_wp2_with (go_at_call 56; refine (CV.out _ (by exact Ints.below (H.out) (by (repeat (first | with_reducible exact Below.refl _ _ | with_reducible refine below_alloc ?_ _ | with_reducible refine below_drewN ?_ _ | with_reducible refine Below.drew ?_ | ((with_reducible refine below_set ?_ ?_ _); rotate_left; (focus (first | (simp; done) | (simp; omega) | omega))) | with_reducible refine below_call ?_ (by assumption)))))).mono ?_; rintro e w' ⟨rfl, rfl⟩)
                go_quiet ((go_at_call 73; exact quiet_left (CM.out _ (by exact Ints.below H.out (by (repeat (first | with_reducible exact Below.refl _ _ | with_reducible refine below_alloc ?_ _ | with_reducible refine below_drewN ?_ _ | with_reducible refine Below.drew ?_ | ((with_reducible refine below_set ?_ ?_ _); rotate_left; (focus (first | (simp; done) | (simp; omega) | omega))) | with_reducible refine below_call ?_ (by assumption))))))))
                go_wp2_with (go_at_call 33; refine (within_any _ _ _ _).mono ?_; rintro e w' ⟨rfl, rfl⟩)
                go_ret
                exact ⟨ret_bool HV.out, by (repeat (first | with_reducible exact Below.refl _ _ | with_reducible refine below_alloc ?_ _ | with_reducible refine below_drewN ?_ _ | with_reducible refine Below.drew ?_ | ((with_reducible refine below_set ?_ ?_ _); rotate_left; (focus (first | (simp; done) | (simp; omega) | omega))) | with_reducible refine below_call ?_ (by assumption)))⟩
              · cases i3 : inB we 1 12
                · rw [i1, i2, i3] at hV
                  have HV := Lib.hid hV
                  clear hV
                  go_enter Try.func31, Try.ntmps31
                  go_wp2_with (go_at_call 56; refine (CV.out _ (by exact Ints.below (H.out) (by (repeat (first | with_reducible exact Below.refl _ _ | with_reducible refine below_alloc ?_ _ | with_reducible refine below_drewN ?_ _ | with_reducible refine Below.drew ?_ | ((with_reducible refine below_set ?_ ?_ _); rotate_left; (focus (first | (simp; done) | (simp; omega) | omega))) | with_reducible refine below_call ?_ (by assumption)))))).mono ?_; rintro e w' ⟨rfl, rfl⟩)
                  go_quiet ((go_at_call 73; exact quiet_left (CM.out _ (by exact Ints.below H.out (by (repeat (first | with_reducible exact Below.refl _ _ | with_reducible refine below_alloc ?_ _ | with_reducible refine below_drewN ?_ _ | with_reducible refine Below.drew ?_ | ((with_reducible refine below_set ?_ ?_ _); rotate_left; (focus (first | (simp; done) | (simp; omega) | omega))) | with_reducible refine below_call ?_ (by assumption))))))))
                  go_wp2_with (go_at_call 33; refine (within_any _ _ _ _).mono ?_; rintro e w' ⟨rfl, rfl⟩)
                  go_ret
                  exact ⟨ret_bool HV.out, by (repeat (first | with_reducible exact Below.refl _ _ | with_reducible refine below_alloc ?_ _ | with_reducible refine below_drewN ?_ _ | with_reducible refine Below.drew ?_ | ((with_reducible refine below_set ?_ ?_ _); rotate_left; (focus (first | (simp; done) | (simp; omega) | omega))) | with_reducible refine below_call ?_ (by assumption)))⟩
                · rw [i1, i2, i3] at hV
                  have HV := Lib.hid hV
                  clear hV
                  go_enter Try.func31, Try.ntmps31
                  go_wp2_with (go_at_call 56; refine (CV.out _ (by exact Ints.below (H.out) (by (repeat (first | with_reducible exact Below.refl _ _ | with_reducible refine below_alloc ?_ _ | with_reducible refine below_drewN ?_ _ | with_reducible refine Below.drew ?_ | ((with_reducible refine below_set ?_ ?_ _); rotate_left; (focus (first | (simp; done) | (simp; omega) | omega))) | with_reducible refine below_call ?_ (by assumption)))))).mono ?_; rintro e w' ⟨rfl, rfl⟩)
                  go_quiet ((go_at_call 73; exact quiet_left (CM.out _ (by exact Ints.below H.out (by (repeat (first | with_reducible exact Below.refl _ _ | with_reducible refine below_alloc ?_ _ | with_reducible refine below_drewN ?_ _ | with_reducible refine Below.drew ?_ | ((with_reducible refine below_set ?_ ?_ _); rotate_left; (focus (first | (simp; done) | (simp; omega) | omega))) | with_reducible refine below_call ?_ (by assumption))))))))
                  go_wp2_with (go_at_call 33; refine (within_any _ _ _ _).mono ?_; rintro e w' ⟨rfl, rfl⟩)
                  go_ret
                  exact ⟨ret_bool HV.out, by (repeat (first | with_reducible exact Below.refl _ _ | with_reducible refine below_alloc ?_ _ | with_reducible refine below_drewN ?_ _ | with_reducible refine Below.drew ?_ | ((with_reducible refine below_set ?_ ?_ _); rotate_left; (focus (first | (simp; done) | (simp; omega) | omega))) | with_reducible refine below_call ?_ (by assumption)))⟩
          · rw [decide_eq_false hmx] at hV
            simp only [Bool.false_and, Bool.and_false] at hV
            have HV := Lib.hid hV
            clear hV
            go_enter Try.func31, Try.ntmps31
            go_wp2_with (go_at_call 56; refine (CV.out _ (by exact Ints.below (H.out) (by (repeat (first | with_reducible exact Below.refl _ _ | with_reducible refine below_alloc ?_ _ | with_reducible refine below_drewN ?_ _ | with_reducible refine Below.drew ?_ | ((with_reducible refine below_set ?_ ?_ _); rotate_left; (focus (first | (simp; done) | (simp; omega) | omega))) | with_reducible refine below_call ?_ (by assumption)))))).mono ?_; rintro e w' ⟨rfl, rfl⟩)
            go_quiet ((go_at_call 73; exact quiet_left (CM.out _ (by exact Ints.below H.out (by (repeat (first | with_reducible exact Below.refl _ _ | with_reducible refine below_alloc ?_ _ | with_reducible refine below_drewN ?_ _ | with_reducible refine Below.drew ?_ | ((with_reducible refine below_set ?_ ?_ _); rotate_left; (focus (first | (simp; done) | (simp; omega) | omega))) | with_reducible refine below_call ?_ (by assumption))))))))
            go_wp2
            go_ret
            exact ⟨ret_bool HV.out, by (repeat (first | with_reducible exact Below.refl _ _ | with_reducible refine below_alloc ?_ _ | with_reducible refine below_drewN ?_ _ | with_reducible refine Below.drew ?_ | ((with_reducible refine below_set ?_ ?_ _); rotate_left; (focus (first | (simp; done) | (simp; omega) | omega))) | with_reducible refine below_call ?_ (by assumption)))⟩
      · rw [decide_eq_false hrz] at hV
        have HV := Lib.hid hV
        have rz : (r != 0) = true := by simpa using hrz
        clear hV
        go_enter Try.func31, Try.ntmps31
        go_wp2_with (go_at_call 56; refine (CV.out _ (by exact Ints.below (H.out) (by (repeat (first | with_reducible exact Below.refl _ _ | with_reducible refine below_alloc ?_ _ | with_reducible refine below_drewN ?_ _ | with_reducible refine Below.drew ?_ | ((with_reducible refine below_set ?_ ?_ _); rotate_left; (focus (first | (simp; done) | (simp; omega) | omega))) | with_reducible refine below_call ?_ (by assumption)))))).mono ?_; rintro e w' ⟨rfl, rfl⟩)
        go_ret
        exact ⟨ret_bool HV.out, by (repeat (first | with_reducible exact Below.refl _ _ | with_reducible refine below_alloc ?_ _ | with_reducible refine below_drewN ?_ _ | with_reducible refine Below.drew ?_ | ((with_reducible refine below_set ?_ ?_ _); rotate_left; (focus (first | (simp; done) | (simp; omega) | omega))) | with_reducible refine below_call ?_ (by assumption)))⟩
end Go.Proofs.Ytmbdedkelckedaa

/- Contracts of the reference's validity of perpetual works. No conditions but that a cam has at most 2^20 levels. -/
namespace Go.Proofs.Ytmbdedkelckedaa
open Go.RowKit
set_option linter.unusedVariables false
set_option linter.unusedSimpArgs false
theorem drew_more {w wr : World} (h : ∃ q, wr = w.drewN q) (m : Nat) : ∃ k, wr.drewN m = w.drewN k := by
  obtain ⟨q, rfl⟩ := h
  exact ⟨_, World.drewN_drewN _ _ _⟩
theorem l00In_valp {x lo hi : Int} {b : Bool} (w : World) (h : inB x lo hi = b) : Calls Try.prog 54 #[.int .i64 x, .int .i64 lo, .int .i64 hi] w fun e w' => e = .returned (.bool b) ∧ w = w' := by
  subst h; exact l00In_any _ _ _ _
theorem tmod_facts {n : Nat} {mo : Int} (hn : n ≤ 1048576) (hmo : 1 ≤ mo) : 0 ≤ (n : Int).tmod mo ∧ (n : Int).tmod mo ≤ 1048576 := by
  have hr0 : 0 ≤ (n : Int).tmod mo := Int.tmod_nonneg _ (by omega)
  have := Int.mul_tdiv_add_tmod (n : Int) mo
  have h3 : 0 ≤ (n : Int).tdiv mo := Int.tdiv_nonneg (by omega) (by omega)
  have h4 : 0 ≤ mo * (n : Int).tdiv mo := Int.mul_nonneg (by omega) h3
  omega
set_option maxHeartbeats 8000000 in
theorem l18Ok_any (A : Option Addr) (n c B g : Nat) (zs : List Int) (mo te ix da we wd : Int) (w : World) (h : Ints w B A n zs) (hB : B ≤ w.heap.size) (hn : n ≤ 1048576)
    (q0 : w.cell? ⟨g, 0, none⟩ = some (.slice A n c)) (q1 : w.cell? ⟨g, 1, none⟩ = some (.int .i64 mo)) (q2 : w.cell? ⟨g, 2, none⟩ = some (.int .i64 te)) (q3 : w.cell? ⟨g, 3, none⟩ = some (.int .i64 ix)) (q4 : w.cell? ⟨g, 4, none⟩ = some (.int .i64 da)) (q5 : w.cell? ⟨g, 5, none⟩ = some (.int .i64 we)) (q6 : w.cell? ⟨g, 6, none⟩ = some (.int .i64 wd)) :
    Calls Try.prog 29 #[.pointer (some ⟨g, 0, none⟩)] w fun e w' => e = .returned (.bool (vPerp zs n mo te ix da we wd)) ∧ ∃ k, w' = w.drewN k := by
  have hl := h.len
  have H := Lib.hid h
  clear h
  obtain ⟨V, hV⟩ : ∃ V, vPerp zs n mo te ix da we wd = V := ⟨_, rfl⟩
  rw [hV]
  unfold vPerp at hV
  have cV := fun (W : World) (h : Ints W B A n zs) => l17Ok_any A n c B zs W h hn
  cases hc : vCam zs
  · simp only [hc, Bool.false_and] at hV cV
    have HV := Lib.hid hV
    have CV := Lib.hid cV
    clear hV cV
    go_enter Try.func29, Try.ntmps29
    go_wp2
    go_quiet ((go_at_call 68; exact quiet_left (CV.out _ (Ints.drewN H.out _))))
    go_wp2
    go_ret
    exact ⟨ret_bool HV.out, _, rfl⟩
  · obtain ⟨v1, v2, v3⟩ := vCam_yes hc
    rw [hl] at v2 v3
    simp only [hc, Bool.true_and] at hV cV
    have CV := Lib.hid cV
    clear cV
    by_cases hmo : mo < 1
    · rw [decide_eq_false (show ¬ 1 ≤ mo by omega)] at hV
      have HV := Lib.hid hV
      clear hV
      go_enter Try.func29, Try.ntmps29
      go_wp2
      go_quiet ((go_at_call 68; exact quiet_left (CV.out _ (Ints.drewN H.out _))))
      go_wp2
      go_ret
      exact ⟨ret_bool HV.out, _, rfl⟩
    · rw [decide_eq_true (show 1 ≤ mo by omega)] at hV
      have mo0 : (mo == 0) = false := by rw [beq_eq_false_iff_ne]; omega
      have mo2 : ¬ mo = 0 := by omega
      obtain ⟨hr0, hr2⟩ := tmod_facts (n := n) (mo := mo) hn (by omega)
      obtain ⟨r, hr⟩ : ∃ r, (n : Int).tmod mo = r := ⟨_, rfl⟩
      rw [hr] at hV hr0 hr2
      by_cases hrz : r = 0
      · subst hrz
        simp only [decide_true, Bool.true_and] at hV
        cases ht : inB te 1 60
        · rw [ht] at hV
          have HV := Lib.hid hV
          clear hV
          go_enter Try.func29, Try.ntmps29
          go_wp2
          go_quiet ((first | (go_at_call 68; exact quiet_left (CV.out _ (Ints.drewN H.out _))) | (go_at_call 54; exact quiet_left (l00In_any _ _ _ _))))
          go_wp2
          go_ret
          exact ⟨ret_bool HV.out, _, rfl⟩
        · rw [ht] at hV
          simp only [Bool.true_and] at hV
          have htb := inB_yes ht
          have hno := fun j (hj : j < n) h => @allLe_no zs te j (by rw [hl]; exact hj) h
          have hyes := @allLe_yes zs te
          rw [hl] at hyes
          have HNO := Lib.hid hno
          have HYES := Lib.hid hyes
          have HV0 := Lib.hid hV
          clear hno hyes hV v1 hl
          go_enter Try.func29, Try.ntmps29
          go_wp2
          go_quiet ((first | (go_at_call 68; exact quiet_left (CV.out _ (Ints.drewN H.out _))) | (go_at_call 54; exact quiet_left (l00In_any _ _ _ _))))
          go_wp2
          go_loopw [3] (fun t wr => ∃ k : Nat, t = .int .i64 k ∧ k ≤ n ∧ Hid (∀ j, j < k → zs.getD j 0 ≤ te) ∧ wr.cell? ⟨g, 0, none⟩ = some (.slice A n c) ∧ wr.cell? ⟨g, 1, none⟩ = some (.int .i64 mo) ∧ wr.cell? ⟨g, 2, none⟩ = some (.int .i64 te) ∧ wr.cell? ⟨g, 3, none⟩ = some (.int .i64 ix) ∧ wr.cell? ⟨g, 4, none⟩ = some (.int .i64 da) ∧ wr.cell? ⟨g, 5, none⟩ = some (.int .i64 we) ∧ wr.cell? ⟨g, 6, none⟩ = some (.int .i64 wd) ∧ Hid (Ints wr B A n zs) ∧ Hid (∃ q, wr = w.drewN q)) (fun t _ => n - (intOf t).toNat)
          case atStart => exact ⟨0, rfl, Nat.zero_le _, Lib.hid (fun j hj => absurd hj (by omega)), q0, q1, q2, q3, q4, q5, q6, Lib.hid (Ints.drewN H.out _), Lib.hid ⟨_, rfl⟩⟩
          case round =>
            obtain ⟨k, rfl, hk, hj, p0, p1, p2, p3, p4, p5, p6, hi, hw⟩ := hrel
            clear q0 q1 q2 q3 q4 q5 q6
            by_cases hlt : k < n
            · obtain ⟨b, off, rfl, hbl, hcx⟩ := hi.out.at_ hlt
              obtain ⟨x, hx⟩ : ∃ x, zs.getD k 0 = x := ⟨_, rfl⟩
              rw [hx] at hcx
              have HX := Lib.hid hx
              have i0 : (0 : Int) ≤ (k : Int) := Int.natCast_nonneg _
              have i1 : (k : Int) < (n : Int) := by omega
              clear hx
              by_cases hgt : te < x
              · have hV := HV0.out
                rw [HNO.out k hlt (by rw [HX.out]; exact hgt)] at hV
                have HV := Lib.hid hV
                clear hV
                go_wp2
                go_quiet (fail)
                go_wp2
                go_ret
                exact ⟨ret_bool HV.out, by first | exact drew_more hw.out _ | exact hw.out⟩
              · go_wp2
                go_quiet (fail)
                go_wp2
                go_roundw
                case rel =>
                  refine ⟨k + 1, by go_num, by omega, Lib.hid (fun j hj2 => ?_), p0, p1, p2, p3, p4, p5, p6, Lib.hid (Ints.drewN hi.out _), Lib.hid (drew_more hw.out _)⟩
                  by_cases e : j = k
                  · subst e; rw [HX.out]; omega
                  · exact hj.out j (by omega)
                case measure => simp [intOf]; omega
            · have hV := HV0.out
              rw [HYES.out (fun j hj2 => hj.out j (by omega))] at hV
              simp only [Bool.true_and] at hV
              have n1 : IntKind.i64.wrap ((n : Int) - 1) = (n : Int) - 1 := IntWalk.i64_in _ (by omega)
              cases i1 : inB ix 0 ((n : Int) - 1)
              · rw [i1] at hV
                have HV := Lib.hid hV
                clear hV
                go_wp2
                go_quiet ((go_at_call 54; exact quiet_left (l00In_valp _ (by first | with_reducible exact i1 | with_reducible exact i2 | with_reducible exact i3 | exact rfl))))
                go_wp2
                go_ret
                exact ⟨ret_bool HV.out, by first | exact drew_more hw.out _ | exact hw.out⟩
              · cases i2 : inB da 1 te
                · rw [i1, i2] at hV
                  have HV := Lib.hid hV
                  clear hV
                  go_wp2
                  go_quiet ((go_at_call 54; exact quiet_left (l00In_valp _ (by first | with_reducible exact i1 | with_reducible exact i2 | with_reducible exact i3 | exact rfl))))
                  go_wp2
                  go_ret
                  exact ⟨ret_bool HV.out, by first | exact drew_more hw.out _ | exact hw.out⟩
                · cases i3 : inB we 1 12
                  · rw [i1, i2, i3] at hV
                    have HV := Lib.hid hV
                    clear hV
                    go_wp2
                    go_quiet ((go_at_call 54; exact quiet_left (l00In_valp _ (by first | with_reducible exact i1 | with_reducible exact i2 | with_reducible exact i3 | exact rfl))))
                    go_wp2
                    go_ret
                    exact ⟨ret_bool HV.out, by first | exact drew_more hw.out _ | exact hw.out⟩
                  · rw [i1, i2, i3] at hV
                    have HV := Lib.hid hV
                    clear hV
                    go_wp2
                    go_quiet ((go_at_call 54; exact quiet_left (l00In_valp _ (by first | with_reducible exact i1 | with_reducible exact i2 | with_reducible exact i3 | exact rfl))))
                    go_wp2
                    go_ret
                    exact ⟨ret_bool HV.out, by first | exact drew_more hw.out _ | exact hw.out⟩
      · rw [decide_eq_false hrz] at hV
        have HV := Lib.hid hV
        have rz : (r != 0) = true := by simpa using hrz
        clear hV
        go_enter Try.func29, Try.ntmps29
        go_wp2
        go_quiet ((go_at_call 68; exact quiet_left (CV.out _ (Ints.drewN H.out _))))
        go_wp2
        go_ret
        exact ⟨ret_bool HV.out, _, rfl⟩
set_option maxHeartbeats 1000000 in
theorem specValidPerpetual_any (A : Option Addr) (n c B : Nat) (zs : List Int) (mo te ix da we wd : Int) (w : World) (h : Ints w B A n zs) (hB : B ≤ w.heap.size) (hn : n ≤ 1048576) :
    Calls Try.prog 15 #[.agg #[.slice A n c, .int .i64 mo, .int .i64 te, .int .i64 ix, .int .i64 da, .int .i64 we, .int .i64 wd]] w fun e w' => e = .returned (.bool (vPerp zs n mo te ix da we wd)) ∧ Below w.heap.size w w' := by
  have H := Lib.hid (h.more hB)
  clear h
  obtain ⟨V, hV⟩ : ∃ V, vPerp zs n mo te ix da we wd = V := ⟨_, rfl⟩
  have HV := Lib.hid hV
  rw [hV]
  clear hV
  go_enter Try.func15, Try.ntmps15
  go_wp2_with fail
  go_at_call 29
  refine (l18Ok_any A n c w.heap.size w.heap.size zs mo te ix da we wd _ (H.out.alloc (Nat.le_refl _) _) (by simp) hn (by simp [go_sem]) (by simp [go_sem]) (by simp [go_sem]) (by simp [go_sem]) (by simp [go_sem]) (by simp [go_sem]) (by simp [go_sem])).mono ?_
  rintro e w1 ⟨rfl, m1, rfl⟩
  rw [HV.out]
  go_wp2
  go_ret
  exact ⟨rfl, by (repeat (first | with_reducible exact Below.refl _ _ | with_reducible refine below_alloc ?_ _ | with_reducible refine below_drewN ?_ _ | with_reducible refine Below.drew ?_ | ((with_reducible refine below_set ?_ ?_ _); rotate_left; (focus (first | (simp; done) | (simp; omega) | omega))) | with_reducible refine below_call ?_ (by assumption)))⟩
end Go.Proofs.Ytmbdedkelckedaa

/- Contracts of the two functions MidnightSteps. No conditions but that a cam has at most 2^20 levels. -/
namespace Go.Proofs.Ytmbdedkelckedaa
open Go.RowKit
set_option linter.unusedVariables false
set_option linter.unusedSimpArgs false
theorem vPerp_yes {zs : List Int} {n : Nat} {mo te ix da we wd : Int} (h : vPerp zs n mo te ix da we wd = true) :
    vCam zs = true ∧ 1 ≤ mo ∧ (n : Int).tmod mo = 0 ∧ (1 ≤ te ∧ te ≤ 60) ∧ (0 ≤ ix ∧ ix ≤ (n : Int) - 1) ∧ (1 ≤ da ∧ da ≤ te) ∧ (1 ≤ we ∧ we ≤ 12) ∧ 1 ≤ wd ∧ wd ≤ we := by
  simp only [vPerp, Bool.and_eq_true, decide_eq_true_eq] at h
  obtain ⟨h1, h2, h3, h4, _, h5, h6, h7, h8⟩ := h
  exact ⟨h1, h2, h3, inB_yes h4, inB_yes h5, inB_yes h6, inB_yes h7, inB_yes h8⟩
/-- the steps of the next midnight -/
def msI (zs : List Int) (te ix da : Int) : Int := if da = zs.getD ix.toNat 0 then te + 1 - da else 1
def midT (zs : List Int) (n : Nat) (mo te ix da we wd : Int) : Value := if vPerp zs n mo te ix da we wd then .tuple #[.int .i64 (msI zs te ix da), .int .i64 0] else .tuple #[.int .i64 0, .int .i64 1]
theorem mid_yes {zs : List Int} {n : Nat} {mo te ix da we wd : Int} (h : vPerp zs n mo te ix da we wd = true) : midT zs n mo te ix da we wd = .tuple #[.int .i64 (msI zs te ix da), .int .i64 0] := by rw [midT, h]; rfl
theorem mid_no {zs : List Int} {n : Nat} {mo te ix da we wd : Int} (h : vPerp zs n mo te ix da we wd = false) : midT zs n mo te ix da we wd = .tuple #[.int .i64 0, .int .i64 1] := by rw [midT, h]; rfl
theorem midT_form (zs : List Int) (n : Nat) (mo te ix da we wd : Int) : ∃ a b : Int, midT zs n mo te ix da we wd = .tuple #[.int .i64 a, .int .i64 b] := by
  unfold midT; split <;> exact ⟨_, _, rfl⟩
set_option maxHeartbeats 2000000 in
theorem midnightSteps_any (A : Option Addr) (n c B k : Nat) (zs : List Int) (mo te da we wd : Int) (w : World) (h : Ints w B A n zs) (hB : B ≤ w.heap.size) (hn : n ≤ 1048576) (hk : k < n) (d1 : 1 ≤ da) (d2 : da ≤ te) (d3 : te ≤ 60) :
    Calls Try.prog 46 #[.agg #[.slice A n c, .int .i64 mo, .int .i64 te, .int .i64 (k : Int), .int .i64 da, .int .i64 we, .int .i64 wd]] w fun e w' => e = .returned (.int .i64 (msI zs te (k : Int) da)) ∧ Below w.heap.size w w' := by
  obtain ⟨b, off, rfl, hbl, hc⟩ := (h.alloc hB (.cells #[.slice A n c, .int .i64 mo, .int .i64 te, .int .i64 (k : Int), .int .i64 da, .int .i64 we, .int .i64 wd] 32)).at_ hk
  have hm : msI zs te (k : Int) da = if da = zs.getD k 0 then te + 1 - da else 1 := by simp [msI]
  obtain ⟨x, hx⟩ : ∃ x, zs.getD k 0 = x := ⟨_, rfl⟩
  rw [hx] at hc hm
  have i0 : (0 : Int) ≤ (k : Int) := Int.natCast_nonneg _
  have i1 : (k : Int) < (n : Int) := by omega
  clear h hx
  by_cases e : da = x
  · have HM := Lib.hid (hm.trans (if_pos e))
    clear hm
    subst e
    go_enter Try.func46, Try.ntmps46
    go_wp2
    go_quiet (fail)
    go_wp2
    go_ret
    exact ⟨ret_int HM.out.symm, by (repeat (first | with_reducible exact Below.refl _ _ | with_reducible refine below_alloc ?_ _ | with_reducible refine below_drewN ?_ _ | with_reducible refine Below.drew ?_ | ((with_reducible refine below_set ?_ ?_ _); rotate_left; (focus (first | (simp; done) | (simp; omega) | omega))) | with_reducible refine below_call ?_ (by assumption)))⟩
  · have HM := Lib.hid (hm.trans (if_neg e))
    have e1 : (da == x) = false := by simpa using e
    clear hm
    go_enter Try.func46, Try.ntmps46
    go_wp2
    go_quiet (fail)
    go_wp2
    go_ret
    exact ⟨ret_int HM.out.symm, by (repeat (first | with_reducible exact Below.refl _ _ | with_reducible refine below_alloc ?_ _ | with_reducible refine below_drewN ?_ _ | with_reducible refine Below.drew ?_ | ((with_reducible refine below_set ?_ ?_ _); rotate_left; (focus (first | (simp; done) | (simp; omega) | omega))) | with_reducible refine below_call ?_ (by assumption)))⟩
set_option maxHeartbeats 2000000 in
theorem MidnightSteps_any (A : Option Addr) (n c B : Nat) (zs : List Int) (mo te ix da we wd : Int) (w : World) (h : Ints w B A n zs) (hB : B ≤ w.heap.size) (hn : n ≤ 1048576) :
    Calls Try.prog 16 #[.agg #[.slice A n c, .int .i64 mo, .int .i64 te, .int .i64 ix, .int .i64 da, .int .i64 we, .int .i64 wd]] w fun e w' => e = .returned (midT zs n mo te ix da we wd) ∧ Below w.heap.size w w' := by
  have H := Lib.hid (h.more hB)
  clear h
  have cV := fun (W : World) (h : Ints W w.heap.size A n zs) (h2 : w.heap.size ≤ W.heap.size) => ValidPerpetual_any A n c w.heap.size zs mo te ix da we wd W h h2 hn
  cases hv : vPerp zs n mo te ix da we wd
  · rw [mid_no hv]
    simp only [hv] at cV
    have CV := Lib.hid cV
    clear cV hv
    go_enter Try.func16, Try.ntmps16
    go_wp2_with fail
    go_at_call 31
    refine (CV.out _ (by exact Ints.below (H.out) (by (repeat (first | with_reducible exact Below.refl _ _ | with_reducible refine below_alloc ?_ _ | with_reducible refine below_drewN ?_ _ | with_reducible refine Below.drew ?_ | ((with_reducible refine below_set ?_ ?_ _); rotate_left; (focus (first | (simp; done) | (simp; omega) | omega))) | with_reducible refine below_call ?_ (by assumption))))) (by exact Below.size (B := w.heap.size) (w := w) (by (repeat (first | with_reducible exact Below.refl _ _ | with_reducible refine below_alloc ?_ _ | with_reducible refine below_drewN ?_ _ | with_reducible refine Below.drew ?_ | ((with_reducible refine below_set ?_ ?_ _); rotate_left; (focus (first | (simp; done) | (simp; omega) | omega))) | with_reducible refine below_call ?_ (by assumption)))))).mono ?_
    rintro e w1 ⟨rfl, hb1⟩
    obtain ⟨hc1, hf1, hs1⟩ := bcell hb1
    (try (refine cut_ (p := w.heap.size < w1.heap.size) ?_ ?_; (focus (refine hs1 _ ?_; first | assumption | omega | (simp [go_sem]; done) | (simp [go_sem]; omega))); intro hl1a))
    (try (refine cut_ (p := w.heap.size + 1 < w1.heap.size) ?_ ?_; (focus (refine hs1 _ ?_; first | assumption | omega | (simp [go_sem]; done) | (simp [go_sem]; omega))); intro hl1b))
    (try (refine cut_ (p := w.heap.size + 1 + 1 < w1.heap.size) ?_ ?_; (focus (refine hs1 _ ?_; first | assumption | omega | (simp [go_sem]; done) | (simp [go_sem]; omega))); intro hl1c))
    go_wp2
    go_ret2
    exact ⟨rfl, by (repeat (first | with_reducible exact Below.refl _ _ | with_reducible refine below_alloc ?_ _ | with_reducible refine below_drewN ?_ _ | with_reducible refine Below.drew ?_ | ((with_reducible refine below_set ?_ ?_ _); rotate_left; (focus (first | (simp; done) | (simp; omega) | omega))) | with_reducible refine below_call ?_ (by assumption)))⟩
  · rw [mid_yes hv]
    simp only [hv] at cV
    have CV := Lib.hid cV
    obtain ⟨_, _, _, hte, hix, hda, _, _⟩ := vPerp_yes hv
    obtain ⟨k, rfl⟩ := Int.eq_ofNat_of_zero_le hix.1
    have cM := fun (W : World) (h : Ints W w.heap.size A n zs) (h2 : w.heap.size ≤ W.heap.size) => midnightSteps_any A n c w.heap.size k zs mo te da we wd W h h2 hn (by omega) hda.1 hda.2 hte.2
    generalize msI zs te (k : Int) da = v at *
    have CM := Lib.hid cM
    clear cV hv cM
    go_enter Try.func16, Try.ntmps16
    go_wp2_with fail
    go_at_call 31
    refine (CV.out _ (by exact Ints.below (H.out) (by (repeat (first | with_reducible exact Below.refl _ _ | with_reducible refine below_alloc ?_ _ | with_reducible refine below_drewN ?_ _ | with_reducible refine Below.drew ?_ | ((with_reducible refine below_set ?_ ?_ _); rotate_left; (focus (first | (simp; done) | (simp; omega) | omega))) | with_reducible refine below_call ?_ (by assumption))))) (by exact Below.size (B := w.heap.size) (w := w) (by (repeat (first | with_reducible exact Below.refl _ _ | with_reducible refine below_alloc ?_ _ | with_reducible refine below_drewN ?_ _ | with_reducible refine Below.drew ?_ | ((with_reducible refine below_set ?_ ?_ _); rotate_left; (focus (first | (simp; done) | (simp; omega) | omega))) | with_reducible refine below_call ?_ (by assumption)))))).mono ?_
    rintro e w1 ⟨rfl, hb1⟩
    obtain ⟨hc1, hf1, hs1⟩ := bcell hb1
    (try (refine cut_ (p := w.heap.size < w1.heap.size) ?_ ?_; (focus (refine hs1 _ ?_; first | assumption | omega | (simp [go_sem]; done) | (simp [go_sem]; omega))); intro hl1a))
    (try (refine cut_ (p := w.heap.size + 1 < w1.heap.size) ?_ ?_; (focus (refine hs1 _ ?_; first | assumption | omega | (simp [go_sem]; done) | (simp [go_sem]; omega))); intro hl1b))
    (try (refine cut_ (p := w.heap.size + 1 + 1 < w1.heap.size) ?_ ?_; (focus (refine hs1 _ ?_; first | assumption | omega | (simp [go_sem]; done) | (simp [go_sem]; omega))); intro hl1c))
    go_wp2_with fail
    go_at_call 46
    refine (CM.out _ (by exact Ints.below (H.out) (by (repeat (first | with_reducible exact Below.refl _ _ | with_reducible refine below_alloc ?_ _ | with_reducible refine below_drewN ?_ _ | with_reducible refine Below.drew ?_ | ((with_reducible refine below_set ?_ ?_ _); rotate_left; (focus (first | (simp; done) | (simp; omega) | omega))) | with_reducible refine below_call ?_ (by assumption))))) (by exact Below.size (B := w.heap.size) (w := w) (by (repeat (first | with_reducible exact Below.refl _ _ | with_reducible refine below_alloc ?_ _ | with_reducible refine below_drewN ?_ _ | with_reducible refine Below.drew ?_ | ((with_reducible refine below_set ?_ ?_ _); rotate_left; (focus (first | (simp; done) | (simp; omega) | omega))) | with_reducible refine below_call ?_ (by assumption)))))).mono ?_
    rintro e w2 ⟨rfl, hb2⟩
    obtain ⟨hc2, hf2, hs2⟩ := bcell hb2
    (try (refine cut_ (p := w.heap.size < w2.heap.size) ?_ ?_; (focus (refine hs2 _ ?_; first | assumption | omega | (simp [go_sem]; done) | (simp [go_sem]; omega))); intro hl2a))
    (try (refine cut_ (p := w.heap.size + 1 < w2.heap.size) ?_ ?_; (focus (refine hs2 _ ?_; first | assumption | omega | (simp [go_sem]; done) | (simp [go_sem]; omega))); intro hl2b))
    (try (refine cut_ (p := w.heap.size + 1 + 1 < w2.heap.size) ?_ ?_; (focus (refine hs2 _ ?_; first | assumption | omega | (simp [go_sem]; done) | (simp [go_sem]; omega))); intro hl2c))
    go_wp2
    go_ret2
    exact ⟨rfl, by (repeat (first | with_reducible exact Below.refl _ _ | with_reducible refine below_alloc ?_ _ | with_reducible refine below_drewN ?_ _ | with_reducible refine Below.drew ?_ | ((with_reducible refine below_set ?_ ?_ _); rotate_left; (focus (first | (simp; done) | (simp; omega) | omega))) | with_reducible refine below_call ?_ (by assumption)))⟩
end Go.Proofs.Ytmbdedkelckedaa
