/- Contracts of the two functions ValidPerpetual. No conditions but that a cam has at most 2^20 levels. -/
import Derived.Test.YthjldjbblaioaaaPerpV
namespace Go.Proofs.Ythjldjbblaioaaa
open Go.RowKit
set_option linter.unusedVariables false
set_option linter.unusedSimpArgs false
/-- all levels lie at or below te -/
def allLe (zs : List Int) (te : Int) : Bool := zs.all (fun z => decide (z ≤ te))
theorem allLe_yes {zs : List Int} {te : Int} (h : ∀ j, j < zs.length → zs.getD j 0 ≤ te) : allLe zs te = true := by
  rw [allLe, List.all_eq_true]
  intro x hx
  obtain ⟨j, hj, rfl⟩ := List.mem_iff_getElem.1 hx
  have := h j hj
  rw [getD_of hj] at this
  simpa using this
theorem allLe_no {zs : List Int} {te : Int} {j : Nat} (hj : j < zs.length) (h : te < zs.getD j 0) : allLe zs te = false := by
  rw [allLe, List.all_eq_false]
  exact ⟨zs[j], List.getElem_mem hj, by rw [getD_of hj] at h; simp; omega⟩
theorem allLe_max {zs : List Int} {te : Int} {n : Nat} (hl : zs.length = n) (hn : 1 ≤ n) : allLe zs te = decide (maxK zs (n - 1) ≤ te) := by
  by_cases h : maxK zs (n - 1) ≤ te
  · rw [decide_eq_true h]
    exact allLe_yes (fun j hj => (maxK_le zs te (n - 1)).mp h j (by omega))
  · rw [decide_eq_false h]
    by_cases e : allLe zs te = true
    · exfalso
      apply h
      refine (maxK_le zs te (n - 1)).mpr (fun j hj => ?_)
      rw [allLe, List.all_eq_true] at e
      have := e zs[j] (List.getElem_mem (by omega))
      rw [getD_of (show j < zs.length by omega)]
      simpa using this
    · simpa using e
/-- a perpetual work is valid -/
def vPerp (zs : List Int) (n : Nat) (mo te ix da we wd : Int) : Bool :=
  vCam zs && (decide (1 ≤ mo) && (decide ((n : Int).tmod mo = 0) && (inB te 1 60 && (allLe zs te && (inB ix 0 ((n : Int) - 1) && (inB da 1 te && (inB we 1 12 && inB wd 1 we)))))))
set_option maxHeartbeats 4000000 in
theorem ValidPerpetual_any (A : Option Addr) (n c B : Nat) (zs : List Int) (mo te ix da we wd : Int) (w : World) (h : Ints w B A n zs) (hB : B ≤ w.heap.size) (hn : n ≤ 1048576) :
    Calls Try.prog 41 #[.agg #[.slice A n c, .int .i64 mo, .int .i64 te, .int .i64 ix, .int .i64 da, .int .i64 we, .int .i64 wd]] w fun e w' => e = .returned (.bool (vPerp zs n mo te ix da we wd)) ∧ Below w.heap.size w w' := by
  have hl := h.len
  have H := Lib.hid (h.more hB)
  clear h
  obtain ⟨V, hV⟩ : ∃ V, vPerp zs n mo te ix da we wd = V := ⟨_, rfl⟩
  rw [hV]
  unfold vPerp at hV
  have cV := fun (W : World) (h : Ints W w.heap.size A n zs) => ValidCam_any A n c w.heap.size zs W h hn
  cases hc : vCam zs
  · simp only [hc, Bool.false_and] at hV cV
    have HV := Lib.hid hV
    have CV := Lib.hid cV
    clear hV cV
    go_enter Try.func41, Try.ntmps41
    go_wp2_with (go_at_call 83; refine (CV.out _ (by exact Ints.below (H.out) (by (repeat (first | with_reducible exact Below.refl _ _ | with_reducible refine below_alloc ?_ _ | with_reducible refine below_drewN ?_ _ | with_reducible refine Below.drew ?_ | ((with_reducible refine below_set ?_ ?_ _); rotate_left; (focus (first | (simp; done) | (simp; omega) | omega))) | with_reducible refine below_call ?_ (by assumption)))))).mono ?_; rintro e w' ⟨rfl, rfl⟩)
    go_ret
    exact ⟨ret_bool HV.out, by (repeat (first | with_reducible exact Below.refl _ _ | with_reducible refine below_alloc ?_ _ | with_reducible refine below_drewN ?_ _ | with_reducible refine Below.drew ?_ | ((with_reducible refine below_set ?_ ?_ _); rotate_left; (focus (first | (simp; done) | (simp; omega) | omega))) | with_reducible refine below_call ?_ (by assumption)))⟩
  · obtain ⟨v1, v2, v3⟩ := vCam_yes hc
    rw [hl] at v2 v3
    have cM := fun (W : World) (h : Ints W w.heap.size A n zs) => Max_any A n c w.heap.size zs W h v2 hn
    have hM := allLe_max (te := te) hl v2
    have hx0 := (maxK_le zs te (n - 1)).mp
    simp only [hc, Bool.true_and, hM] at hV cV
    have CV := Lib.hid cV
    have CM := Lib.hid cM
    have t1 : maxK zs (n - 1) ≤ te → 1 ≤ te := fun h => by have := hx0 h 0 (by omega); have := v1 0 (by omega); omega
    generalize maxK zs (n - 1) = M at *
    clear hM cV cM hx0
    by_cases hmo : mo < 1
    · rw [decide_eq_false (show ¬ 1 ≤ mo by omega)] at hV
      have HV := Lib.hid hV
      clear hV
      go_enter Try.func41, Try.ntmps41
      go_wp2_with (go_at_call 83; refine (CV.out _ (by exact Ints.below (H.out) (by (repeat (first | with_reducible exact Below.refl _ _ | with_reducible refine below_alloc ?_ _ | with_reducible refine below_drewN ?_ _ | with_reducible refine Below.drew ?_ | ((with_reducible refine below_set ?_ ?_ _); rotate_left; (focus (first | (simp; done) | (simp; omega) | omega))) | with_reducible refine below_call ?_ (by assumption)))))).mono ?_; rintro e w' ⟨rfl, rfl⟩)
      go_ret
      exact ⟨ret_bool HV.out, by (repeat (first | with_reducible exact Below.refl _ _ | with_reducible refine below_alloc ?_ _ | with_reducible refine below_drewN ?_ _ | with_reducible refine Below.drew ?_ | ((with_reducible refine below_set ?_ ?_ _); rotate_left; (focus (first | (simp; done) | (simp; omega) | omega))) | with_reducible refine below_call ?_ (by assumption)))⟩
    · rw [decide_eq_true (show 1 ≤ mo by omega)] at hV
      have mo0 : (mo == 0) = false := by rw [beq_eq_false_iff_ne]; omega
      have mo2 : ¬ mo = 0 := by omega
      obtain ⟨r, hr⟩ : ∃ r, (n : Int).tmod mo = r := ⟨_, rfl⟩
      rw [hr] at hV
      have hr0 : 0 ≤ r := by rw [← hr]; exact Int.tmod_nonneg _ (by omega)
      have hr1 : r < mo := by rw [← hr]; exact Int.tmod_lt_of_pos _ (by omega)
      have hr2 : r ≤ 1048576 := by
        have := Int.mul_tdiv_add_tmod (n : Int) mo
        rw [hr] at this
        have h3 : 0 ≤ (n : Int).tdiv mo := Int.tdiv_nonneg (by omega) (by omega)
        have h4 : 0 ≤ mo * (n : Int).tdiv mo := Int.mul_nonneg (by omega) h3
        omega
      by_cases hrz : r = 0
      · subst hrz
        simp only [decide_true, Bool.true_and] at hV
        by_cases hte : 60 < te
        · rw [show inB te 1 60 = false by simp [inB]; omega] at hV
          have HV := Lib.hid hV
          clear hV
          go_enter Try.func41, Try.ntmps41
          go_wp2_with (go_at_call 83; refine (CV.out _ (by exact Ints.below (H.out) (by (repeat (first | with_reducible exact Below.refl _ _ | with_reducible refine below_alloc ?_ _ | with_reducible refine below_drewN ?_ _ | with_reducible refine Below.drew ?_ | ((with_reducible refine below_set ?_ ?_ _); rotate_left; (focus (first | (simp; done) | (simp; omega) | omega))) | with_reducible refine below_call ?_ (by assumption)))))).mono ?_; rintro e w' ⟨rfl, rfl⟩)
          go_quiet ((go_at_call 98; exact quiet_left (CM.out _ (by exact Ints.below H.out (by (repeat (first | with_reducible exact Below.refl _ _ | with_reducible refine below_alloc ?_ _ | with_reducible refine below_drewN ?_ _ | with_reducible refine Below.drew ?_ | ((with_reducible refine below_set ?_ ?_ _); rotate_left; (focus (first | (simp; done) | (simp; omega) | omega))) | with_reducible refine below_call ?_ (by assumption))))))))
          go_wp2
          go_ret
          exact ⟨ret_bool HV.out, by (repeat (first | with_reducible exact Below.refl _ _ | with_reducible refine below_alloc ?_ _ | with_reducible refine below_drewN ?_ _ | with_reducible refine Below.drew ?_ | ((with_reducible refine below_set ?_ ?_ _); rotate_left; (focus (first | (simp; done) | (simp; omega) | omega))) | with_reducible refine below_call ?_ (by assumption)))⟩
        · by_cases hmx : M ≤ te
          · have t2 := t1 hmx
            rw [show inB te 1 60 = true by simp [inB]; omega, decide_eq_true hmx] at hV
            simp only [Bool.true_and] at hV
            have n1 : IntKind.i64.wrap ((n : Int) - 1) = (n : Int) - 1 := IntWalk.i64_in _ (by omega)
            cases i1 : inB ix 0 ((n : Int) - 1)
            · rw [i1] at hV
              have HV := Lib.hid hV
              clear hV
              go_enter Try.func41, Try.ntmps41
              go_wp2_with (go_at_call 83; refine (CV.out _ (by exact Ints.below (H.out) (by (repeat (first | with_reducible exact Below.refl _ _ | with_reducible refine below_alloc ?_ _ | with_reducible refine below_drewN ?_ _ | with_reducible refine Below.drew ?_ | ((with_reducible refine below_set ?_ ?_ _); rotate_left; (focus (first | (simp; done) | (simp; omega) | omega))) | with_reducible refine below_call ?_ (by assumption)))))).mono ?_; rintro e w' ⟨rfl, rfl⟩)
              go_quiet ((go_at_call 98; exact quiet_left (CM.out _ (by exact Ints.below H.out (by (repeat (first | with_reducible exact Below.refl _ _ | with_reducible refine below_alloc ?_ _ | with_reducible refine below_drewN ?_ _ | with_reducible refine Below.drew ?_ | ((with_reducible refine below_set ?_ ?_ _); rotate_left; (focus (first | (simp; done) | (simp; omega) | omega))) | with_reducible refine below_call ?_ (by assumption))))))))
              go_wp2_with (go_at_call 43; refine (within_any _ _ _ _).mono ?_; rintro e w' ⟨rfl, rfl⟩)
              go_ret
              exact ⟨ret_bool HV.out, by (repeat (first | with_reducible exact Below.refl _ _ | with_reducible refine below_alloc ?_ _ | with_reducible refine below_drewN ?_ _ | with_reducible refine Below.drew ?_ | ((with_reducible refine below_set ?_ ?_ _); rotate_left; (focus (first | (simp; done) | (simp; omega) | omega))) | with_reducible refine below_call ?_ (by assumption)))⟩
            · cases i2 : inB da 1 te
              · rw [i1, i2] at hV
                have HV := Lib.hid hV
                clear hV
                go_enter Try.func41, Try.ntmps41
                go_wp2_with (go_at_call 83; refine (CV.out _ (by exact Ints.below (H.out) (by (repeat (first | with_reducible exact Below.refl _ _ | with_reducible refine below_alloc ?_ _ | with_reducible refine below_drewN ?_ _ | with_reducible refine Below.drew ?_ | ((with_reducible refine below_set ?_ ?_ _); rotate_left; (focus (first | (simp; done) | (simp; omega) | omega))) | with_reducible refine below_call ?_ (by assumption)))))).mono ?_; rintro e w' ⟨rfl, rfl⟩)
                go_quiet ((go_at_call 98; exact quiet_left (CM.out _ (by exact Ints.below H.out (by (repeat (first | with_reducible exact Below.refl _ _ | with_reducible refine below_alloc ?_ _ | with_reducible refine below_drewN ?_ _ | with_reducible refine Below.drew ?_ | ((with_reducible refine below_set ?_ ?_ _); rotate_left; (focus (first | (simp; done) | (simp; omega) | omega))) | with_reducible refine below_call ?_ (by assumption))))))))
                go_wp2_with (go_at_call 43; refine (within_any _ _ _ _).mono ?_; rintro e w' ⟨rfl, rfl⟩)
                go_ret
                exact ⟨ret_bool HV.out, by (repeat (first | with_reducible exact Below.refl _ _ | with_reducible refine below_alloc ?_ _ | with_reducible refine below_drewN ?_ _ | with_reducible refine Below.drew ?_ | ((with_reducible refine below_set ?_ ?_ _); rotate_left; (focus (first | (simp; done) | (simp; omega) | omega))) | with_reducible refine below_call ?_ (by assumption)))⟩
              · cases i3 : inB we 1 12
                · rw [i1, i2, i3] at hV
                  have HV := Lib.hid hV
                  clear hV
                  go_enter Try.func41, Try.ntmps41
                  go_wp2_with (go_at_call 83; refine (CV.out _ (by exact Ints.below (H.out) (by (repeat (first | with_reducible exact Below.refl _ _ | with_reducible refine below_alloc ?_ _ | with_reducible refine below_drewN ?_ _ | with_reducible refine Below.drew ?_ | ((with_reducible refine below_set ?_ ?_ _); rotate_left; (focus (first | (simp; done) | (simp; omega) | omega))) | with_reducible refine below_call ?_ (by assumption)))))).mono ?_; rintro e w' ⟨rfl, rfl⟩)
                  go_quiet ((go_at_call 98; exact quiet_left (CM.out _ (by exact Ints.below H.out (by (repeat (first | with_reducible exact Below.refl _ _ | with_reducible refine below_alloc ?_ _ | with_reducible refine below_drewN ?_ _ | with_reducible refine Below.drew ?_ | ((with_reducible refine below_set ?_ ?_ _); rotate_left; (focus (first | (simp; done) | (simp; omega) | omega))) | with_reducible refine below_call ?_ (by assumption))))))))
                  go_wp2_with (go_at_call 43; refine (within_any _ _ _ _).mono ?_; rintro e w' ⟨rfl, rfl⟩)
                  go_ret
                  exact ⟨ret_bool HV.out, by (repeat (first | with_reducible exact Below.refl _ _ | with_reducible refine below_alloc ?_ _ | with_reducible refine below_drewN ?_ _ | with_reducible refine Below.drew ?_ | ((with_reducible refine below_set ?_ ?_ _); rotate_left; (focus (first | (simp; done) | (simp; omega) | omega))) | with_reducible refine below_call ?_ (by assumption)))⟩
                · rw [i1, i2, i3] at hV
                  have HV := Lib.hid hV
                  clear hV
                  go_enter Try.func41, Try.ntmps41
                  go_wp2_with (go_at_call 83; refine (CV.out _ (by exact Ints.below (H.out) (by (repeat (first | with_reducible exact Below.refl _ _ | with_reducible refine below_alloc ?_ _ | with_reducible refine below_drewN ?_ _ | with_reducible refine Below.drew ?_ | ((with_reducible refine below_set ?_ ?_ _); rotate_left; (focus (first | (simp; done) | (simp; omega) | omega))) | with_reducible refine below_call ?_ (by assumption)))))).mono ?_; rintro e w' ⟨rfl, rfl⟩)
                  go_quiet ((go_at_call 98; exact quiet_left (CM.out _ (by exact Ints.below H.out (by (repeat (first | with_reducible exact Below.refl _ _ | with_reducible refine below_alloc ?_ _ | with_reducible refine below_drewN ?_ _ | with_reducible refine Below.drew ?_ | ((with_reducible refine below_set ?_ ?_ _); rotate_left; (focus (first | (simp; done) | (simp; omega) | omega))) | with_reducible refine below_call ?_ (by assumption))))))))
                  go_wp2_with (go_at_call 43; refine (within_any _ _ _ _).mono ?_; rintro e w' ⟨rfl, rfl⟩)
                  go_ret
                  exact ⟨ret_bool HV.out, by (repeat (first | with_reducible exact Below.refl _ _ | with_reducible refine below_alloc ?_ _ | with_reducible refine below_drewN ?_ _ | with_reducible refine Below.drew ?_ | ((with_reducible refine below_set ?_ ?_ _); rotate_left; (focus (first | (simp; done) | (simp; omega) | omega))) | with_reducible refine below_call ?_ (by assumption)))⟩
          · rw [decide_eq_false hmx] at hV
            simp only [Bool.false_and, Bool.and_false] at hV
            have HV := Lib.hid hV
            clear hV
            go_enter Try.func41, Try.ntmps41
            go_wp2_with (go_at_call 83; refine (CV.out _ (by exact Ints.below (H.out) (by (repeat (first | with_reducible exact Below.refl _ _ | with_reducible refine below_alloc ?_ _ | with_reducible refine below_drewN ?_ _ | with_reducible refine Below.drew ?_ | ((with_reducible refine below_set ?_ ?_ _); rotate_left; (focus (first | (simp; done) | (simp; omega) | omega))) | with_reducible refine below_call ?_ (by assumption)))))).mono ?_; rintro e w' ⟨rfl, rfl⟩)
            go_quiet ((go_at_call 98; exact quiet_left (CM.out _ (by exact Ints.below H.out (by (repeat (first | with_reducible exact Below.refl _ _ | with_reducible refine below_alloc ?_ _ | with_reducible refine below_drewN ?_ _ | with_reducible refine Below.drew ?_ | ((with_reducible refine below_set ?_ ?_ _); rotate_left; (focus (first | (simp; done) | (simp; omega) | omega))) | with_reducible refine below_call ?_ (by assumption))))))))
            go_wp2
            go_ret
            exact ⟨ret_bool HV.out, by (repeat (first | with_reducible exact Below.refl _ _ | with_reducible refine below_alloc ?_ _ | with_reducible refine below_drewN ?_ _ | with_reducible refine Below.drew ?_ | ((with_reducible refine below_set ?_ ?_ _); rotate_left; (focus (first | (simp; done) | (simp; omega) | omega))) | with_reducible refine below_call ?_ (by assumption)))⟩
      · rw [decide_eq_false hrz] at hV
        have HV := Lib.hid hV
        have rz : (r != 0) = true := by simpa using hrz
        clear hV
        go_enter Try.func41, Try.ntmps41
        go_wp2_with (go_at_call 83; refine (CV.out _ (by exact Ints.below (H.out) (by (repeat (first | with_reducible exact Below.refl _ _ | with_reducible refine below_alloc ?_ _ | with_reducible refine below_drewN ?_ _ | with_reducible refine Below.drew ?_ | ((with_reducible refine below_set ?_ ?_ _); rotate_left; (focus (first | (simp; done) | (simp; omega) | omega))) | with_reducible refine below_call ?_ (by assumption)))))).mono ?_; rintro e w' ⟨rfl, rfl⟩)
        go_ret
        exact ⟨ret_bool HV.out, by (repeat (first | with_reducible exact Below.refl _ _ | with_reducible refine below_alloc ?_ _ | with_reducible refine below_drewN ?_ _ | with_reducible refine Below.drew ?_ | ((with_reducible refine below_set ?_ ?_ _); rotate_left; (focus (first | (simp; done) | (simp; omega) | omega))) | with_reducible refine below_call ?_ (by assumption)))⟩
end Go.Proofs.Ythjldjbblaioaaa
