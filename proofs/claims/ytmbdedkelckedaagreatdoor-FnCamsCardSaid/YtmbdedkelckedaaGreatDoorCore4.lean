/- Contracts of the program's and the reference's functions, several texts in one; what each says, and its conditions, stands at its head. -/
import Derived.Test.YtmbdedkelckedaaGreatDoorCore1
import Derived.Test.YtmbdedkelckedaaGreatDoorCore3
/- Contracts of the validity of cams and of perpetual works, the program's and the reference's. No conditions but that a cam has at most 2^20 levels. -/
namespace Go.Proofs.YtmbdedkelckedaaGreatDoor
open Go.RowKit
set_option linter.unusedVariables false
set_option linter.unusedSimpArgs false
/-- a cam is valid -/
def vCam (zs : List Int) : Bool := zs.all (fun z => inB z 1 60) && inB zs.length 1 260
theorem vCam_yes {zs : List Int} (h : vCam zs = true) : (∀ j, j < zs.length → 1 ≤ zs.getD j 0 ∧ zs.getD j 0 ≤ 60) ∧ 1 ≤ zs.length ∧ zs.length ≤ 260 := by
  simp only [vCam, Bool.and_eq_true, List.all_eq_true] at h
  obtain ⟨h1, h2⟩ := h
  have := inB_yes h2
  refine ⟨fun j hj => ?_, by omega, by omega⟩
  rw [getD_of hj]
  exact inB_yes (h1 _ (List.getElem_mem hj))
theorem vCam_bad {zs : List Int} {k : Nat} (hk : k < zs.length) (h : inB (zs.getD k 0) 1 60 = false) : vCam zs = false := by
  have : zs.all (fun z => inB z 1 60) = false := by
    rw [List.all_eq_false]
    exact ⟨zs[k], List.getElem_mem hk, by rw [getD_of hk] at h; simp [h]⟩
  rw [vCam, this]; rfl
theorem vCam_len {zs : List Int} {n : Nat} (hl : zs.length = n) (h : ∀ j, j < n → inB (zs.getD j 0) 1 60 = true) : vCam zs = inB n 1 260 := by
  have : zs.all (fun z => inB z 1 60) = true := by
    rw [List.all_eq_true]
    intro x hx
    obtain ⟨j, hj, rfl⟩ := List.mem_iff_getElem.1 hx
    have := h j (by omega)
    rwa [getD_of hj] at this
  rw [vCam, this, hl]; rfl
set_option maxHeartbeats 1000000 in
theorem ValidCam_any' (A : Option Addr) (n c B : Nat) (zs : List Int) (w : World) (h : Ints w B A n zs) (hn : n ≤ 1048577) :
    Calls Tryz.prog 42 #[.slice A n c] w fun e w' => e = .returned (.bool (vCam zs)) ∧ w = w' := by
  have HL := Lib.hid h.len
  have H := Lib.hid h
  clear h
  go_enter Tryz.func42, Tryz.ntmps42
  go_wp2
  go_loop [4, 7] (fun g t => ∃ k : Nat, t = .int .i64 k ∧ k ≤ n ∧ Hid (∀ j, j < k → inB (zs.getD j 0) 1 60 = true)) (fun _ t => n - (intOf t).toNat)
  case atStart => exact ⟨0, rfl, Nat.zero_le _, Lib.hid (fun j hj => absurd hj (by omega))⟩
  case round =>
    obtain ⟨k, rfl, hk, hj⟩ := hrel
    by_cases hlt : k < n
    · obtain ⟨b, off, rfl, hbl, hc⟩ := H.out.at_ hlt
      obtain ⟨x, hx⟩ : ∃ x, zs.getD k 0 = x := ⟨_, rfl⟩
      rw [hx] at hc
      have HX := Lib.hid hx
      clear hx
      cases hi : inB x 1 60
      · have HV := Lib.hid (vCam_bad (zs := zs) (k := k) (by rw [HL.out]; exact hlt) (by rw [HX.out]; exact hi))
        go_wp2_with (go_at_call 62; refine (within_any _ _ _ _).mono ?_; rintro e w' ⟨rfl, rfl⟩)
        go_ret
        exact ⟨ret_bool HV.out.symm, rfl⟩
      · go_wp2_with (go_at_call 62; refine (within_any _ _ _ _).mono ?_; rintro e w' ⟨rfl, rfl⟩)
        go_round
        case rel =>
          refine ⟨k + 1, by go_num, by omega, Lib.hid (fun j hj2 => ?_)⟩
          by_cases e : j = k
          · subst e; rw [HX.out]; exact hi
          · exact hj.out j (by omega)
        case measure => simp [intOf]; omega
    · have HV := Lib.hid (vCam_len HL.out (fun j hj2 => hj.out j (by omega)))
      by_cases a1 : 1 ≤ n
      · by_cases a2 : n ≤ 260
        · go_wp2
          go_ret
          exact ⟨ret_bool (by rw [HV.out]; simp [inB]; omega), rfl⟩
        · go_wp2
          go_ret
          exact ⟨ret_bool (by rw [HV.out]; simp [inB]; omega), rfl⟩
      · go_wp2
        go_ret
        exact ⟨ret_bool (by rw [HV.out]; simp [inB]; omega), rfl⟩
theorem ValidCam_any (A : Option Addr) (n c B : Nat) (zs : List Int) (w : World) (h : Ints w B A n zs) (hn : n ≤ 1048576) :
    Calls Tryz.prog 42 #[.slice A n c] w fun e w' => e = .returned (.bool (vCam zs)) ∧ w = w' :=
  ValidCam_any' A n c B zs w h (by omega)
/-- the greatest of the first k + 1 -/
def maxK (zs : List Int) : Nat → Int
  | 0 => zs.getD 0 0
  | k + 1 => if maxK zs k < zs.getD (k + 1) 0 then zs.getD (k + 1) 0 else maxK zs k
theorem maxK_le (zs : List Int) (t : Int) : ∀ k, maxK zs k ≤ t ↔ ∀ j, j ≤ k → zs.getD j 0 ≤ t
  | 0 => ⟨fun h j hj => by rw [show j = 0 by omega]; exact h, fun h => h 0 (Nat.le_refl _)⟩
  | k + 1 => by
    have ih := maxK_le zs t k
    constructor
    · intro h j hj
      simp only [maxK] at h
      by_cases e : j = k + 1
      · subst e; split at h <;> omega
      · exact ih.mp (by split at h <;> omega) j (by omega)
    · intro h
      have h1 := ih.mpr (fun j hj => h j (by omega))
      have h2 := h (k + 1) (Nat.le_refl _)
      simp only [maxK]; split <;> omega
end Go.Proofs.YtmbdedkelckedaaGreatDoor

/- Contracts of the two functions ValidPerpetual. No conditions but that a cam has at most 2^20 levels. -/
namespace Go.Proofs.YtmbdedkelckedaaGreatDoor
open Go.RowKit
set_option linter.unusedVariables false
set_option linter.unusedSimpArgs false
/-- all levels lie at or below te -/
def allLe (zs : List Int) (te : Int) : Bool := zs.all (fun z => decide (z ≤ te))
theorem allLe_yes {zs : List Int} {te : Int} (h : ∀ j, j < zs.length → zs.getD j 0 ≤ te) : allLe zs te = true := by
  rw [allLe, List.all_eq_true]
  intro x hx
  obtain ⟨j, hj, rfl⟩ := List.mem_iff_getElem.1 hx
  have := h j hj
  rw [getD_of hj] at this
  simpa using this
theorem allLe_no {zs : List Int} {te : Int} {j : Nat} (hj : j < zs.length) (h : te < zs.getD j 0) : allLe zs te = false := by
  rw [allLe, List.all_eq_false]
  exact ⟨zs[j], List.getElem_mem hj, by rw [getD_of hj] at h; simp; omega⟩
theorem allLe_max {zs : List Int} {te : Int} {n : Nat} (hl : zs.length = n) (hn : 1 ≤ n) : allLe zs te = decide (maxK zs (n - 1) ≤ te) := by
  by_cases h : maxK zs (n - 1) ≤ te
  · rw [decide_eq_true h]
    exact allLe_yes (fun j hj => (maxK_le zs te (n - 1)).mp h j (by omega))
  · rw [decide_eq_false h]
    by_cases e : allLe zs te = true
    · exfalso
      apply h
      refine (maxK_le zs te (n - 1)).mpr (fun j hj => ?_)
      rw [allLe, List.all_eq_true] at e
      have := e zs[j] (List.getElem_mem (by omega))
      rw [getD_of (show j < zs.length by omega)]
      simpa using this
    · simpa using e
/-- a perpetual work is valid -/
def vPerp (zs : List Int) (n : Nat) (mo te ix da we wd : Int) : Bool :=
  vCam zs && (decide (1 ≤ mo) && (decide ((n : Int).tmod mo = 0) && (inB te 1 60 && (allLe zs te && (inB ix 0 ((n : Int) - 1) && (inB da 1 te && (inB we 1 12 && inB wd 1 we)))))))
end Go.Proofs.YtmbdedkelckedaaGreatDoor

/- Contracts of the reference's validity of perpetual works. No conditions but that a cam has at most 2^20 levels. -/
namespace Go.Proofs.YtmbdedkelckedaaGreatDoor
open Go.RowKit
set_option linter.unusedVariables false
set_option linter.unusedSimpArgs false
theorem drew_more {w wr : World} (h : ∃ q, wr = w.drewN q) (m : Nat) : ∃ k, wr.drewN m = w.drewN k := by
  obtain ⟨q, rfl⟩ := h
  exact ⟨_, World.drewN_drewN _ _ _⟩
theorem l00In_valp {x lo hi : Int} {b : Bool} (w : World) (h : inB x lo hi = b) : Calls Tryz.prog 85 #[.int .i64 x, .int .i64 lo, .int .i64 hi] w fun e w' => e = .returned (.bool b) ∧ w = w' := by
  subst h; exact l00In_any _ _ _ _
end Go.Proofs.YtmbdedkelckedaaGreatDoor

/- Contracts of the two functions MidnightSteps. No conditions but that a cam has at most 2^20 levels. -/
namespace Go.Proofs.YtmbdedkelckedaaGreatDoor
open Go.RowKit
set_option linter.unusedVariables false
set_option linter.unusedSimpArgs false
theorem vPerp_yes {zs : List Int} {n : Nat} {mo te ix da we wd : Int} (h : vPerp zs n mo te ix da we wd = true) :
    vCam zs = true ∧ 1 ≤ mo ∧ (n : Int).tmod mo = 0 ∧ (1 ≤ te ∧ te ≤ 60) ∧ (0 ≤ ix ∧ ix ≤ (n : Int) - 1) ∧ (1 ≤ da ∧ da ≤ te) ∧ (1 ≤ we ∧ we ≤ 12) ∧ 1 ≤ wd ∧ wd ≤ we := by
  simp only [vPerp, Bool.and_eq_true, decide_eq_true_eq] at h
  obtain ⟨h1, h2, h3, h4, _, h5, h6, h7, h8⟩ := h
  exact ⟨h1, h2, h3, inB_yes h4, inB_yes h5, inB_yes h6, inB_yes h7, inB_yes h8⟩
/-- the steps of the next midnight -/
def msI (zs : List Int) (te ix da : Int) : Int := if da = zs.getD ix.toNat 0 then te + 1 - da else 1
def midT (zs : List Int) (n : Nat) (mo te ix da we wd : Int) : Value := if vPerp zs n mo te ix da we wd then .tuple #[.int .i64 (msI zs te ix da), .int .i64 0] else .tuple #[.int .i64 0, .int .i64 1]
theorem mid_yes {zs : List Int} {n : Nat} {mo te ix da we wd : Int} (h : vPerp zs n mo te ix da we wd = true) : midT zs n mo te ix da we wd = .tuple #[.int .i64 (msI zs te ix da), .int .i64 0] := by rw [midT, h]; rfl
theorem mid_no {zs : List Int} {n : Nat} {mo te ix da we wd : Int} (h : vPerp zs n mo te ix da we wd = false) : midT zs n mo te ix da we wd = .tuple #[.int .i64 0, .int .i64 1] := by rw [midT, h]; rfl
theorem midT_form (zs : List Int) (n : Nat) (mo te ix da we wd : Int) : ∃ a b : Int, midT zs n mo te ix da we wd = .tuple #[.int .i64 a, .int .i64 b] := by
  unfold midT; split <;> exact ⟨_, _, rfl⟩
end Go.Proofs.YtmbdedkelckedaaGreatDoor
