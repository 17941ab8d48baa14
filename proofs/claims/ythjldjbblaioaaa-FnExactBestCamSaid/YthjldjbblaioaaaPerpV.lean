/- Contracts of the validity of cams and of perpetual works, the program's and the reference's. No conditions but that a cam has at most 2^20 levels. -/
import Derived.Test.YthjldjbblaioaaaPerp
import Derived.Test.YthjldjbblaioaaaNext
namespace Go.Proofs.Ythjldjbblaioaaa
open Go.RowKit
set_option linter.unusedVariables false
set_option linter.unusedSimpArgs false
/-- a cam is valid -/
def vCam (zs : List Int) : Bool := zs.all (fun z => inB z 1 60) && inB zs.length 1 260
theorem vCam_yes {zs : List Int} (h : vCam zs = true) : (∀ j, j < zs.length → 1 ≤ zs.getD j 0 ∧ zs.getD j 0 ≤ 60) ∧ 1 ≤ zs.length ∧ zs.length ≤ 260 := by
  simp only [vCam, Bool.and_eq_true, List.all_eq_true] at h
  obtain ⟨h1, h2⟩ := h
  have := inB_yes h2
  refine ⟨fun j hj => ?_, by omega, by omega⟩
  rw [getD_of hj]
  exact inB_yes (h1 _ (List.getElem_mem hj))
theorem vCam_bad {zs : List Int} {k : Nat} (hk : k < zs.length) (h : inB (zs.getD k 0) 1 60 = false) : vCam zs = false := by
  have : zs.all (fun z => inB z 1 60) = false := by
    rw [List.all_eq_false]
    exact ⟨zs[k], List.getElem_mem hk, by rw [getD_of hk] at h; simp [h]⟩
  rw [vCam, this]; rfl
theorem vCam_len {zs : List Int} {n : Nat} (hl : zs.length = n) (h : ∀ j, j < n → inB (zs.getD j 0) 1 60 = true) : vCam zs = inB n 1 260 := by
  have : zs.all (fun z => inB z 1 60) = true := by
    rw [List.all_eq_true]
    intro x hx
    obtain ⟨j, hj, rfl⟩ := List.mem_iff_getElem.1 hx
    have := h j (by omega)
    rwa [getD_of hj] at this
  rw [vCam, this, hl]; rfl
set_option maxHeartbeats 1000000 in
theorem ValidCam_any (A : Option Addr) (n c B : Nat) (zs : List Int) (w : World) (h : Ints w B A n zs) (hn : n ≤ 1048576) :
    Calls Try.prog 83 #[.slice A n c] w fun e w' => e = .returned (.bool (vCam zs)) ∧ w = w' := by
  have HL := Lib.hid h.len
  have H := Lib.hid h
  clear h
  go_enter Try.func83, Try.ntmps83
  go_wp2
  go_loop [4, 7] (fun g t => ∃ k : Nat, t = .int .i64 k ∧ k ≤ n ∧ Hid (∀ j, j < k → inB (zs.getD j 0) 1 60 = true)) (fun _ t => n - (intOf t).toNat)
  case atStart => exact ⟨0, rfl, Nat.zero_le _, Lib.hid (fun j hj => absurd hj (by omega))⟩
  case round =>
    obtain ⟨k, rfl, hk, hj⟩ := hrel
    by_cases hlt : k < n
    · obtain ⟨b, off, rfl, hbl, hc⟩ := H.out.at_ hlt
      obtain ⟨x, hx⟩ : ∃ x, zs.getD k 0 = x := ⟨_, rfl⟩
      rw [hx] at hc
      have HX := Lib.hid hx
      clear hx
      cases hi : inB x 1 60
      · have HV := Lib.hid (vCam_bad (zs := zs) (k := k) (by rw [HL.out]; exact hlt) (by rw [HX.out]; exact hi))
        go_wp2_with (go_at_call 43; refine (within_any _ _ _ _).mono ?_; rintro e w' ⟨rfl, rfl⟩)
        go_ret
        exact ⟨ret_bool HV.out.symm, rfl⟩
      · go_wp2_with (go_at_call 43; refine (within_any _ _ _ _).mono ?_; rintro e w' ⟨rfl, rfl⟩)
        go_round
        case rel =>
          refine ⟨k + 1, by go_num, by omega, Lib.hid (fun j hj2 => ?_)⟩
          by_cases e : j = k
          · subst e; rw [HX.out]; exact hi
          · exact hj.out j (by omega)
        case measure => simp [intOf]; omega
    · have HV := Lib.hid (vCam_len HL.out (fun j hj2 => hj.out j (by omega)))
      by_cases a1 : 1 ≤ n
      · by_cases a2 : n ≤ 260
        · go_wp2
          go_ret
          exact ⟨ret_bool (by rw [HV.out]; simp [inB]; omega), rfl⟩
        · go_wp2
          go_ret
          exact ⟨ret_bool (by rw [HV.out]; simp [inB]; omega), rfl⟩
      · go_wp2
        go_ret
        exact ⟨ret_bool (by rw [HV.out]; simp [inB]; omega), rfl⟩
set_option maxHeartbeats 1000000 in
theorem l17Ok_any (A : Option Addr) (n c B : Nat) (zs : List Int) (w : World) (h : Ints w B A n zs) (hn : n ≤ 1048576) :
    Calls Try.prog 94 #[.slice A n c] w fun e w' => e = .returned (.bool (vCam zs)) ∧ w = w' := by
  have HL := Lib.hid h.len
  have H := Lib.hid h
  clear h
  go_enter Try.func94, Try.ntmps94
  go_wp2
  go_loop [3] (fun t => ∃ k : Nat, t = .int .i64 k ∧ k ≤ n ∧ Hid (∀ j, j < k → inB (zs.getD j 0) 1 60 = true)) (fun t => n - (intOf t).toNat)
  case atStart => exact ⟨0, rfl, Nat.zero_le _, Lib.hid (fun j hj => absurd hj (by omega))⟩
  case round =>
    obtain ⟨k, rfl, hk, hj⟩ := hrel
    by_cases hlt : k < n
    · obtain ⟨b, off, rfl, hbl, hc⟩ := H.out.at_ hlt
      obtain ⟨x, hx⟩ : ∃ x, zs.getD k 0 = x := ⟨_, rfl⟩
      rw [hx] at hc
      have HX := Lib.hid hx
      clear hx
      cases hi : inB x 1 60
      · have HV := Lib.hid (vCam_bad (zs := zs) (k := k) (by rw [HL.out]; exact hlt) (by rw [HX.out]; exact hi))
        go_wp2_with (go_at_call 81; refine (l00In_any _ _ _ _).mono ?_; rintro e w' ⟨rfl, rfl⟩)
        go_ret
        exact ⟨ret_bool HV.out.symm, rfl⟩
      · go_wp2_with (go_at_call 81; refine (l00In_any _ _ _ _).mono ?_; rintro e w' ⟨rfl, rfl⟩)
        go_round
        case rel =>
          refine ⟨k + 1, by go_num, by omega, Lib.hid (fun j hj2 => ?_)⟩
          by_cases e : j = k
          · subst e; rw [HX.out]; exact hi
          · exact hj.out j (by omega)
        case measure => simp [intOf]; omega
    · have HV := Lib.hid (vCam_len HL.out (fun j hj2 => hj.out j (by omega)))
      go_wp2_with (go_at_call 81; refine (l00In_any _ _ _ _).mono ?_; rintro e w' ⟨rfl, rfl⟩)
      go_ret
      exact ⟨ret_bool HV.out.symm, rfl⟩
/-- the greatest of the first k + 1 -/
def maxK (zs : List Int) : Nat → Int
  | 0 => zs.getD 0 0
  | k + 1 => if maxK zs k < zs.getD (k + 1) 0 then zs.getD (k + 1) 0 else maxK zs k
theorem maxK_le (zs : List Int) (t : Int) : ∀ k, maxK zs k ≤ t ↔ ∀ j, j ≤ k → zs.getD j 0 ≤ t
  | 0 => ⟨fun h j hj => by rw [show j = 0 by omega]; exact h, fun h => h 0 (Nat.le_refl _)⟩
  | k + 1 => by
    have ih := maxK_le zs t k
    constructor
    · intro h j hj
      simp only [maxK] at h
      by_cases e : j = k + 1
      · subst e; split at h <;> omega
      · exact ih.mp (by split at h <;> omega) j (by omega)
    · intro h
      have h1 := ih.mpr (fun j hj => h j (by omega))
      have h2 := h (k + 1) (Nat.le_refl _)
      simp only [maxK]; split <;> omega
set_option maxHeartbeats 1000000 in
theorem Max_any (A : Option Addr) (n c B : Nat) (zs : List Int) (w : World) (h : Ints w B A n zs) (hn1 : 1 ≤ n) (hn : n ≤ 1048576) :
    Calls Try.prog 98 #[.slice A n c] w fun e w' => e = .returned (.int .i64 (maxK zs (n - 1))) ∧ w = w' := by
  obtain ⟨b0, off0, rfl, _, hc00⟩ := h.2 (by omega)
  have hc0 : w.cell? ⟨b0, off0, none⟩ = some (.int .i64 (zs.getD 0 0)) := hc00 0 (by omega)
  have H := Lib.hid h
  obtain ⟨x0, hx0⟩ : ∃ x, zs.getD 0 0 = x := ⟨_, rfl⟩
  rw [hx0] at hc0
  have HX0 := Lib.hid hx0
  clear h hc00 hx0
  go_enter Try.func98, Try.ntmps98
  go_wp2
  go_loop [3, 4] (fun m t => ∃ k : Nat, t = .int .i64 ((k + 1 : Nat) : Int) ∧ k + 1 ≤ n ∧ m = .int .i64 (maxK zs k)) (fun _ t => n - (intOf t).toNat)
  case atStart => exact ⟨0, rfl, hn1, by rw [maxK, HX0.out]⟩
  case round =>
    obtain ⟨k, rfl, hk, rfl⟩ := hrel
    by_cases hlt : k + 1 < n
    · obtain ⟨b, off, e0, hbl, hc⟩ := H.out.at_ hlt
      cases e0
      have hs : maxK zs (k + 1) = if maxK zs k < zs.getD (k + 1) 0 then zs.getD (k + 1) 0 else maxK zs k := rfl
      generalize zs.getD (k + 1) 0 = x at *
      generalize maxK zs k = m at *
      by_cases hm : m < x
      · have HS := Lib.hid (hs.trans (if_pos hm))
        have hm2 : max m x = x := by omega
        clear hs
        go_wp2
        go_round
        case rel => exact ⟨k + 1, by go_num, by omega, by rw [HS.out]⟩
        case measure => simp [intOf]; omega
      · have HS := Lib.hid (hs.trans (if_neg hm))
        have hm2 : max m x = m := by omega
        clear hs
        go_wp2
        go_round
        case rel => exact ⟨k + 1, by go_num, by omega, by rw [HS.out]⟩
        case measure => simp [intOf]; omega
    · have HE := Lib.hid (show n - 1 = k by omega)
      go_wp2
      go_ret
      exact ⟨ret_int (by rw [HE.out]), rfl⟩
end Go.Proofs.Ythjldjbblaioaaa
