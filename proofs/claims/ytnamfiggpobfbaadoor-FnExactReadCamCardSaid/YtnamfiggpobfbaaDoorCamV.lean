/- Contracts of the validity of cams, the program's and the reference's. No conditions but that a cam has at most 2^20 levels. -/
import Derived.Test.YtnamfiggpobfbaaDoorInts
namespace Go.Proofs.YtnamfiggpobfbaaDoor
open Go.RowKit
set_option linter.unusedVariables false
set_option linter.unusedSimpArgs false
/-- a cam is valid -/
def vCam (zs : List Int) : Bool := zs.all (fun z => inB z 1 60) && inB zs.length 1 260
theorem vCam_yes {zs : List Int} (h : vCam zs = true) : (∀ j, j < zs.length → 1 ≤ zs.getD j 0 ∧ zs.getD j 0 ≤ 60) ∧ 1 ≤ zs.length ∧ zs.length ≤ 260 := by
  simp only [vCam, Bool.and_eq_true, List.all_eq_true] at h
  obtain ⟨h1, h2⟩ := h
  have := inB_yes h2
  refine ⟨fun j hj => ?_, by omega, by omega⟩
  rw [getD_of hj]
  exact inB_yes (h1 _ (List.getElem_mem hj))
theorem vCam_bad {zs : List Int} {k : Nat} (hk : k < zs.length) (h : inB (zs.getD k 0) 1 60 = false) : vCam zs = false := by
  have : zs.all (fun z => inB z 1 60) = false := by
    rw [List.all_eq_false]
    exact ⟨zs[k], List.getElem_mem hk, by rw [getD_of hk] at h; simp [h]⟩
  rw [vCam, this]; rfl
theorem vCam_len {zs : List Int} {n : Nat} (hl : zs.length = n) (h : ∀ j, j < n → inB (zs.getD j 0) 1 60 = true) : vCam zs = inB n 1 260 := by
  have : zs.all (fun z => inB z 1 60) = true := by
    rw [List.all_eq_true]
    intro x hx
    obtain ⟨j, hj, rfl⟩ := List.mem_iff_getElem.1 hx
    have := h j (by omega)
    rwa [getD_of hj] at this
  rw [vCam, this, hl]; rfl
set_option maxHeartbeats 1000000 in
theorem ValidCam_any' (A : Option Addr) (n c B : Nat) (zs : List Int) (w : World) (h : Ints w B A n zs) (hn : n ≤ 1048577) :
    Calls Tryd.prog 14 #[.slice A n c] w fun e w' => e = .returned (.bool (vCam zs)) ∧ w = w' := by
  have HL := Lib.hid h.len
  have H := Lib.hid h
  clear h
  go_enter Tryd.func14, Tryd.ntmps14
  go_wp2
  go_loop [4, 7] (fun g t => ∃ k : Nat, t = .int .i64 k ∧ k ≤ n ∧ Hid (∀ j, j < k → inB (zs.getD j 0) 1 60 = true)) (fun _ t => n - (intOf t).toNat)
  case atStart => exact ⟨0, rfl, Nat.zero_le _, Lib.hid (fun j hj => absurd hj (by omega))⟩
  case round =>
    obtain ⟨k, rfl, hk, hj⟩ := hrel
    by_cases hlt : k < n
    · obtain ⟨b, off, rfl, hbl, hc⟩ := H.out.at_ hlt
      obtain ⟨x, hx⟩ : ∃ x, zs.getD k 0 = x := ⟨_, rfl⟩
      rw [hx] at hc
      have HX := Lib.hid hx
      clear hx
      cases hi : inB x 1 60
      · have HV := Lib.hid (vCam_bad (zs := zs) (k := k) (by rw [HL.out]; exact hlt) (by rw [HX.out]; exact hi))
        go_wp2_with (go_at_call 23; refine (within_any _ _ _ _).mono ?_; rintro e w' ⟨rfl, rfl⟩)
        go_ret
        exact ⟨ret_bool HV.out.symm, rfl⟩
      · go_wp2_with (go_at_call 23; refine (within_any _ _ _ _).mono ?_; rintro e w' ⟨rfl, rfl⟩)
        go_round
        case rel =>
          refine ⟨k + 1, by go_num, by omega, Lib.hid (fun j hj2 => ?_)⟩
          by_cases e : j = k
          · subst e; rw [HX.out]; exact hi
          · exact hj.out j (by omega)
        case measure => simp [intOf]; omega
    · have HV := Lib.hid (vCam_len HL.out (fun j hj2 => hj.out j (by omega)))
      by_cases a1 : 1 ≤ n
      · by_cases a2 : n ≤ 260
        · go_wp2
          go_ret
          exact ⟨ret_bool (by rw [HV.out]; simp [inB]; omega), rfl⟩
        · go_wp2
          go_ret
          exact ⟨ret_bool (by rw [HV.out]; simp [inB]; omega), rfl⟩
      · go_wp2
        go_ret
        exact ⟨ret_bool (by rw [HV.out]; simp [inB]; omega), rfl⟩
theorem ValidCam_any (A : Option Addr) (n c B : Nat) (zs : List Int) (w : World) (h : Ints w B A n zs) (hn : n ≤ 1048576) :
    Calls Tryd.prog 14 #[.slice A n c] w fun e w' => e = .returned (.bool (vCam zs)) ∧ w = w' :=
  ValidCam_any' A n c B zs w h (by omega)
set_option maxHeartbeats 1000000 in
theorem l17Ok_any (A : Option Addr) (n c B : Nat) (zs : List Int) (w : World) (h : Ints w B A n zs) (hn : n ≤ 1048576) :
    Calls Tryd.prog 11 #[.slice A n c] w fun e w' => e = .returned (.bool (vCam zs)) ∧ w = w' := by
  have HL := Lib.hid h.len
  have H := Lib.hid h
  clear h
  go_enter Tryd.func11, Tryd.ntmps11
  go_wp2
  go_loop [3] (fun t => ∃ k : Nat, t = .int .i64 k ∧ k ≤ n ∧ Hid (∀ j, j < k → inB (zs.getD j 0) 1 60 = true)) (fun t => n - (intOf t).toNat)
  case atStart => exact ⟨0, rfl, Nat.zero_le _, Lib.hid (fun j hj => absurd hj (by omega))⟩
  case round =>
    obtain ⟨k, rfl, hk, hj⟩ := hrel
    by_cases hlt : k < n
    · obtain ⟨b, off, rfl, hbl, hc⟩ := H.out.at_ hlt
      obtain ⟨x, hx⟩ : ∃ x, zs.getD k 0 = x := ⟨_, rfl⟩
      rw [hx] at hc
      have HX := Lib.hid hx
      clear hx
      cases hi : inB x 1 60
      · have HV := Lib.hid (vCam_bad (zs := zs) (k := k) (by rw [HL.out]; exact hlt) (by rw [HX.out]; exact hi))
        go_wp2_with (go_at_call 18; refine (l00In_any _ _ _ _).mono ?_; rintro e w' ⟨rfl, rfl⟩)
        go_ret
        exact ⟨ret_bool HV.out.symm, rfl⟩
      · go_wp2_with (go_at_call 18; refine (l00In_any _ _ _ _).mono ?_; rintro e w' ⟨rfl, rfl⟩)
        go_round
        case rel =>
          refine ⟨k + 1, by go_num, by omega, Lib.hid (fun j hj2 => ?_)⟩
          by_cases e : j = k
          · subst e; rw [HX.out]; exact hi
          · exact hj.out j (by omega)
        case measure => simp [intOf]; omega
    · have HV := Lib.hid (vCam_len HL.out (fun j hj2 => hj.out j (by omega)))
      go_wp2_with (go_at_call 18; refine (l00In_any _ _ _ _).mono ?_; rintro e w' ⟨rfl, rfl⟩)
      go_ret
      exact ⟨ret_bool HV.out.symm, rfl⟩
end Go.Proofs.YtnamfiggpobfbaaDoor
