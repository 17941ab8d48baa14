/- Contracts of the conversions of count wheels and of their validity. No conditions but that a wheel that is copied has at most 2^20 gaps. -/
import Derived.Test.YtajcbppndkkbpaaGreatDoorInts
import Derived.Deep.RegionHeld3
namespace Go.Proofs.YtajcbppndkkbpaaGreatDoor
open Go.RowKit
set_option linter.unusedVariables false
set_option linter.unusedSimpArgs false

set_option maxHeartbeats 400000 in
theorem isBlows_any (n : Int) (w : World) : Calls Tryz.prog 42 #[.int .i64 n] w fun e w' => e = .returned (.bool (inB n 1 12)) ∧ w = w' := by
  go_enter Tryz.func42, Tryz.ntmps42
  go_wp2_with (go_at_call 39; refine (within_any _ _ _ _).mono ?_; rintro e w' ⟨rfl, rfl⟩)
  go_ret
  exact ⟨rfl, rfl⟩
set_option maxHeartbeats 400000 in
theorem l20Blows_any (n : Int) (w : World) : Calls Tryz.prog 58 #[.int .i64 n] w fun e w' => e = .returned (.bool (inB n 1 12)) ∧ w = w' := by
  go_enter Tryz.func58, Tryz.ntmps58
  go_wp2_with (go_at_call 44; refine (l00In_any _ _ _ _).mono ?_; rintro e w' ⟨rfl, rfl⟩)
  go_ret
  exact ⟨rfl, rfl⟩
/-- a count wheel is valid -/
def vWheel (zs : List Int) : Bool := zs.all (fun z => inB z 1 12) && inB zs.length 1 24
theorem vWheel_yes {zs : List Int} (h : vWheel zs = true) : (∀ j, j < zs.length → 1 ≤ zs.getD j 0 ∧ zs.getD j 0 ≤ 12) ∧ 1 ≤ zs.length ∧ zs.length ≤ 24 := by
  simp only [vWheel, Bool.and_eq_true, List.all_eq_true] at h
  obtain ⟨h1, h2⟩ := h
  have := inB_yes h2
  refine ⟨fun j hj => ?_, by omega, by omega⟩
  rw [getD_of hj]
  exact inB_yes (h1 _ (List.getElem_mem hj))
theorem vWheel_bad {zs : List Int} {k : Nat} (hk : k < zs.length) (h : inB (zs.getD k 0) 1 12 = false) : vWheel zs = false := by
  have : zs.all (fun z => inB z 1 12) = false := by
    rw [List.all_eq_false]
    exact ⟨zs[k], List.getElem_mem hk, by rw [getD_of hk] at h; simp [h]⟩
  rw [vWheel, this]; rfl
theorem vWheel_len {zs : List Int} {n : Nat} (hl : zs.length = n) (h : ∀ j, j < n → inB (zs.getD j 0) 1 12 = true) : vWheel zs = inB n 1 24 := by
  have : zs.all (fun z => inB z 1 12) = true := by
    rw [List.all_eq_true]
    intro x hx
    obtain ⟨j, hj, rfl⟩ := List.mem_iff_getElem.1 hx
    have := h j (by omega)
    rwa [getD_of hj] at this
  rw [vWheel, this, hl]; rfl
set_option maxHeartbeats 1000000 in
theorem ValidCountWheel_any' (A : Option Addr) (n c B : Nat) (zs : List Int) (w : World) (h : Ints w B A n zs) (hB : B ≤ w.heap.size) (hn : n ≤ 1048577) :
    Calls Tryz.prog 19 #[.agg #[.slice A n c]] w fun e w' => e = .returned (.bool (vWheel zs)) ∧ Below w.heap.size w w' := by
  have HL := Lib.hid h.len
  have H := Lib.hid h
  clear h
  go_enter Tryz.func19, Tryz.ntmps19
  go_wp2
  go_loop [4, 8] (fun g t => ∃ k : Nat, t = .int .i64 k ∧ k ≤ n ∧ Hid (∀ j, j < k → inB (zs.getD j 0) 1 12 = true)) (fun _ t => n - (intOf t).toNat)
  case atStart => exact ⟨0, rfl, Nat.zero_le _, Lib.hid (fun j hj => absurd hj (by omega))⟩
  case round =>
    obtain ⟨k, rfl, hk, hj⟩ := hrel
    by_cases hlt : k < n
    · obtain ⟨b, off, rfl, hbl, hc⟩ := (H.out.alloc hB (.cells #[.slice A n c] 26)).at_ hlt
      obtain ⟨x, hx⟩ : ∃ x, zs.getD k 0 = x := ⟨_, rfl⟩
      rw [hx] at hc
      have HX := Lib.hid hx
      clear hx
      cases hi : inB x 1 12
      · have HV := Lib.hid (vWheel_bad (zs := zs) (k := k) (by rw [HL.out]; exact hlt) (by rw [HX.out]; exact hi))
        go_wp2_with (go_at_call 42; refine (isBlows_any _ _).mono ?_; rintro e w' ⟨rfl, rfl⟩)
        go_ret
        exact ⟨ret_bool HV.out.symm, by (repeat (first | with_reducible exact Below.refl _ _ | with_reducible refine below_alloc ?_ _ | with_reducible refine below_drewN ?_ _ | with_reducible refine Below.drew ?_ | ((with_reducible refine below_set ?_ ?_ _); rotate_left; (focus (first | (simp; done) | (simp; omega) | omega))) | with_reducible refine below_call ?_ (by assumption)))⟩
      · go_wp2_with (go_at_call 42; refine (isBlows_any _ _).mono ?_; rintro e w' ⟨rfl, rfl⟩)
        go_round
        case rel =>
          refine ⟨k + 1, by go_num, by omega, Lib.hid (fun j hj2 => ?_)⟩
          by_cases e : j = k
          · subst e; rw [HX.out]; exact hi
          · exact hj.out j (by omega)
        case measure => simp [intOf]; omega
    · have HV := Lib.hid (vWheel_len HL.out (fun j hj2 => hj.out j (by omega)))
      by_cases a1 : 1 ≤ n
      · by_cases a2 : n ≤ 24
        · go_wp2
          go_ret
          exact ⟨ret_bool (by rw [HV.out]; simp [inB]; omega), by (repeat (first | with_reducible exact Below.refl _ _ | with_reducible refine below_alloc ?_ _ | with_reducible refine below_drewN ?_ _ | with_reducible refine Below.drew ?_ | ((with_reducible refine below_set ?_ ?_ _); rotate_left; (focus (first | (simp; done) | (simp; omega) | omega))) | with_reducible refine below_call ?_ (by assumption)))⟩
        · go_wp2
          go_ret
          exact ⟨ret_bool (by rw [HV.out]; simp [inB]; omega), by (repeat (first | with_reducible exact Below.refl _ _ | with_reducible refine below_alloc ?_ _ | with_reducible refine below_drewN ?_ _ | with_reducible refine Below.drew ?_ | ((with_reducible refine below_set ?_ ?_ _); rotate_left; (focus (first | (simp; done) | (simp; omega) | omega))) | with_reducible refine below_call ?_ (by assumption)))⟩
      · go_wp2
        go_ret
        exact ⟨ret_bool (by rw [HV.out]; simp [inB]; omega), by (repeat (first | with_reducible exact Below.refl _ _ | with_reducible refine below_alloc ?_ _ | with_reducible refine below_drewN ?_ _ | with_reducible refine Below.drew ?_ | ((with_reducible refine below_set ?_ ?_ _); rotate_left; (focus (first | (simp; done) | (simp; omega) | omega))) | with_reducible refine below_call ?_ (by assumption)))⟩
theorem ValidCountWheel_any (A : Option Addr) (n c B : Nat) (zs : List Int) (w : World) (h : Ints w B A n zs) (hB : B ≤ w.heap.size) (hn : n ≤ 1048576) :
    Calls Tryz.prog 19 #[.agg #[.slice A n c]] w fun e w' => e = .returned (.bool (vWheel zs)) ∧ Below w.heap.size w w' :=
  ValidCountWheel_any' A n c B zs w h hB (by omega)
set_option maxHeartbeats 1000000 in
theorem l20Ok_any' (A : Option Addr) (n c B : Nat) (zs : List Int) (w : World) (h : Ints w B A n zs) (hB : B ≤ w.heap.size) (hn : n ≤ 1048577) :
    Calls Tryz.prog 34 #[.agg #[.slice A n c]] w fun e w' => e = .returned (.bool (vWheel zs)) ∧ Below w.heap.size w w' := by
  have HL := Lib.hid h.len
  have H := Lib.hid h
  clear h
  go_enter Tryz.func34, Tryz.ntmps34
  go_wp2
  go_loop [3] (fun t => ∃ k : Nat, t = .int .i64 k ∧ k ≤ n ∧ Hid (∀ j, j < k → inB (zs.getD j 0) 1 12 = true)) (fun t => n - (intOf t).toNat)
  case atStart => exact ⟨0, rfl, Nat.zero_le _, Lib.hid (fun j hj => absurd hj (by omega))⟩
  case round =>
    obtain ⟨k, rfl, hk, hj⟩ := hrel
    by_cases hlt : k < n
    · obtain ⟨b, off, rfl, hbl, hc⟩ := (H.out.alloc hB (.cells #[.slice A n c] 26)).at_ hlt
      obtain ⟨x, hx⟩ : ∃ x, zs.getD k 0 = x := ⟨_, rfl⟩
      rw [hx] at hc
      have HX := Lib.hid hx
      clear hx
      cases hi : inB x 1 12
      · have HV := Lib.hid (vWheel_bad (zs := zs) (k := k) (by rw [HL.out]; exact hlt) (by rw [HX.out]; exact hi))
        go_wp2_with (go_at_call 58; refine (l20Blows_any _ _).mono ?_; rintro e w' ⟨rfl, rfl⟩)
        go_ret
        exact ⟨ret_bool HV.out.symm, by (repeat (first | with_reducible exact Below.refl _ _ | with_reducible refine below_alloc ?_ _ | with_reducible refine below_drewN ?_ _ | with_reducible refine Below.drew ?_ | ((with_reducible refine below_set ?_ ?_ _); rotate_left; (focus (first | (simp; done) | (simp; omega) | omega))) | with_reducible refine below_call ?_ (by assumption)))⟩
      · go_wp2_with (go_at_call 58; refine (l20Blows_any _ _).mono ?_; rintro e w' ⟨rfl, rfl⟩)
        go_round
        case rel =>
          refine ⟨k + 1, by go_num, by omega, Lib.hid (fun j hj2 => ?_)⟩
          by_cases e : j = k
          · subst e; rw [HX.out]; exact hi
          · exact hj.out j (by omega)
        case measure => simp [intOf]; omega
    · have HV := Lib.hid (vWheel_len HL.out (fun j hj2 => hj.out j (by omega)))
      go_wp2_with (go_at_call 44; refine (l00In_any _ _ _ _).mono ?_; rintro e w' ⟨rfl, rfl⟩)
      go_ret
      exact ⟨ret_bool HV.out.symm, by (repeat (first | with_reducible exact Below.refl _ _ | with_reducible refine below_alloc ?_ _ | with_reducible refine below_drewN ?_ _ | with_reducible refine Below.drew ?_ | ((with_reducible refine below_set ?_ ?_ _); rotate_left; (focus (first | (simp; done) | (simp; omega) | omega))) | with_reducible refine below_call ?_ (by assumption)))⟩
theorem l20Ok_any (A : Option Addr) (n c B : Nat) (zs : List Int) (w : World) (h : Ints w B A n zs) (hB : B ≤ w.heap.size) (hn : n ≤ 1048576) :
    Calls Tryz.prog 34 #[.agg #[.slice A n c]] w fun e w' => e = .returned (.bool (vWheel zs)) ∧ Below w.heap.size w w' :=
  l20Ok_any' A n c B zs w h hB (by omega)
end Go.Proofs.YtajcbppndkkbpaaGreatDoor
