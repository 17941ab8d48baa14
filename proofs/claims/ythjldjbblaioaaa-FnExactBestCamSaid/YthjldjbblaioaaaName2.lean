/- Contract of the reference's IsName. No conditions. -/
import Derived.Test.YthjldjbblaioaaaName
namespace Go.Proofs.Ythjldjbblaioaaa
open Go.RowKit
set_option linter.unusedVariables false
set_option linter.unusedSimpArgs false
set_option maxHeartbeats 400000 in
theorem l01Small_val (b : UInt8) (w : World) (v : Bool) (hv : smallB b = v) :
    Calls Try.prog 133 #[.int .u8 (b.toNat : Int)] w fun e w' => e = .returned (.bool v) ∧ w = w' := by
  rw [← hv]
  clear hv
  by_cases h1 : (97 : Int) ≤ (b.toNat : Int)
  · by_cases h2 : (b.toNat : Int) ≤ 122
    · have hd : smallB b = true := (smallB_iff b).2 ⟨h1, h2⟩
      rw [hd]
      clear hd
      go_enter Try.func133, Try.ntmps133
      go_wp2
      go_ret
      exact ⟨rfl, rfl⟩
    · have hd : smallB b = false := no_of (smallB_iff b) (by omega)
      rw [hd]
      clear hd
      go_enter Try.func133, Try.ntmps133
      go_wp2
      go_ret
      exact ⟨rfl, rfl⟩
  · have hd : smallB b = false := no_of (smallB_iff b) (by omega)
    rw [hd]
    clear hd
    go_enter Try.func133, Try.ntmps133
    go_wp2
    go_ret
    exact ⟨rfl, rfl⟩
set_option maxHeartbeats 400000 in
theorem l01Digit_val (b : UInt8) (w : World) (v : Bool) (hv : digB b = v) :
    Calls Try.prog 134 #[.int .u8 (b.toNat : Int)] w fun e w' => e = .returned (.bool v) ∧ w = w' := by
  rw [← hv]
  clear hv
  by_cases h1 : (48 : Int) ≤ (b.toNat : Int)
  · by_cases h2 : (b.toNat : Int) ≤ 57
    · have hd : digB b = true := (digB_iff b).2 ⟨h1, h2⟩
      rw [hd]
      clear hd
      go_enter Try.func134, Try.ntmps134
      go_wp2
      go_ret
      exact ⟨rfl, rfl⟩
    · have hd : digB b = false := no_of (digB_iff b) (by omega)
      rw [hd]
      clear hd
      go_enter Try.func134, Try.ntmps134
      go_wp2
      go_ret
      exact ⟨rfl, rfl⟩
  · have hd : digB b = false := no_of (digB_iff b) (by omega)
    rw [hd]
    clear hd
    go_enter Try.func134, Try.ntmps134
    go_wp2
    go_ret
    exact ⟨rfl, rfl⟩
set_option maxRecDepth 8000 in
set_option maxHeartbeats 1000000 in
theorem specIsName_any (s : ByteArray) (w : World) : Calls Try.prog 103 #[.string s] w fun e w' => e = .returned (.bool (vName s.data.toList)) ∧ Below w.heap.size w w' := by
  have hl := list_size s
  have etl : s.toList = s.data.toList := ByteArray.toList_eq s
  by_cases h1 : s.size = 0
  · have HV := Lib.hid (vName_len (l := s.data.toList) (by omega))
    have hs : s = ⟨#[]⟩ := by
      apply ByteArray.ext
      exact Array.eq_empty_of_size_eq_zero h1
    subst hs
    clear hl etl
    go_enter Try.func103, Try.ntmps103
    go_wp2
    go_ret
    exact ⟨by rw [HV.out]; rfl, Below.refl _ _⟩
  · have q0 : s.toList ≠ [] := by rw [etl]; intro e; rw [e] at hl; simp at hl; omega
    have q1 : (s.toList == []) = false := by simpa using q0
    have i0 : (0 : Int) < (s.size : Int) := by omega
    by_cases h12 : 12 < s.size
    · have i2 : (12 : Int) < (s.size : Int) := by omega
      have HV := Lib.hid (vName_len (l := s.data.toList) (by omega))
      clear hl etl
      go_enter Try.func103, Try.ntmps103
      go_wp2
      go_ret
      exact ⟨by rw [HV.out]; rfl, Below.refl _ _⟩
    · have i2 : ¬ ((12 : Int) < (s.size : Int)) := by omega
      have HL := Lib.hid hl
      have hb0 : 0 < s.size := by omega
      obtain ⟨b0, e0⟩ : ∃ b0, s[0] = b0 := ⟨_, rfl⟩
      have HB0 := Lib.hid ((byte_getD hb0).symm.trans e0)
      clear hl etl
      cases hs0 : smallB b0
      · have HV := Lib.hid (vName_first (l := s.data.toList) (by rw [HB0.out]; exact hs0))
        have HS := Lib.hid hs0
        clear hs0
        go_enter Try.func103, Try.ntmps103
        go_wp2_with (first | (go_at_call 133; refine (l01Small_val b0 _ false HS.out).mono ?_; rintro e w' ⟨rfl, rfl⟩) | fail)
        go_ret
        exact ⟨by rw [HV.out]; rfl, Below.refl _ _⟩
      · have HS := Lib.hid hs0
        clear hs0
        go_enter Try.func103, Try.ntmps103
        go_wp2_with (first | (go_at_call 133; refine (l01Small_val b0 _ true HS.out).mono ?_; rintro e w' ⟨rfl, rfl⟩) | fail)
        go_loopw [3] (fun t wr => ∃ k : Nat, t = .int .i64 k ∧ k ≤ s.size ∧ Hid (∀ j, j < k → nameB (s.data.toList.getD j 0) = true) ∧ wr = w) (fun t _ => s.size - (intOf t).toNat)
        case atStart => exact ⟨0, rfl, Nat.zero_le _, Lib.hid (fun j hj => absurd hj (by omega)), rfl⟩
        case round =>
          obtain ⟨k, rfl, hk, hA, rfl⟩ := hrel
          have j0 : (0 : Int) ≤ (k : Int) := Int.natCast_nonneg _
          by_cases hlt : k < s.size
          · have i3 : (k : Int) < (s.size : Int) := by omega
            obtain ⟨b, hb⟩ : ∃ b, s[k] = b := ⟨_, rfl⟩
            have HB := Lib.hid ((byte_getD hlt).symm.trans hb)
            have HN := Lib.hid (show nameB b = (smallB b || digB b || decide (b.toNat = 45)) from rfl)
            cases hs1 : smallB b
            · cases hd1 : digB b
              · by_cases h45 : b.toNat = 45
                · have HT := Lib.hid (show nameB b = true by rw [HN.out, hs1, hd1]; simp [h45])
                  have a10 : ((b.toNat : Int) != 45) = false := bne_eq_false_iff_eq.2 (by omega)
                  have HS1 := Lib.hid hs1
                  have HD1 := Lib.hid hd1
                  clear hs1 hd1
                  try clear h45
                  go_wp2_with (first | (go_at_call 133; refine (l01Small_val b _ _ HS1.out).mono ?_; rintro e w' ⟨rfl, rfl⟩) | (go_at_call 134; refine (l01Digit_val b _ _ HD1.out).mono ?_; rintro e w' ⟨rfl, rfl⟩) | fail)
                  go_roundw
                  case rel =>
                    refine ⟨k + 1, by go_num, by omega, Lib.hid (fun j hj => ?_), trivial⟩
                    by_cases e : j = k
                    · subst e; rw [HB.out]; exact HT.out
                    · exact hA.out j (by omega)
                  case measure => simp [intOf]; omega
                · have HV := Lib.hid (show vName s.data.toList = false from vName_bad (k := k) (by rw [HL.out]; exact hlt) (by rw [HB.out, HN.out, hs1, hd1]; simp [h45]))
                  have a10 : ((b.toNat : Int) != 45) = true := bne_iff_ne.2 (by omega)
                  have HS1 := Lib.hid hs1
                  have HD1 := Lib.hid hd1
                  clear hs1 hd1
                  try clear h45
                  go_wp2_with (first | (go_at_call 133; refine (l01Small_val b _ _ HS1.out).mono ?_; rintro e w' ⟨rfl, rfl⟩) | (go_at_call 134; refine (l01Digit_val b _ _ HD1.out).mono ?_; rintro e w' ⟨rfl, rfl⟩) | fail)
                  go_ret
                  exact ⟨by rw [HV.out]; rfl, Below.refl _ _⟩
              · have HT := Lib.hid (show nameB b = true by rw [HN.out, hs1, hd1]; rfl)
                have HS1 := Lib.hid hs1
                have HD1 := Lib.hid hd1
                clear hs1 hd1
                try clear h45
                go_wp2_with (first | (go_at_call 133; refine (l01Small_val b _ _ HS1.out).mono ?_; rintro e w' ⟨rfl, rfl⟩) | (go_at_call 134; refine (l01Digit_val b _ _ HD1.out).mono ?_; rintro e w' ⟨rfl, rfl⟩) | fail)
                go_roundw
                case rel =>
                  refine ⟨k + 1, by go_num, by omega, Lib.hid (fun j hj => ?_), trivial⟩
                  by_cases e : j = k
                  · subst e; rw [HB.out]; exact HT.out
                  · exact hA.out j (by omega)
                case measure => simp [intOf]; omega
            · have HT := Lib.hid (show nameB b = true by rw [HN.out, hs1]; rfl)
              have HS1 := Lib.hid hs1
              clear hs1
              go_wp2_with (first | (go_at_call 133; refine (l01Small_val b _ _ HS1.out).mono ?_; rintro e w' ⟨rfl, rfl⟩) | fail)
              go_roundw
              case rel =>
                refine ⟨k + 1, by go_num, by omega, Lib.hid (fun j hj => ?_), trivial⟩
                by_cases e : j = k
                · subst e; rw [HB.out]; exact HT.out
                · exact hA.out j (by omega)
              case measure => simp [intOf]; omega
          · have HV := Lib.hid (show vName s.data.toList = true from vName_good (by rw [HL.out]; omega) (by rw [HL.out]; omega) (by rw [HB0.out]; exact HS.out) (fun j hj => hA.out j (by rw [HL.out] at hj; omega)))
            go_wp2
            go_ret
            exact ⟨by rw [HV.out]; rfl, Below.refl _ _⟩
end Go.Proofs.Ythjldjbblaioaaa
