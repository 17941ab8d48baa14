/- Whether two slices of int64 are equal: the library's Equal, the reference's l00Same, the laws' f6same. No conditions but bounds on the lengths. -/
import Derived.Test.YtajcbppndkkbpaaGreatDoorInts
namespace Go.Proofs.YtajcbppndkkbpaaGreatDoor
open Go.RowKit
set_option linter.unusedVariables false
set_option linter.unusedSimpArgs false
set_option maxHeartbeats 1000000 in
theorem l00Same_any (A A' : Option Addr) (n n' c c' B B' : Nat) (zs ys : List Int) (w : World) (h : Ints w B A n zs) (h' : Ints w B' A' n' ys) (hn : n ≤ 9223372036854775807) (hn' : n' ≤ 9223372036854775807) :
    Calls Tryz.prog 38 #[.slice A n c, .slice A' n' c'] w fun e w' => e = .returned (.bool (decide (zs = ys))) ∧ ∃ m, w' = w.drewN m := by
  have hl := h.len
  have hl' := h'.len
  have H := Lib.hid h
  have H' := Lib.hid h'
  clear h h'
  by_cases hnn : n = n'
  · subst hnn
    have HL := Lib.hid (hl.trans hl'.symm)
    have HL0 := Lib.hid hl
    clear hl hl'
    go_enter Tryz.func38, Tryz.ntmps38
    go_wp2
    go_loopw [5] (fun t wr => ∃ k m : Nat, t = .int .i64 k ∧ k ≤ n ∧ Hid (∀ j, j < k → zs.getD j 0 = ys.getD j 0) ∧ wr = w.drewN m) (fun t _ => n - (intOf t).toNat)
    case atStart => exact ⟨0, 0, rfl, Nat.zero_le _, Lib.hid (fun j hj => absurd hj (by omega)), rfl⟩
    case round =>
      obtain ⟨k, m, rfl, hk, hj, rfl⟩ := hrel
      by_cases hlt : k < n
      · obtain ⟨b, off, rfl, hbl, hc⟩ := H.out.at_ hlt
        obtain ⟨b', off', rfl, hbl', hc'⟩ := H'.out.at_ hlt
        obtain ⟨x, hx⟩ : ∃ x, zs.getD k 0 = x := ⟨_, rfl⟩
        obtain ⟨y, hy⟩ : ∃ y, ys.getD k 0 = y := ⟨_, rfl⟩
        rw [hx] at hc
        rw [hy] at hc'
        have HX := Lib.hid hx
        have HY := Lib.hid hy
        clear hx hy
        have i0 : (0 : Int) ≤ (k : Int) := Int.natCast_nonneg _
        have i1 : (k : Int) < (n : Int) := by omega
        by_cases hxy : x = y
        · subst hxy
          have hne : (x != x) = false := by simp
          go_wp2
          go_quiet (fail)
          go_wp2
          go_roundw
          case rel =>
            refine ⟨k + 1, m + nq, by go_num, by omega, Lib.hid (fun j hj2 => ?_), by first | rfl | simp [World.drewN_drewN]⟩
            by_cases e : j = k
            · subst e; rw [HX.out, HY.out]
            · exact hj.out j (by omega)
          case measure => simp [intOf]; omega
        · have hne : (x != y) = true := by simpa using hxy
          have hxn := Lib.hid hxy
          clear hxy
          go_wp2
          go_quiet (fail)
          go_wp2
          go_ret
          have hno : decide (zs = ys) = false := decide_eq_false (fun e => hxn.out (by rw [← HX.out, ← HY.out, e]))
          exact ⟨ret_bool hno.symm, m + nq, by first | rfl | simp [World.drewN_drewN]⟩
      · have HE := Lib.hid (show k = n by omega)
        go_wp2
        go_ret
        refine ⟨ret_bool (decide_eq_true (list_eq_of HL.out (fun j hj2 => hj.out j ?_))).symm, m, rfl⟩
        rw [HE.out]; rw [HL0.out] at hj2; exact hj2
  · have hne : decide (zs = ys) = false := decide_eq_false (fun e => hnn (by rw [← hl, ← hl', e]))
    have HN := Lib.hid hne
    have hd : ((n : Int) != (n' : Int)) = true := by rw [bne_iff_ne]; omega
    clear hne hl hl'
    go_enter Tryz.func38, Tryz.ntmps38
    go_wp2
    go_ret
    exact ⟨ret_bool HN.out.symm, 0, rfl⟩
set_option maxHeartbeats 1000000 in
theorem slicesEqual_any (A A' : Option Addr) (n n' c c' B B' : Nat) (zs ys : List Int) (w : World) (h : Ints w B A n zs) (h' : Ints w B' A' n' ys) (hn : n ≤ 9223372036854775807) (hn' : n' ≤ 9223372036854775807) :
    Calls Tryz.prog 37 #[.slice A n c, .slice A' n' c'] w fun e w' => e = .returned (.bool (decide (zs = ys))) ∧ ∃ m, w' = w.drewN m := by
  have hl := h.len
  have hl' := h'.len
  have H := Lib.hid h
  have H' := Lib.hid h'
  clear h h'
  by_cases hnn : n = n'
  · subst hnn
    have HL := Lib.hid (hl.trans hl'.symm)
    have HL0 := Lib.hid hl
    clear hl hl'
    go_enter Tryz.func37, Tryz.ntmps37
    go_wp2
    go_loopw [13] (fun t wr => ∃ k m : Nat, t = .int .i64 k ∧ k ≤ n ∧ Hid (∀ j, j < k → zs.getD j 0 = ys.getD j 0) ∧ wr = w.drewN m) (fun t _ => n - (intOf t).toNat)
    case atStart => exact ⟨0, 0, rfl, Nat.zero_le _, Lib.hid (fun j hj => absurd hj (by omega)), rfl⟩
    case round =>
      obtain ⟨k, m, rfl, hk, hj, rfl⟩ := hrel
      by_cases hlt : k < n
      · obtain ⟨b, off, rfl, hbl, hc⟩ := H.out.at_ hlt
        obtain ⟨b', off', rfl, hbl', hc'⟩ := H'.out.at_ hlt
        obtain ⟨x, hx⟩ : ∃ x, zs.getD k 0 = x := ⟨_, rfl⟩
        obtain ⟨y, hy⟩ : ∃ y, ys.getD k 0 = y := ⟨_, rfl⟩
        rw [hx] at hc
        rw [hy] at hc'
        have HX := Lib.hid hx
        have HY := Lib.hid hy
        clear hx hy
        have i0 : (0 : Int) ≤ (k : Int) := Int.natCast_nonneg _
        have i1 : (k : Int) < (n : Int) := by omega
        by_cases hxy : x = y
        · subst hxy
          have hne : (x != x) = false := by simp
          go_wp2
          go_quiet (fail)
          go_wp2
          go_roundw
          case rel =>
            refine ⟨k + 1, m + nq, by go_num, by omega, Lib.hid (fun j hj2 => ?_), by first | rfl | simp [World.drewN_drewN]⟩
            by_cases e : j = k
            · subst e; rw [HX.out, HY.out]
            · exact hj.out j (by omega)
          case measure => simp [intOf]; omega
        · have hne : (x != y) = true := by simpa using hxy
          have hxn := Lib.hid hxy
          clear hxy
          go_wp2
          go_quiet (fail)
          go_wp2
          go_ret
          have hno : decide (zs = ys) = false := decide_eq_false (fun e => hxn.out (by rw [← HX.out, ← HY.out, e]))
          exact ⟨ret_bool hno.symm, m + nq, by first | rfl | simp [World.drewN_drewN]⟩
      · have HE := Lib.hid (show k = n by omega)
        go_wp2
        go_ret
        refine ⟨ret_bool (decide_eq_true (list_eq_of HL.out (fun j hj2 => hj.out j ?_))).symm, m, rfl⟩
        rw [HE.out]; rw [HL0.out] at hj2; exact hj2
  · have hne : decide (zs = ys) = false := decide_eq_false (fun e => hnn (by rw [← hl, ← hl', e]))
    have HN := Lib.hid hne
    have hd : ((n : Int) != (n' : Int)) = true := by rw [bne_iff_ne]; omega
    clear hne hl hl'
    go_enter Tryz.func37, Tryz.ntmps37
    go_wp2
    go_ret
    exact ⟨ret_bool HN.out.symm, 0, rfl⟩
set_option maxHeartbeats 1000000 in
theorem f6same_any (A A' : Option Addr) (n n' c c' B B' : Nat) (zs ys : List Int) (w : World) (h : Ints w B A n zs) (h' : Ints w B' A' n' ys) (hn : n ≤ 9223372036854775807) (hn' : n' ≤ 9223372036854775807) :
    Calls Tryz.prog 8 #[.slice A n c, .slice A' n' c'] w fun e w' => e = .returned (.bool (decide (zs = ys))) ∧ ∃ m, w' = w.drewN m := by
  have hl := h.len
  have hl' := h'.len
  have H := Lib.hid h
  have H' := Lib.hid h'
  clear h h'
  by_cases hnn : n = n'
  · subst hnn
    have HL := Lib.hid (hl.trans hl'.symm)
    have HL0 := Lib.hid hl
    clear hl hl'
    go_enter Tryz.func8, Tryz.ntmps8
    go_wp2
    go_loopw [5] (fun t wr => ∃ k m : Nat, t = .int .i64 k ∧ k ≤ n ∧ Hid (∀ j, j < k → zs.getD j 0 = ys.getD j 0) ∧ wr = w.drewN m) (fun t _ => n - (intOf t).toNat)
    case atStart => exact ⟨0, 0, rfl, Nat.zero_le _, Lib.hid (fun j hj => absurd hj (by omega)), rfl⟩
    case round =>
      obtain ⟨k, m, rfl, hk, hj, rfl⟩ := hrel
      by_cases hlt : k < n
      · obtain ⟨b, off, rfl, hbl, hc⟩ := H.out.at_ hlt
        obtain ⟨b', off', rfl, hbl', hc'⟩ := H'.out.at_ hlt
        obtain ⟨x, hx⟩ : ∃ x, zs.getD k 0 = x := ⟨_, rfl⟩
        obtain ⟨y, hy⟩ : ∃ y, ys.getD k 0 = y := ⟨_, rfl⟩
        rw [hx] at hc
        rw [hy] at hc'
        have HX := Lib.hid hx
        have HY := Lib.hid hy
        clear hx hy
        have i0 : (0 : Int) ≤ (k : Int) := Int.natCast_nonneg _
        have i1 : (k : Int) < (n : Int) := by omega
        by_cases hxy : x = y
        · subst hxy
          have hne : (x != x) = false := by simp
          go_wp2
          go_quiet (fail)
          go_wp2
          go_roundw
          case rel =>
            refine ⟨k + 1, m + nq, by go_num, by omega, Lib.hid (fun j hj2 => ?_), by first | rfl | simp [World.drewN_drewN]⟩
            by_cases e : j = k
            · subst e; rw [HX.out, HY.out]
            · exact hj.out j (by omega)
          case measure => simp [intOf]; omega
        · have hne : (x != y) = true := by simpa using hxy
          have hxn := Lib.hid hxy
          clear hxy
          go_wp2
          go_quiet (fail)
          go_wp2
          go_ret
          have hno : decide (zs = ys) = false := decide_eq_false (fun e => hxn.out (by rw [← HX.out, ← HY.out, e]))
          exact ⟨ret_bool hno.symm, m + nq, by first | rfl | simp [World.drewN_drewN]⟩
      · have HE := Lib.hid (show k = n by omega)
        go_wp2
        go_ret
        refine ⟨ret_bool (decide_eq_true (list_eq_of HL.out (fun j hj2 => hj.out j ?_))).symm, m, rfl⟩
        rw [HE.out]; rw [HL0.out] at hj2; exact hj2
  · have hne : decide (zs = ys) = false := decide_eq_false (fun e => hnn (by rw [← hl, ← hl', e]))
    have HN := Lib.hid hne
    have hd : ((n : Int) != (n' : Int)) = true := by rw [bne_iff_ne]; omega
    clear hne hl hl'
    go_enter Tryz.func8, Tryz.ntmps8
    go_wp2
    go_ret
    exact ⟨ret_bool HN.out.symm, 0, rfl⟩
end Go.Proofs.YtajcbppndkkbpaaGreatDoor
