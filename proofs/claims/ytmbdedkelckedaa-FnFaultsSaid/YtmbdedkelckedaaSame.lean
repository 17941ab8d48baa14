/- The two functions SamePerpetual: both say whether two works are equal. No conditions but bounds on the lengths. -/
import Derived.Test.YtmbdedkelckedaaCore1
namespace Go.Proofs.Ytmbdedkelckedaa
open Go.RowKit
set_option linter.unusedVariables false
set_option linter.unusedSimpArgs false
set_option maxHeartbeats 1000000 in
theorem l00Same_any (A A' : Option Addr) (n n' c c' B B' : Nat) (zs ys : List Int) (w : World) (h : Ints w B A n zs) (h' : Ints w B' A' n' ys) (hn : n ≤ 9223372036854775807) (hn' : n' ≤ 9223372036854775807) :
    Calls Try.prog 45 #[.slice A n c, .slice A' n' c'] w fun e w' => e = .returned (.bool (decide (zs = ys))) ∧ ∃ m, w' = w.drewN m := by
  have hl := h.len
  have hl' := h'.len
  have H := Lib.hid h
  have H' := Lib.hid h'
  clear h h'
  by_cases hnn : n = n'
  · subst hnn
    have HL := Lib.hid (hl.trans hl'.symm)
    have HL0 := Lib.hid hl
    clear hl hl'
    go_enter Try.func45, Try.ntmps45
    go_wp2
    go_loopw [5] (fun t wr => ∃ k m : Nat, t = .int .i64 k ∧ k ≤ n ∧ Hid (∀ j, j < k → zs.getD j 0 = ys.getD j 0) ∧ wr = w.drewN m) (fun t _ => n - (intOf t).toNat)
    case atStart => exact ⟨0, 0, rfl, Nat.zero_le _, Lib.hid (fun j hj => absurd hj (by omega)), rfl⟩
    case round =>
      obtain ⟨k, m, rfl, hk, hj, rfl⟩ := hrel
      by_cases hlt : k < n
      · obtain ⟨b, off, rfl, hbl, hc⟩ := H.out.at_ hlt
        obtain ⟨b', off', rfl, hbl', hc'⟩ := H'.out.at_ hlt
        obtain ⟨x, hx⟩ : ∃ x, zs.getD k 0 = x := ⟨_, rfl⟩
        obtain ⟨y, hy⟩ : ∃ y, ys.getD k 0 = y := ⟨_, rfl⟩
        rw [hx] at hc
        rw [hy] at hc'
        have HX := Lib.hid hx
        have HY := Lib.hid hy
        clear hx hy
        have i0 : (0 : Int) ≤ (k : Int) := Int.natCast_nonneg _
        have i1 : (k : Int) < (n : Int) := by omega
        by_cases hxy : x = y
        · subst hxy
          have hne : (x != x) = false := by simp
          go_wp2
          go_quiet (fail)
          go_wp2
          go_roundw
          case rel =>
            refine ⟨k + 1, m + nq, by go_num, by omega, Lib.hid (fun j hj2 => ?_), by first | rfl | simp [World.drewN_drewN]⟩
            by_cases e : j = k
            · subst e; rw [HX.out, HY.out]
            · exact hj.out j (by omega)
          case measure => simp [intOf]; omega
        · have hne : (x != y) = true := by simpa using hxy
          have hxn := Lib.hid hxy
          clear hxy
          go_wp2
          go_quiet (fail)
          go_wp2
          go_ret
          have hno : decide (zs = ys) = false := decide_eq_false (fun e => hxn.out (by rw [← HX.out, ← HY.out, e]))
          exact ⟨ret_bool hno.symm, m + nq, by first | rfl | simp [World.drewN_drewN]⟩
      · have HE := Lib.hid (show k = n by omega)
        go_wp2
        go_ret
        refine ⟨ret_bool (decide_eq_true (list_eq_of HL.out (fun j hj2 => hj.out j ?_))).symm, m, rfl⟩
        rw [HE.out]; rw [HL0.out] at hj2; exact hj2
  · have hne : decide (zs = ys) = false := decide_eq_false (fun e => hnn (by rw [← hl, ← hl', e]))
    have HN := Lib.hid hne
    have hd : ((n : Int) != (n' : Int)) = true := by rw [bne_iff_ne]; omega
    clear hne hl hl'
    go_enter Try.func45, Try.ntmps45
    go_wp2
    go_ret
    exact ⟨ret_bool HN.out.symm, 0, rfl⟩
set_option maxHeartbeats 1000000 in
theorem slicesEqual_any (A A' : Option Addr) (n n' c c' B B' : Nat) (zs ys : List Int) (w : World) (h : Ints w B A n zs) (h' : Ints w B' A' n' ys) (hn : n ≤ 9223372036854775807) (hn' : n' ≤ 9223372036854775807) :
    Calls Try.prog 57 #[.slice A n c, .slice A' n' c'] w fun e w' => e = .returned (.bool (decide (zs = ys))) ∧ ∃ m, w' = w.drewN m := by
  have hl := h.len
  have hl' := h'.len
  have H := Lib.hid h
  have H' := Lib.hid h'
  clear h h'
  by_cases hnn : n = n'
  · subst hnn
    have HL := Lib.hid (hl.trans hl'.symm)
    have HL0 := Lib.hid hl
    clear hl hl'
    go_enter Try.func57, Try.ntmps57
    go_wp2
    go_loopw [13] (fun t wr => ∃ k m : Nat, t = .int .i64 k ∧ k ≤ n ∧ Hid (∀ j, j < k → zs.getD j 0 = ys.getD j 0) ∧ wr = w.drewN m) (fun t _ => n - (intOf t).toNat)
    case atStart => exact ⟨0, 0, rfl, Nat.zero_le _, Lib.hid (fun j hj => absurd hj (by omega)), rfl⟩
    case round =>
      obtain ⟨k, m, rfl, hk, hj, rfl⟩ := hrel
      by_cases hlt : k < n
      · obtain ⟨b, off, rfl, hbl, hc⟩ := H.out.at_ hlt
        obtain ⟨b', off', rfl, hbl', hc'⟩ := H'.out.at_ hlt
        obtain ⟨x, hx⟩ : ∃ x, zs.getD k 0 = x := ⟨_, rfl⟩
        obtain ⟨y, hy⟩ : ∃ y, ys.getD k 0 = y := ⟨_, rfl⟩
        rw [hx] at hc
        rw [hy] at hc'
        have HX := Lib.hid hx
        have HY := Lib.hid hy
        clear hx hy
        have i0 : (0 : Int) ≤ (k : Int) := Int.natCast_nonneg _
        have i1 : (k : Int) < (n : Int) := by omega
        by_cases hxy : x = y
        · subst hxy
          have hne : (x != x) = false := by simp
          go_wp2
          go_quiet (fail)
          go_wp2
          go_roundw
          case rel =>
            refine ⟨k + 1, m + nq, by go_num, by omega, Lib.hid (fun j hj2 => ?_), by first | rfl | simp [World.drewN_drewN]⟩
            by_cases e : j = k
            · subst e; rw [HX.out, HY.out]
            · exact hj.out j (by omega)
          case measure => simp [intOf]; omega
        · have hne : (x != y) = true := by simpa using hxy
          have hxn := Lib.hid hxy
          clear hxy
          go_wp2
          go_quiet (fail)
          go_wp2
          go_ret
          have hno : decide (zs = ys) = false := decide_eq_false (fun e => hxn.out (by rw [← HX.out, ← HY.out, e]))
          exact ⟨ret_bool hno.symm, m + nq, by first | rfl | simp [World.drewN_drewN]⟩
      · have HE := Lib.hid (show k = n by omega)
        go_wp2
        go_ret
        refine ⟨ret_bool (decide_eq_true (list_eq_of HL.out (fun j hj2 => hj.out j ?_))).symm, m, rfl⟩
        rw [HE.out]; rw [HL0.out] at hj2; exact hj2
  · have hne : decide (zs = ys) = false := decide_eq_false (fun e => hnn (by rw [← hl, ← hl', e]))
    have HN := Lib.hid hne
    have hd : ((n : Int) != (n' : Int)) = true := by rw [bne_iff_ne]; omega
    clear hne hl hl'
    go_enter Try.func57, Try.ntmps57
    go_wp2
    go_ret
    exact ⟨ret_bool HN.out.symm, 0, rfl⟩
/-- whether two works are equal -/
def sameB (zs ys : List Int) (mo te ix da we wd mo' te' ix' da' we' wd' : Int) : Bool := decide (zs = ys) && decide (mo = mo') && decide (te = te') && decide (ix = ix') && decide (da = da') && decide (we = we') && decide (wd = wd')
set_option maxHeartbeats 8000000 in
theorem specSamePerpetual_any (A A' : Option Addr) (n c n' c' B B' : Nat) (zs ys : List Int) (mo te ix da we wd mo' te' ix' da' we' wd' : Int) (w : World) (h : Ints w B A n zs) (h' : Ints w B' A' n' ys) (hB : B ≤ w.heap.size) (hB' : B' ≤ w.heap.size) (hn : n ≤ 9223372036854775807) (hn' : n' ≤ 9223372036854775807) :
    Calls Try.prog 14 #[.agg #[.slice A n c, .int .i64 mo, .int .i64 te, .int .i64 ix, .int .i64 da, .int .i64 we, .int .i64 wd], .agg #[.slice A' n' c', .int .i64 mo', .int .i64 te', .int .i64 ix', .int .i64 da', .int .i64 we', .int .i64 wd']] w fun e w' => e = .returned (.bool (sameB zs ys mo te ix da we wd mo' te' ix' da' we' wd')) ∧ Below w.heap.size w w' := by
  have cE := fun (W : World) (h : Ints W B A n zs) (h' : Ints W B' A' n' ys) => l00Same_any A A' n n' c c' B B' zs ys W h h' hn hn'
  have H := Lib.hid h
  have H' := Lib.hid h'
  clear h h'
  obtain ⟨d, hd⟩ : ∃ d, decide (zs = ys) = d := ⟨_, rfl⟩
  simp only [hd] at cE
  have CE := Lib.hid cE
  clear cE
  cases d
  · have HV : Hid (sameB zs ys mo te ix da we wd mo' te' ix' da' we' wd' = false) := Lib.hid (by simp [sameB, *])
    rw [HV.out]
    clear HV hd
    go_enter Try.func14, Try.ntmps14
    go_wp2_with fail
    go_at_call 45
    refine (CE.out _ ((H.out.alloc hB _).alloc (by simp; omega) _) ((H'.out.alloc hB' _).alloc (by simp; omega) _)).mono ?_
    rintro e w1 ⟨rfl, m1, rfl⟩
    go_wp2
    go_ret
    exact ⟨rfl, by (repeat (first | with_reducible exact Below.refl _ _ | with_reducible refine below_alloc ?_ _ | with_reducible refine below_drewN ?_ _ | with_reducible refine Below.drew ?_ | ((with_reducible refine below_set ?_ ?_ _); rotate_left; (focus (first | (simp; done) | (simp; omega) | omega))) | with_reducible refine below_call ?_ (by assumption)))⟩
  · by_cases e1 : mo = mo'
    · subst e1
      by_cases e2 : te = te'
      · subst e2
        by_cases e3 : ix = ix'
        · subst e3
          by_cases e4 : da = da'
          · subst e4
            by_cases e5 : we = we'
            · subst e5
              by_cases e6 : wd = wd'
              · subst e6
                have HV : Hid (sameB zs ys mo te ix da we wd mo te ix da we wd = true) := Lib.hid (by simp [sameB, *])
                rw [HV.out]
                clear HV hd
                go_enter Try.func14, Try.ntmps14
                go_wp2_with fail
                go_at_call 45
                refine (CE.out _ ((H.out.alloc hB _).alloc (by simp; omega) _) ((H'.out.alloc hB' _).alloc (by simp; omega) _)).mono ?_
                rintro e w1 ⟨rfl, m1, rfl⟩
                go_wp2
                go_ret
                exact ⟨rfl, by (repeat (first | with_reducible exact Below.refl _ _ | with_reducible refine below_alloc ?_ _ | with_reducible refine below_drewN ?_ _ | with_reducible refine Below.drew ?_ | ((with_reducible refine below_set ?_ ?_ _); rotate_left; (focus (first | (simp; done) | (simp; omega) | omega))) | with_reducible refine below_call ?_ (by assumption)))⟩
              · have n6 : (wd == wd') = false := by simpa using e6
                have HV : Hid (sameB zs ys mo te ix da we wd mo te ix da we wd' = false) := Lib.hid (by simp [sameB, *])
                rw [HV.out]
                clear HV hd
                go_enter Try.func14, Try.ntmps14
                go_wp2_with fail
                go_at_call 45
                refine (CE.out _ ((H.out.alloc hB _).alloc (by simp; omega) _) ((H'.out.alloc hB' _).alloc (by simp; omega) _)).mono ?_
                rintro e w1 ⟨rfl, m1, rfl⟩
                go_wp2
                go_ret
                exact ⟨rfl, by (repeat (first | with_reducible exact Below.refl _ _ | with_reducible refine below_alloc ?_ _ | with_reducible refine below_drewN ?_ _ | with_reducible refine Below.drew ?_ | ((with_reducible refine below_set ?_ ?_ _); rotate_left; (focus (first | (simp; done) | (simp; omega) | omega))) | with_reducible refine below_call ?_ (by assumption)))⟩
            · have n5 : (we == we') = false := by simpa using e5
              have HV : Hid (sameB zs ys mo te ix da we wd mo te ix da we' wd' = false) := Lib.hid (by simp [sameB, *])
              rw [HV.out]
              clear HV hd
              go_enter Try.func14, Try.ntmps14
              go_wp2_with fail
              go_at_call 45
              refine (CE.out _ ((H.out.alloc hB _).alloc (by simp; omega) _) ((H'.out.alloc hB' _).alloc (by simp; omega) _)).mono ?_
              rintro e w1 ⟨rfl, m1, rfl⟩
              go_wp2
              go_ret
              exact ⟨rfl, by (repeat (first | with_reducible exact Below.refl _ _ | with_reducible refine below_alloc ?_ _ | with_reducible refine below_drewN ?_ _ | with_reducible refine Below.drew ?_ | ((with_reducible refine below_set ?_ ?_ _); rotate_left; (focus (first | (simp; done) | (simp; omega) | omega))) | with_reducible refine below_call ?_ (by assumption)))⟩
          · have n4 : (da == da') = false := by simpa using e4
            have HV : Hid (sameB zs ys mo te ix da we wd mo te ix da' we' wd' = false) := Lib.hid (by simp [sameB, *])
            rw [HV.out]
            clear HV hd
            go_enter Try.func14, Try.ntmps14
            go_wp2_with fail
            go_at_call 45
            refine (CE.out _ ((H.out.alloc hB _).alloc (by simp; omega) _) ((H'.out.alloc hB' _).alloc (by simp; omega) _)).mono ?_
            rintro e w1 ⟨rfl, m1, rfl⟩
            go_wp2
            go_ret
            exact ⟨rfl, by (repeat (first | with_reducible exact Below.refl _ _ | with_reducible refine below_alloc ?_ _ | with_reducible refine below_drewN ?_ _ | with_reducible refine Below.drew ?_ | ((with_reducible refine below_set ?_ ?_ _); rotate_left; (focus (first | (simp; done) | (simp; omega) | omega))) | with_reducible refine below_call ?_ (by assumption)))⟩
        · have n3 : (ix == ix') = false := by simpa using e3
          have HV : Hid (sameB zs ys mo te ix da we wd mo te ix' da' we' wd' = false) := Lib.hid (by simp [sameB, *])
          rw [HV.out]
          clear HV hd
          go_enter Try.func14, Try.ntmps14
          go_wp2_with fail
          go_at_call 45
          refine (CE.out _ ((H.out.alloc hB _).alloc (by simp; omega) _) ((H'.out.alloc hB' _).alloc (by simp; omega) _)).mono ?_
          rintro e w1 ⟨rfl, m1, rfl⟩
          go_wp2
          go_ret
          exact ⟨rfl, by (repeat (first | with_reducible exact Below.refl _ _ | with_reducible refine below_alloc ?_ _ | with_reducible refine below_drewN ?_ _ | with_reducible refine Below.drew ?_ | ((with_reducible refine below_set ?_ ?_ _); rotate_left; (focus (first | (simp; done) | (simp; omega) | omega))) | with_reducible refine below_call ?_ (by assumption)))⟩
      · have n2 : (te == te') = false := by simpa using e2
        have HV : Hid (sameB zs ys mo te ix da we wd mo te' ix' da' we' wd' = false) := Lib.hid (by simp [sameB, *])
        rw [HV.out]
        clear HV hd
        go_enter Try.func14, Try.ntmps14
        go_wp2_with fail
        go_at_call 45
        refine (CE.out _ ((H.out.alloc hB _).alloc (by simp; omega) _) ((H'.out.alloc hB' _).alloc (by simp; omega) _)).mono ?_
        rintro e w1 ⟨rfl, m1, rfl⟩
        go_wp2
        go_ret
        exact ⟨rfl, by (repeat (first | with_reducible exact Below.refl _ _ | with_reducible refine below_alloc ?_ _ | with_reducible refine below_drewN ?_ _ | with_reducible refine Below.drew ?_ | ((with_reducible refine below_set ?_ ?_ _); rotate_left; (focus (first | (simp; done) | (simp; omega) | omega))) | with_reducible refine below_call ?_ (by assumption)))⟩
    · have n1 : (mo == mo') = false := by simpa using e1
      have HV : Hid (sameB zs ys mo te ix da we wd mo' te' ix' da' we' wd' = false) := Lib.hid (by simp [sameB, *])
      rw [HV.out]
      clear HV hd
      go_enter Try.func14, Try.ntmps14
      go_wp2_with fail
      go_at_call 45
      refine (CE.out _ ((H.out.alloc hB _).alloc (by simp; omega) _) ((H'.out.alloc hB' _).alloc (by simp; omega) _)).mono ?_
      rintro e w1 ⟨rfl, m1, rfl⟩
      go_wp2
      go_ret
      exact ⟨rfl, by (repeat (first | with_reducible exact Below.refl _ _ | with_reducible refine below_alloc ?_ _ | with_reducible refine below_drewN ?_ _ | with_reducible refine Below.drew ?_ | ((with_reducible refine below_set ?_ ?_ _); rotate_left; (focus (first | (simp; done) | (simp; omega) | omega))) | with_reducible refine below_call ?_ (by assumption)))⟩
end Go.Proofs.Ytmbdedkelckedaa
