/- Contracts of the reference's validity of perpetual works. No conditions but that a cam has at most 2^20 levels. -/
import Derived.Test.YthjldjbblaioaaaPerpOk
namespace Go.Proofs.Ythjldjbblaioaaa
open Go.RowKit
set_option linter.unusedVariables false
set_option linter.unusedSimpArgs false
theorem drew_more {w wr : World} (h : ∃ q, wr = w.drewN q) (m : Nat) : ∃ k, wr.drewN m = w.drewN k := by
  obtain ⟨q, rfl⟩ := h
  exact ⟨_, World.drewN_drewN _ _ _⟩
theorem l00In_valp {x lo hi : Int} {b : Bool} (w : World) (h : inB x lo hi = b) : Calls Try.prog 81 #[.int .i64 x, .int .i64 lo, .int .i64 hi] w fun e w' => e = .returned (.bool b) ∧ w = w' := by
  subst h; exact l00In_any _ _ _ _
theorem tmod_facts {n : Nat} {mo : Int} (hn : n ≤ 1048576) (hmo : 1 ≤ mo) : 0 ≤ (n : Int).tmod mo ∧ (n : Int).tmod mo ≤ 1048576 := by
  have hr0 : 0 ≤ (n : Int).tmod mo := Int.tmod_nonneg _ (by omega)
  have := Int.mul_tdiv_add_tmod (n : Int) mo
  have h3 : 0 ≤ (n : Int).tdiv mo := Int.tdiv_nonneg (by omega) (by omega)
  have h4 : 0 ≤ mo * (n : Int).tdiv mo := Int.mul_nonneg (by omega) h3
  omega
set_option maxHeartbeats 8000000 in
theorem l18Ok_any (A : Option Addr) (n c B g : Nat) (zs : List Int) (mo te ix da we wd : Int) (w : World) (h : Ints w B A n zs) (hB : B ≤ w.heap.size) (hn : n ≤ 1048576)
    (q0 : w.cell? ⟨g, 0, none⟩ = some (.slice A n c)) (q1 : w.cell? ⟨g, 1, none⟩ = some (.int .i64 mo)) (q2 : w.cell? ⟨g, 2, none⟩ = some (.int .i64 te)) (q3 : w.cell? ⟨g, 3, none⟩ = some (.int .i64 ix)) (q4 : w.cell? ⟨g, 4, none⟩ = some (.int .i64 da)) (q5 : w.cell? ⟨g, 5, none⟩ = some (.int .i64 we)) (q6 : w.cell? ⟨g, 6, none⟩ = some (.int .i64 wd)) :
    Calls Try.prog 39 #[.pointer (some ⟨g, 0, none⟩)] w fun e w' => e = .returned (.bool (vPerp zs n mo te ix da we wd)) ∧ ∃ k, w' = w.drewN k := by
  have hl := h.len
  have H := Lib.hid h
  clear h
  obtain ⟨V, hV⟩ : ∃ V, vPerp zs n mo te ix da we wd = V := ⟨_, rfl⟩
  rw [hV]
  unfold vPerp at hV
  have cV := fun (W : World) (h : Ints W B A n zs) => l17Ok_any A n c B zs W h hn
  cases hc : vCam zs
  · simp only [hc, Bool.false_and] at hV cV
    have HV := Lib.hid hV
    have CV := Lib.hid cV
    clear hV cV
    go_enter Try.func39, Try.ntmps39
    go_wp2
    go_quiet ((go_at_call 94; exact quiet_left (CV.out _ (Ints.drewN H.out _))))
    go_wp2
    go_ret
    exact ⟨ret_bool HV.out, _, rfl⟩
  · obtain ⟨v1, v2, v3⟩ := vCam_yes hc
    rw [hl] at v2 v3
    simp only [hc, Bool.true_and] at hV cV
    have CV := Lib.hid cV
    clear cV
    by_cases hmo : mo < 1
    · rw [decide_eq_false (show ¬ 1 ≤ mo by omega)] at hV
      have HV := Lib.hid hV
      clear hV
      go_enter Try.func39, Try.ntmps39
      go_wp2
      go_quiet ((go_at_call 94; exact quiet_left (CV.out _ (Ints.drewN H.out _))))
      go_wp2
      go_ret
      exact ⟨ret_bool HV.out, _, rfl⟩
    · rw [decide_eq_true (show 1 ≤ mo by omega)] at hV
      have mo0 : (mo == 0) = false := by rw [beq_eq_false_iff_ne]; omega
      have mo2 : ¬ mo = 0 := by omega
      obtain ⟨hr0, hr2⟩ := tmod_facts (n := n) (mo := mo) hn (by omega)
      obtain ⟨r, hr⟩ : ∃ r, (n : Int).tmod mo = r := ⟨_, rfl⟩
      rw [hr] at hV hr0 hr2
      by_cases hrz : r = 0
      · subst hrz
        simp only [decide_true, Bool.true_and] at hV
        cases ht : inB te 1 60
        · rw [ht] at hV
          have HV := Lib.hid hV
          clear hV
          go_enter Try.func39, Try.ntmps39
          go_wp2
          go_quiet ((first | (go_at_call 94; exact quiet_left (CV.out _ (Ints.drewN H.out _))) | (go_at_call 81; exact quiet_left (l00In_any _ _ _ _))))
          go_wp2
          go_ret
          exact ⟨ret_bool HV.out, _, rfl⟩
        · rw [ht] at hV
          simp only [Bool.true_and] at hV
          have htb := inB_yes ht
          have hno := fun j (hj : j < n) h => @allLe_no zs te j (by rw [hl]; exact hj) h
          have hyes := @allLe_yes zs te
          rw [hl] at hyes
          have HNO := Lib.hid hno
          have HYES := Lib.hid hyes
          have HV0 := Lib.hid hV
          clear hno hyes hV v1 hl
          go_enter Try.func39, Try.ntmps39
          go_wp2
          go_quiet ((first | (go_at_call 94; exact quiet_left (CV.out _ (Ints.drewN H.out _))) | (go_at_call 81; exact quiet_left (l00In_any _ _ _ _))))
          go_wp2
          go_loopw [3] (fun t wr => ∃ k : Nat, t = .int .i64 k ∧ k ≤ n ∧ Hid (∀ j, j < k → zs.getD j 0 ≤ te) ∧ wr.cell? ⟨g, 0, none⟩ = some (.slice A n c) ∧ wr.cell? ⟨g, 1, none⟩ = some (.int .i64 mo) ∧ wr.cell? ⟨g, 2, none⟩ = some (.int .i64 te) ∧ wr.cell? ⟨g, 3, none⟩ = some (.int .i64 ix) ∧ wr.cell? ⟨g, 4, none⟩ = some (.int .i64 da) ∧ wr.cell? ⟨g, 5, none⟩ = some (.int .i64 we) ∧ wr.cell? ⟨g, 6, none⟩ = some (.int .i64 wd) ∧ Hid (Ints wr B A n zs) ∧ Hid (∃ q, wr = w.drewN q)) (fun t _ => n - (intOf t).toNat)
          case atStart => exact ⟨0, rfl, Nat.zero_le _, Lib.hid (fun j hj => absurd hj (by omega)), q0, q1, q2, q3, q4, q5, q6, Lib.hid (Ints.drewN H.out _), Lib.hid ⟨_, rfl⟩⟩
          case round =>
            obtain ⟨k, rfl, hk, hj, p0, p1, p2, p3, p4, p5, p6, hi, hw⟩ := hrel
            clear q0 q1 q2 q3 q4 q5 q6
            by_cases hlt : k < n
            · obtain ⟨b, off, rfl, hbl, hcx⟩ := hi.out.at_ hlt
              obtain ⟨x, hx⟩ : ∃ x, zs.getD k 0 = x := ⟨_, rfl⟩
              rw [hx] at hcx
              have HX := Lib.hid hx
              have i0 : (0 : Int) ≤ (k : Int) := Int.natCast_nonneg _
              have i1 : (k : Int) < (n : Int) := by omega
              clear hx
              by_cases hgt : te < x
              · have hV := HV0.out
                rw [HNO.out k hlt (by rw [HX.out]; exact hgt)] at hV
                have HV := Lib.hid hV
                clear hV
                go_wp2
                go_quiet (fail)
                go_wp2
                go_ret
                exact ⟨ret_bool HV.out, by first | exact drew_more hw.out _ | exact hw.out⟩
              · go_wp2
                go_quiet (fail)
                go_wp2
                go_roundw
                case rel =>
                  refine ⟨k + 1, by go_num, by omega, Lib.hid (fun j hj2 => ?_), p0, p1, p2, p3, p4, p5, p6, Lib.hid (Ints.drewN hi.out _), Lib.hid (drew_more hw.out _)⟩
                  by_cases e : j = k
                  · subst e; rw [HX.out]; omega
                  · exact hj.out j (by omega)
                case measure => simp [intOf]; omega
            · have hV := HV0.out
              rw [HYES.out (fun j hj2 => hj.out j (by omega))] at hV
              simp only [Bool.true_and] at hV
              have n1 : IntKind.i64.wrap ((n : Int) - 1) = (n : Int) - 1 := IntWalk.i64_in _ (by omega)
              cases i1 : inB ix 0 ((n : Int) - 1)
              · rw [i1] at hV
                have HV := Lib.hid hV
                clear hV
                go_wp2
                go_quiet ((go_at_call 81; exact quiet_left (l00In_valp _ (by first | with_reducible exact i1 | with_reducible exact i2 | with_reducible exact i3 | exact rfl))))
                go_wp2
                go_ret
                exact ⟨ret_bool HV.out, by first | exact drew_more hw.out _ | exact hw.out⟩
              · cases i2 : inB da 1 te
                · rw [i1, i2] at hV
                  have HV := Lib.hid hV
                  clear hV
                  go_wp2
                  go_quiet ((go_at_call 81; exact quiet_left (l00In_valp _ (by first | with_reducible exact i1 | with_reducible exact i2 | with_reducible exact i3 | exact rfl))))
                  go_wp2
                  go_ret
                  exact ⟨ret_bool HV.out, by first | exact drew_more hw.out _ | exact hw.out⟩
                · cases i3 : inB we 1 12
                  · rw [i1, i2, i3] at hV
                    have HV := Lib.hid hV
                    clear hV
                    go_wp2
                    go_quiet ((go_at_call 81; exact quiet_left (l00In_valp _ (by first | with_reducible exact i1 | with_reducible exact i2 | with_reducible exact i3 | exact rfl))))
                    go_wp2
                    go_ret
                    exact ⟨ret_bool HV.out, by first | exact drew_more hw.out _ | exact hw.out⟩
                  · rw [i1, i2, i3] at hV
                    have HV := Lib.hid hV
                    clear hV
                    go_wp2
                    go_quiet ((go_at_call 81; exact quiet_left (l00In_valp _ (by first | with_reducible exact i1 | with_reducible exact i2 | with_reducible exact i3 | exact rfl))))
                    go_wp2
                    go_ret
                    exact ⟨ret_bool HV.out, by first | exact drew_more hw.out _ | exact hw.out⟩
      · rw [decide_eq_false hrz] at hV
        have HV := Lib.hid hV
        have rz : (r != 0) = true := by simpa using hrz
        clear hV
        go_enter Try.func39, Try.ntmps39
        go_wp2
        go_quiet ((go_at_call 94; exact quiet_left (CV.out _ (Ints.drewN H.out _))))
        go_wp2
        go_ret
        exact ⟨ret_bool HV.out, _, rfl⟩
set_option maxHeartbeats 1000000 in
theorem specValidPerpetual_any (A : Option Addr) (n c B : Nat) (zs : List Int) (mo te ix da we wd : Int) (w : World) (h : Ints w B A n zs) (hB : B ≤ w.heap.size) (hn : n ≤ 1048576) :
    Calls Try.prog 25 #[.agg #[.slice A n c, .int .i64 mo, .int .i64 te, .int .i64 ix, .int .i64 da, .int .i64 we, .int .i64 wd]] w fun e w' => e = .returned (.bool (vPerp zs n mo te ix da we wd)) ∧ Below w.heap.size w w' := by
  have H := Lib.hid (h.more hB)
  clear h
  obtain ⟨V, hV⟩ : ∃ V, vPerp zs n mo te ix da we wd = V := ⟨_, rfl⟩
  have HV := Lib.hid hV
  rw [hV]
  clear hV
  go_enter Try.func25, Try.ntmps25
  go_wp2_with fail
  go_at_call 39
  refine (l18Ok_any A n c w.heap.size w.heap.size zs mo te ix da we wd _ (H.out.alloc (Nat.le_refl _) _) (by simp) hn (by simp [go_sem]) (by simp [go_sem]) (by simp [go_sem]) (by simp [go_sem]) (by simp [go_sem]) (by simp [go_sem]) (by simp [go_sem])).mono ?_
  rintro e w1 ⟨rfl, m1, rfl⟩
  rw [HV.out]
  go_wp2
  go_ret
  exact ⟨rfl, by (repeat (first | with_reducible exact Below.refl _ _ | with_reducible refine below_alloc ?_ _ | with_reducible refine below_drewN ?_ _ | with_reducible refine Below.drew ?_ | ((with_reducible refine below_set ?_ ?_ _); rotate_left; (focus (first | (simp; done) | (simp; omega) | omega))) | with_reducible refine below_call ?_ (by assumption)))⟩
end Go.Proofs.Ythjldjbblaioaaa
