/- Contract of the years of a calendar's cycle, the reference's. No conditions. -/
import Derived.Test.YthjldjbblaioaaaCyc
namespace Go.Proofs.Ythjldjbblaioaaa
open Go.RowKit
set_option linter.unusedVariables false
set_option linter.unusedSimpArgs false
def ruleOk (r : Rul) : Bool := inB r.ev 1 1000 && inB r.rs 0 (r.ev - 1)
theorem ruleOk_yes {r : Rul} (h : ruleOk r = true) : 1 ≤ r.ev ∧ r.ev ≤ 1000 ∧ 0 ≤ r.rs ∧ r.rs ≤ r.ev - 1 := by
  unfold ruleOk at h
  rw [Bool.and_eq_true] at h
  have h1 := inB_yes h.1
  have h2 := inB_yes h.2
  exact ⟨h1.1, h1.2, h2.1, h2.2⟩
/-- the rules of a calendar are valid -/
def vRules (rs : List Rul) (n : Nat) : Bool := (List.range n).all (fun j => ruleOk (rs.getD j r0)) && decide (cycK rs n ≤ 2000) && decide (n ≤ 6)
theorem vRules_bad {rs : List Rul} {n k : Nat} (hk : k < n) (h : ruleOk (rs.getD k r0) = false) : vRules rs n = false := by
  have : (List.range n).all (fun j => ruleOk (rs.getD j r0)) = false := by
    rw [List.all_eq_false]
    exact ⟨k, List.mem_range.2 hk, by rw [h]; decide⟩
  unfold vRules; rw [this]; rfl
theorem cycK_stays {rs : List Rul} {k : Nat} (h : ¬ (cycK rs k ≤ 2000)) : ∀ d, ¬ (cycK rs (k + d) ≤ 2000)
  | 0 => h
  | d + 1 => by
    have ih := cycK_stays h d
    have e : k + (d + 1) = (k + d) + 1 := by omega
    rw [e, cycK_stop ih]; exact ih
theorem vRules_big {rs : List Rul} {n k : Nat} (hk : k ≤ n) (h : ¬ (cycK rs k ≤ 2000)) : vRules rs n = false := by
  have h2 := cycK_stays h (n - k)
  rw [show k + (n - k) = n by omega] at h2
  unfold vRules; simp [h2]
theorem vRules_good {rs : List Rul} {n : Nat} (h : ∀ j, j < n → ruleOk (rs.getD j r0) = true) (hc : cycK rs n ≤ 2000) : vRules rs n = decide (n ≤ 6) := by
  have : (List.range n).all (fun j => ruleOk (rs.getD j r0)) = true := by
    rw [List.all_eq_true]
    intro j hj
    exact h j (List.mem_range.1 hj)
  unfold vRules; rw [this]; simp [hc]
theorem vRules_yes {rs : List Rul} {n : Nat} (h : vRules rs n = true) : (∀ j, j < n → ruleOk (rs.getD j r0) = true) ∧ cycK rs n ≤ 2000 ∧ n ≤ 6 := by
  unfold vRules at h
  rw [Bool.and_eq_true, Bool.and_eq_true, decide_eq_true_eq, decide_eq_true_eq, List.all_eq_true] at h
  exact ⟨fun j hj => h.1.1 j (List.mem_range.2 hj), h.1.2, h.2⟩
theorem l00In_val (n lo hi : Int) (w : World) (v : Bool) (h : inB n lo hi = v) : Calls Try.prog 81 #[.int .i64 n, .int .i64 lo, .int .i64 hi] w fun e w' => e = .returned (.bool v) ∧ w = w' := by
  rw [← h]; exact l00In_any n lo hi w
/-- what the reference says of rules -/
def Yrs (w : World) (rs : List Rul) (n : Nat) (e : Ending) (w' : World) : Prop := ∃ x : Int, e = .returned (.tuple #[.int .i64 x, .bool (vRules rs n)]) ∧ (vRules rs n = true → x = cycK rs n) ∧ Below w.heap.size w w'
theorem yrs_no {w w' : World} {rs : List Rul} {n : Nat} (h : vRules rs n = false) (hb : Below w.heap.size w w') : Yrs w rs n (.returned (.tuple #[.int .i64 0, .bool false])) w' := ⟨0, by rw [h], (fun e => absurd (h.symm.trans e) (by decide)), hb⟩
set_option maxHeartbeats 2000000 in
theorem l15Years_any (A' : Option Addr) (n' c' B : Nat) (rs : List Rul) (w : World) (h' : Rules w B A' n' rs) (hB : B ≤ w.heap.size) (hn' : n' ≤ 9223372036854775807) (hw : ∀ j, j < n' → -9223372036854775808 ≤ (rs.getD j r0).ev) :
    Calls Try.prog 102 #[.slice A' n' c'] w fun e w' => Yrs w rs n' e w' := by
  have H := Lib.hid (Tri.more h' hB)
  have HW := Lib.hid hw
  clear h' hw
  go_enter Try.func102, Try.ntmps102
  go_wp2
  go_loopw [4, 5] (fun l t wr => ∃ k : Nat, t = .int .i64 k ∧ k ≤ n' ∧ l = .int .i64 (cycK rs k) ∧ cycK rs k ≤ 2000 ∧ Hid (∀ j, j < k → ruleOk (rs.getD j r0) = true) ∧ Below w.heap.size w wr) (fun _ t _ => n' - (intOf t).toNat)
  case atStart => exact ⟨0, rfl, Nat.zero_le _, rfl, by simp [cycK], Lib.hid (fun j hj => absurd hj (by omega)), Below.refl _ _⟩
  case round =>
    obtain ⟨k, rfl, hk, rfl, hle, hok, hb⟩ := hrel
    have i0 : (0 : Int) ≤ (k : Int) := Int.natCast_nonneg _
    have hbd := cycK_bd rs k (fun j hj => by have := ruleOk_yes (hok.out j hj); omega)
    by_cases hlt : k < n'
    · have i1 : (k : Int) < (n' : Int) := by omega
      obtain ⟨b, off, rfl, hbl, c1, c2, c3⟩ := Rules.at_ (Tri.below H.out hb) hlt
      have hq1 := @cycK_go rs k
      have hwd := HW.out k hlt
      have HVB := Lib.hid (fun h => vRules_bad (rs := rs) hlt h)
      have HVG := Lib.hid (fun h => vRules_big (rs := rs) (n := n') (k := k + 1) hlt h)
      obtain ⟨r, hr⟩ : ∃ r, rs.getD k r0 = r := ⟨_, rfl⟩
      obtain ⟨x, hx⟩ : ∃ x, cycK rs k = x := ⟨_, rfl⟩
      rw [hr] at c1 c2 c3 hq1 HVB hwd
      rw [hx] at hbd hq1 hle
      rw [hx]
      have HR := Lib.hid hr
      clear hr hx
      cases h1 : inB r.ev 1 1000
      · have HV := Lib.hid (HVB.out (by unfold ruleOk; rw [h1]; rfl))
        have H1 := Lib.hid h1
        clear h1 hq1
        go_wp2
        go_quiet ((go_at_call 81; exact quiet_left (l00In_val _ _ _ _ _ H1.out)))
        go_wp2
        go_ret2
        exact yrs_no HV.out (by (repeat (first | with_reducible exact Below.refl _ _ | with_reducible refine below_alloc ?_ _ | with_reducible refine below_drewN ?_ _ | with_reducible refine Below.drew ?_ | ((with_reducible refine below_set ?_ ?_ _); rotate_left; (focus (first | (simp; done) | (simp; omega) | omega))) | with_reducible refine below_call ?_ (by assumption))))
      · have k1 := inB_yes h1
        have r0w : IntKind.i64.wrap (r.ev - 1) = r.ev - 1 := IntWalk.i64_in _ (by omega)
        cases h2 : inB r.rs 0 (r.ev - 1)
        · have HV := Lib.hid (HVB.out (by unfold ruleOk; rw [h1, h2]; rfl))
          have H1 := Lib.hid h1
          have H2 := Lib.hid h2
          clear h1 h2 hq1
          go_wp2
          go_quiet ((go_at_call 81; exact quiet_left (l00In_val _ _ _ _ _ (by first | exact H1.out | exact H2.out))))
          go_wp2
          go_ret2
          exact yrs_no HV.out (by (repeat (first | with_reducible exact Below.refl _ _ | with_reducible refine below_alloc ?_ _ | with_reducible refine below_drewN ?_ _ | with_reducible refine Below.drew ?_ | ((with_reducible refine below_set ?_ ?_ _); rotate_left; (focus (first | (simp; done) | (simp; omega) | omega))) | with_reducible refine below_call ?_ (by assumption))))
        · have HO := Lib.hid (show ruleOk r = true by unfold ruleOk; rw [h1, h2]; rfl)
          have H1 := Lib.hid h1
          have H2 := Lib.hid h2
          obtain ⟨s1, s2, s3, s4, s5, s6⟩ := step_bd hbd.1 hle k1.1 k1.2
          have HK := Lib.hid (hq1 hle)
          obtain ⟨d, hd⟩ : ∃ d, (Int.gcd x r.ev : Int) = d := ⟨_, rfl⟩
          have HG := Lib.hid hd
          rw [hd] at s1 s2 s3 s4 s5 s6 HK
          have t1 : x.tdiv d = x / d := Int.tdiv_eq_ediv_of_nonneg (by omega)
          have e0 : ¬ (d = 0) := by omega
          have e1 : ¬ (d = -1) := by omega
          obtain ⟨q, hq⟩ : ∃ q, x / d = q := ⟨_, rfl⟩
          rw [hq] at s3 s4 s5 s6 t1 HK
          obtain ⟨y, hy⟩ : ∃ y, q * r.ev = y := ⟨_, rfl⟩
          rw [hy] at s5 s6 HK
          have r1 : IntKind.i64.wrap q = q := IntWalk.i64_in _ (by omega)
          have r2 : IntKind.i64.wrap y = y := IntWalk.i64_in _ (by omega)
          clear hq1 hd hq h1 h2
          by_cases hbig : 2000 < y
          · have HV := Lib.hid (HVG.out (by rw [HK.out]; omega))
            go_wp2
            go_quiet ((go_at_call 81; exact quiet_left (l00In_val _ _ _ _ _ (by first | exact H1.out | exact H2.out))))
            go_wp2
            obtain ⟨wq, hwq⟩ : ∃ wq, wr.drewN nq = wq := ⟨_, rfl⟩
            have d1 : wq.cell? ⟨b, off + k * 3, none⟩ = some (.int .i64 r.ev) := by rw [← hwq]; simpa using c1
            have hbq : Below w.heap.size w wq := by rw [← hwq]; exact below_drewN hb _
            rw [hwq]
            clear hwq
            go_quiet ((go_at_call 110; refine (quiet_left (l02Gcd_any x r.ev _ (by omega) (by omega) (by omega) (by omega))).mono ?_; rintro e w' ⟨rfl, hmm⟩; exact ⟨by rw [HG.out], hmm⟩))
            go_wp2
            go_ret2
            exact yrs_no HV.out (by (repeat (first | with_reducible exact Below.refl _ _ | with_reducible refine below_alloc ?_ _ | with_reducible refine below_drewN ?_ _ | with_reducible refine Below.drew ?_ | ((with_reducible refine below_set ?_ ?_ _); rotate_left; (focus (first | (simp; done) | (simp; omega) | omega))) | with_reducible refine below_call ?_ (by assumption))))
          · go_wp2
            go_quiet ((go_at_call 81; exact quiet_left (l00In_val _ _ _ _ _ (by first | exact H1.out | exact H2.out))))
            go_wp2
            obtain ⟨wq, hwq⟩ : ∃ wq, wr.drewN nq = wq := ⟨_, rfl⟩
            have d1 : wq.cell? ⟨b, off + k * 3, none⟩ = some (.int .i64 r.ev) := by rw [← hwq]; simpa using c1
            have hbq : Below w.heap.size w wq := by rw [← hwq]; exact below_drewN hb _
            rw [hwq]
            clear hwq
            go_quiet ((go_at_call 110; refine (quiet_left (l02Gcd_any x r.ev _ (by omega) (by omega) (by omega) (by omega))).mono ?_; rintro e w' ⟨rfl, hmm⟩; exact ⟨by rw [HG.out], hmm⟩))
            go_wp2
            go_roundw
            case rel =>
              refine ⟨k + 1, by go_num, by omega, by rw [HK.out], by rw [HK.out]; omega, Lib.hid (fun j hj => ?_), by (repeat (first | with_reducible exact Below.refl _ _ | with_reducible refine below_alloc ?_ _ | with_reducible refine below_drewN ?_ _ | with_reducible refine Below.drew ?_ | ((with_reducible refine below_set ?_ ?_ _); rotate_left; (focus (first | (simp; done) | (simp; omega) | omega))) | with_reducible refine below_call ?_ (by assumption)))⟩
              by_cases e : j = k
              · subst e; rw [HR.out]; exact HO.out
              · exact hok.out j (by omega)
            case measure => simp [intOf]; omega
    · have hkn : k = n' := by omega
      have HV := Lib.hid (show vRules rs n' = decide (n' ≤ 6) by rw [← hkn]; exact vRules_good hok.out hle)
      have HE2 := Lib.hid hkn
      clear hkn
      by_cases h6 : n' ≤ 6
      · have i6 : (n' : Int) ≤ 6 := by omega
        go_wp2
        go_ret2
        exact ⟨_, by rw [HV.out, decide_eq_true h6]; rfl, fun _ => by rw [HE2.out], hb⟩
      · have i6 : ¬ ((n' : Int) ≤ 6) := by omega
        go_wp2
        go_ret2
        exact ⟨_, by rw [HV.out, decide_eq_false h6]; rfl, fun _ => by rw [HE2.out], hb⟩
end Go.Proofs.Ythjldjbblaioaaa
