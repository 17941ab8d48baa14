/- Contracts of the program's and the reference's functions, several texts in one; what each says, and its conditions, stands at its head. -/
import Derived.Test.YtmbdedkelckedaaGreatDoorCore1
import Derived.BigQuiet
/- Contracts of what is a leap year, the program's and the reference's. No conditions but that each rule's cycle is from 1 to 1000 years. -/
namespace Go.Proofs.YtmbdedkelckedaaGreatDoor
open Go.RowKit
set_option linter.unusedVariables false
set_option linter.unusedSimpArgs false
/-- the last of the first k rules that meets a year says it -/
def leapK (rs : List Rul) (y : Int) : Nat → Bool
  | 0 => false
  | k + 1 => if y % (rs.getD k r0).ev = (rs.getD k r0).rs then (rs.getD k r0).lp else leapK rs y k
theorem leapK_hit {rs : List Rul} {y : Int} {k : Nat} (h : y % (rs.getD k r0).ev = (rs.getD k r0).rs) : leapK rs y (k + 1) = (rs.getD k r0).lp := by rw [leapK, if_pos h]
theorem leapK_miss {rs : List Rul} {y : Int} {k : Nat} (h : ¬ (y % (rs.getD k r0).ev = (rs.getD k r0).rs)) : leapK rs y (k + 1) = leapK rs y k := by rw [leapK, if_neg h]
theorem mod_small {y e : Int} (h0 : 0 ≤ y) (h1 : y ≤ 1000000000000) (he : 1 ≤ e) : y.tmod e = y % e ∧ 0 ≤ y % e ∧ y % e ≤ 1000000000000 := by
  have h2 := Int.emod_nonneg y (show e ≠ 0 by omega)
  have h4 : y % e ≤ y := by
    have h5 := Int.emod_add_mul_ediv y e
    have h6 : 0 ≤ e * (y / e) := Int.mul_nonneg (by omega) (Int.ediv_nonneg h0 (by omega))
    omega
  exact ⟨Int.tmod_eq_emod_of_nonneg h0, h2, by omega⟩
set_option maxHeartbeats 1000000 in
theorem isLeap_any (nm : ByteArray) (A A' : Option Addr) (n n' c c' B : Nat) (rs : List Rul) (we y : Int) (w : World) (h' : Rules w B A' n' rs) (hB : B ≤ w.heap.size) (hn' : n' ≤ 9223372036854775807) (hev : ∀ j, j < n' → 1 ≤ (rs.getD j r0).ev) (hy0 : 0 ≤ y) (hy1 : y ≤ 1000000000000) :
    Calls Tryz.prog 33 #[.agg #[.string nm, .slice A n c, .slice A' n' c', .int .i64 we], .int .i64 y] w fun e w' => e = .returned (.bool (leapK rs y n')) ∧ Below w.heap.size w w' := by
  have H := Lib.hid (Tri.more h' hB)
  have HE := Lib.hid hev
  clear h' hev
  go_enter Tryz.func33, Tryz.ntmps33
  go_wp2
  go_loopw [5, 7, 11] (fun l _ t wr => ∃ k : Nat, t = .int .i64 k ∧ k ≤ n' ∧ l = .bool (leapK rs y k) ∧ Below w.heap.size w wr) (fun _ _ t _ => n' - (intOf t).toNat)
  case atStart => exact ⟨0, rfl, Nat.zero_le _, rfl, by (repeat (first | with_reducible exact Below.refl _ _ | with_reducible refine below_alloc ?_ _ | with_reducible refine below_drewN ?_ _ | with_reducible refine Below.drew ?_ | ((with_reducible refine below_set ?_ ?_ _); rotate_left; (focus (first | (simp; done) | (simp; omega) | omega))) | with_reducible refine below_call ?_ (by assumption)))⟩
  case round =>
    obtain ⟨k, rfl, hk, rfl, hb⟩ := hrel
    have i0 : (0 : Int) ≤ (k : Int) := Int.natCast_nonneg _
    by_cases hlt : k < n'
    · have i1 : (k : Int) < (n' : Int) := by omega
      obtain ⟨b, off, rfl, hbl, c1, c2, c3⟩ := Rules.at_ (Tri.below H.out hb) hlt
      have he := HE.out k hlt
      have hq1 := @leapK_hit rs y k
      have hq2 := @leapK_miss rs y k
      obtain ⟨r, hr⟩ : ∃ r, rs.getD k r0 = r := ⟨_, rfl⟩
      rw [hr] at c1 c2 c3 he hq1 hq2
      obtain ⟨x2, x0, x1⟩ := mod_small hy0 hy1 he
      have e0 : ¬ (r.ev = 0) := by omega
      have r1 : IntKind.i64.wrap (y % r.ev) = y % r.ev := IntWalk.i64_in _ (by omega)
      clear hr
      by_cases hm : y % r.ev = r.rs
      · have HK := Lib.hid (hq1 hm)
        have m1 : (y % r.ev == r.rs) = true := by simpa using hm
        clear hq1 hq2
        go_wp2
        go_quiet (fail)
        go_wp2
        go_roundw
        case rel => exact ⟨k + 1, by go_num, by omega, by rw [HK.out], by (repeat (first | with_reducible exact Below.refl _ _ | with_reducible refine below_alloc ?_ _ | with_reducible refine below_drewN ?_ _ | with_reducible refine Below.drew ?_ | ((with_reducible refine below_set ?_ ?_ _); rotate_left; (focus (first | (simp; done) | (simp; omega) | omega))) | with_reducible refine below_call ?_ (by assumption)))⟩
        case measure => simp [intOf]; omega
      · have HK := Lib.hid (hq2 hm)
        have m1 : (y % r.ev == r.rs) = false := by simpa using hm
        clear hq1 hq2
        go_wp2
        go_quiet (fail)
        go_wp2
        go_roundw
        case rel => exact ⟨k + 1, by go_num, by omega, by rw [HK.out], by (repeat (first | with_reducible exact Below.refl _ _ | with_reducible refine below_alloc ?_ _ | with_reducible refine below_drewN ?_ _ | with_reducible refine Below.drew ?_ | ((with_reducible refine below_set ?_ ?_ _); rotate_left; (focus (first | (simp; done) | (simp; omega) | omega))) | with_reducible refine below_call ?_ (by assumption)))⟩
        case measure => simp [intOf]; omega
    · have HE2 := Lib.hid (show k = n' by omega)
      go_wp2
      go_ret
      exact ⟨by rw [HE2.out]; rfl, hb⟩
set_option maxHeartbeats 2000000 in
theorem l15Leap_any (g : Nat) (A' : Option Addr) (n' c' B : Nat) (rs : List Rul) (y : Int) (w : World) (hg : g < w.heap.size) (hc : w.cell? ⟨g, 2, none⟩ = some (.slice A' n' c')) (h' : Rules w B A' n' rs) (hB : B ≤ w.heap.size) (hn' : n' ≤ 9223372036854775807) (hev : ∀ j, j < n' → 1 ≤ (rs.getD j r0).ev) (hy0 : 0 ≤ y) (hy1 : y ≤ 1000000000000) :
    Calls Tryz.prog 113 #[.pointer (some ⟨g, 0, none⟩), .int .i64 y] w fun e w' => e = .returned (.bool (leapK rs y n')) ∧ Below w.heap.size w w' := by
  have H := Lib.hid (Tri.more h' hB)
  have HE := Lib.hid hev
  have HC := Lib.hid hc
  clear h' hev hc
  go_enter Tryz.func113, Tryz.ntmps113
  go_wp2
  go_loopw [5, 6] (fun l t wr => ∃ k : Nat, t = .int .i64 k ∧ k ≤ n' ∧ l = .bool (leapK rs y k) ∧ Below w.heap.size w wr) (fun _ t _ => n' - (intOf t).toNat)
  case atStart => exact ⟨0, rfl, Nat.zero_le _, rfl, Below.refl _ _⟩
  case round =>
    obtain ⟨k, rfl, hk, rfl, hb⟩ := hrel
    have i0 : (0 : Int) ≤ (k : Int) := Int.natCast_nonneg _
    have hc := cell_call hb (p := ⟨g, 2, none⟩) (by simpa using hg) HC.out
    by_cases hlt : k < n'
    · have i1 : (k : Int) < (n' : Int) := by omega
      obtain ⟨b, off, rfl, hbl, c1, c2, c3⟩ := Rules.at_ (Tri.below H.out hb) hlt
      have he := HE.out k hlt
      have hq1 := @leapK_hit rs y k
      have hq2 := @leapK_miss rs y k
      obtain ⟨r, hr⟩ : ∃ r, rs.getD k r0 = r := ⟨_, rfl⟩
      rw [hr] at c1 c2 c3 he hq1 hq2
      obtain ⟨x2, x0, x1⟩ := mod_small hy0 hy1 he
      have e0 : ¬ (r.ev = 0) := by omega
      have r1 : IntKind.i64.wrap (y % r.ev) = y % r.ev := IntWalk.i64_in _ (by omega)
      clear hr
      by_cases hm : y % r.ev = r.rs
      · have HK := Lib.hid (hq1 hm)
        have m1 : (y % r.ev == r.rs) = true := by simpa using hm
        clear hq1 hq2
        go_wp2
        go_quiet (fail)
        go_wp2
        go_roundw
        case rel => exact ⟨k + 1, by go_num, by omega, by rw [HK.out], by (repeat (first | with_reducible exact Below.refl _ _ | with_reducible refine below_alloc ?_ _ | with_reducible refine below_drewN ?_ _ | with_reducible refine Below.drew ?_ | ((with_reducible refine below_set ?_ ?_ _); rotate_left; (focus (first | (simp; done) | (simp; omega) | omega))) | with_reducible refine below_call ?_ (by assumption)))⟩
        case measure => simp [intOf]; omega
      · have HK := Lib.hid (hq2 hm)
        have m1 : (y % r.ev == r.rs) = false := by simpa using hm
        clear hq1 hq2
        go_wp2
        go_quiet (fail)
        go_wp2
        go_roundw
        case rel => exact ⟨k + 1, by go_num, by omega, by rw [HK.out], by (repeat (first | with_reducible exact Below.refl _ _ | with_reducible refine below_alloc ?_ _ | with_reducible refine below_drewN ?_ _ | with_reducible refine Below.drew ?_ | ((with_reducible refine below_set ?_ ?_ _); rotate_left; (focus (first | (simp; done) | (simp; omega) | omega))) | with_reducible refine below_call ?_ (by assumption)))⟩
        case measure => simp [intOf]; omega
    · have HE2 := Lib.hid (show k = n' by omega)
      go_wp2
      go_ret
      exact ⟨by rw [HE2.out]; rfl, hb⟩
end Go.Proofs.YtmbdedkelckedaaGreatDoor

/- Contracts of the years of a calendar's cycle, the program's. No conditions but that each rule's cycle is from 1 to 1000 years. -/
namespace Go.Proofs.YtmbdedkelckedaaGreatDoor
open Go.RowKit
set_option linter.unusedVariables false
set_option linter.unusedSimpArgs false
/-- the years of the cycle of the first k rules; it grows no more above 2000 -/
def cycK (rs : List Rul) : Nat → Int
  | 0 => 1
  | k + 1 => if cycK rs k ≤ 2000 then cycK rs k / (Int.gcd (cycK rs k) (rs.getD k r0).ev : Int) * (rs.getD k r0).ev else cycK rs k
theorem cycK_go {rs : List Rul} {k : Nat} (h : cycK rs k ≤ 2000) : cycK rs (k + 1) = cycK rs k / (Int.gcd (cycK rs k) (rs.getD k r0).ev : Int) * (rs.getD k r0).ev := by rw [cycK, if_pos h]
theorem cycK_stop {rs : List Rul} {k : Nat} (h : ¬ (cycK rs k ≤ 2000)) : cycK rs (k + 1) = cycK rs k := by rw [cycK, if_neg h]
theorem step_bd {x e : Int} (h1 : 1 ≤ x) (h2 : x ≤ 2000) (he1 : 1 ≤ e) (he2 : e ≤ 1000) : 1 ≤ (Int.gcd x e : Int) ∧ (Int.gcd x e : Int) ≤ 2000 ∧ 1 ≤ x / (Int.gcd x e : Int) ∧ x / (Int.gcd x e : Int) ≤ 2000 ∧ 1 ≤ x / (Int.gcd x e : Int) * e ∧ x / (Int.gcd x e : Int) * e ≤ 2000000 := by
  have hd : (Int.gcd x e : Int) ∣ x := Int.gcd_dvd_left ..
  have hp : 1 ≤ (Int.gcd x e : Int) := by
    have : 0 < Int.gcd x e := Int.gcd_pos_of_ne_zero_left _ (by omega)
    omega
  obtain ⟨q, hq⟩ := hd
  generalize (Int.gcd x e : Int) = d at *
  have hdz : d ≠ 0 := by omega
  have hxd : x / d = q := by rw [hq]; exact Int.mul_ediv_cancel_left q hdz
  have hq1 : 1 ≤ q := by
    rcases Int.lt_or_le q 1 with h | h
    · have : d * q ≤ d * 0 := Int.mul_le_mul_of_nonneg_left (by omega) (by omega)
      rw [Int.mul_zero] at this; omega
    · exact h
  have hq2 : q ≤ x := by
    have : 1 * q ≤ d * q := Int.mul_le_mul_of_nonneg_right hp (by omega)
    omega
  have hd2 : d ≤ x := by
    have : d * 1 ≤ d * q := Int.mul_le_mul_of_nonneg_left hq1 (by omega)
    omega
  rw [hxd]
  have h5 : 1 * 1 ≤ q * e := Int.mul_le_mul hq1 he1 (by omega) (by omega)
  have h6 : q * e ≤ 2000 * 1000 := Int.mul_le_mul (by omega) he2 (by omega) (by omega)
  exact ⟨hp, by omega, hq1, by omega, by omega, by omega⟩
theorem cycK_bd (rs : List Rul) : ∀ k, (∀ j, j < k → 1 ≤ (rs.getD j r0).ev ∧ (rs.getD j r0).ev ≤ 1000) → 1 ≤ cycK rs k ∧ cycK rs k ≤ 2000000
  | 0, _ => by simp [cycK]
  | k + 1, h => by
    have ih := cycK_bd rs k (fun j hj => h j (by omega))
    by_cases hc : cycK rs k ≤ 2000
    · rw [cycK_go hc]
      have hk := h k (by omega)
      have := step_bd ih.1 hc hk.1 hk.2
      exact ⟨this.2.2.2.2.1, this.2.2.2.2.2⟩
    · rw [cycK_stop hc]; exact ih
theorem quiet_left {P : Program} {f : FuncId} {args : Array Value} {w : World} {n : Nat} {v : Value}
    (h : Calls P f args (w.drewN n) fun e w' => e = .returned v ∧ w.drewN n = w') : Calls P f args (w.drewN n) fun e w'' => e = .returned v ∧ ∃ m, w'' = w.drewN m :=
  h.mono fun _ _ ⟨he, hm⟩ => ⟨he, n, hm.symm⟩
theorem drewN_two (w : World) (n k : Nat) : ∃ m, (w.drewN n).drewN k = w.drewN m := ⟨_, by first | exact World.drewN_drewN w n k | exact (World.drewN_add w n k).symm | simp⟩
theorem quiet_on {P : Program} {f : FuncId} {args : Array Value} {w : World} {n : Nat} {v : Value}
    (h : Calls P f args (w.drewN n) fun e w' => e = .returned v ∧ ∃ k, w' = (w.drewN n).drewN k) : Calls P f args (w.drewN n) fun e w'' => e = .returned v ∧ ∃ m, w'' = w.drewN m :=
  h.mono fun _ _ ⟨he, k, hm⟩ => ⟨he, by rw [hm]; exact drewN_two w n k⟩
set_option maxHeartbeats 1000000 in
theorem cycleYears_any (A' : Option Addr) (n' c' B : Nat) (rs : List Rul) (w : World) (h' : Rules w B A' n' rs) (hB : B ≤ w.heap.size) (hn' : n' ≤ 9223372036854775807) (hev : ∀ j, j < n' → 1 ≤ (rs.getD j r0).ev ∧ (rs.getD j r0).ev ≤ 1000) :
    Calls Tryz.prog 37 #[.slice A' n' c'] w fun e w' => e = .returned (.int .i64 (cycK rs n')) ∧ Below w.heap.size w w' := by
  have H := Lib.hid (Tri.more h' hB)
  have HE := Lib.hid hev
  clear h' hev
  go_enter Tryz.func37, Tryz.ntmps37
  go_wp2
  go_loopw [3, 5, 8] (fun l _ t wr => ∃ k : Nat, t = .int .i64 k ∧ k ≤ n' ∧ l = .int .i64 (cycK rs k) ∧ Below w.heap.size w wr) (fun _ _ t _ => n' - (intOf t).toNat)
  case atStart => exact ⟨0, rfl, Nat.zero_le _, rfl, Below.refl _ _⟩
  case round =>
    obtain ⟨k, rfl, hk, rfl, hb⟩ := hrel
    have i0 : (0 : Int) ≤ (k : Int) := Int.natCast_nonneg _
    by_cases hlt : k < n'
    · have i1 : (k : Int) < (n' : Int) := by omega
      obtain ⟨b, off, rfl, hbl, c1, c2, c3⟩ := Rules.at_ (Tri.below H.out hb) hlt
      have he := HE.out k hlt
      have hbd := cycK_bd rs k (fun j hj => HE.out j (by omega))
      have hq1 := @cycK_go rs k
      have hq2 := @cycK_stop rs k
      obtain ⟨r, hr⟩ : ∃ r, rs.getD k r0 = r := ⟨_, rfl⟩
      obtain ⟨x, hx⟩ : ∃ x, cycK rs k = x := ⟨_, rfl⟩
      rw [hr] at c1 c2 c3 he hq1
      rw [hx] at hbd hq1 hq2
      rw [hx]
      clear hr hx
      by_cases hm : x ≤ 2000
      · obtain ⟨s1, s2, s3, s4, s5, s6⟩ := step_bd hbd.1 hm he.1 he.2
        have HK := Lib.hid (hq1 hm)
        obtain ⟨d, hd⟩ : ∃ d, (Int.gcd x r.ev : Int) = d := ⟨_, rfl⟩
        have HG := Lib.hid hd
        rw [hd] at s1 s2 s3 s4 s5 s6 HK
        have t1 : x.tdiv d = x / d := Int.tdiv_eq_ediv_of_nonneg (by omega)
        have e0 : ¬ (d = 0) := by omega
        have e1 : ¬ (d = -1) := by omega
        obtain ⟨q, hq⟩ : ∃ q, x / d = q := ⟨_, rfl⟩
        rw [hq] at s3 s4 s5 s6 t1 HK
        have r1 : IntKind.i64.wrap q = q := IntWalk.i64_in _ (by omega)
        have r2 : IntKind.i64.wrap (q * r.ev) = q * r.ev := IntWalk.i64_in _ (by omega)
        clear hq1 hq2 hd hq
        go_wp2
        go_quiet ((go_at_call 38; refine (quiet_on (gcd_any x r.ev _ (by omega) (by omega))).mono ?_; rintro e w' ⟨rfl, hmm⟩; exact ⟨by rw [HG.out], hmm⟩))
        go_wp2
        go_roundw
        case rel => exact ⟨k + 1, by go_num, by omega, by rw [HK.out], by (repeat (first | with_reducible exact Below.refl _ _ | with_reducible refine below_alloc ?_ _ | with_reducible refine below_drewN ?_ _ | with_reducible refine Below.drew ?_ | ((with_reducible refine below_set ?_ ?_ _); rotate_left; (focus (first | (simp; done) | (simp; omega) | omega))) | with_reducible refine below_call ?_ (by assumption)))⟩
        case measure => simp [intOf]; omega
      · have HK := Lib.hid (hq2 hm)
        clear hq1 hq2
        go_wp2
        go_roundw
        case rel => exact ⟨k + 1, by go_num, by omega, by rw [HK.out], by (repeat (first | with_reducible exact Below.refl _ _ | with_reducible refine below_alloc ?_ _ | with_reducible refine below_drewN ?_ _ | with_reducible refine Below.drew ?_ | ((with_reducible refine below_set ?_ ?_ _); rotate_left; (focus (first | (simp; done) | (simp; omega) | omega))) | with_reducible refine below_call ?_ (by assumption)))⟩
        case measure => simp [intOf]; omega
    · have HE2 := Lib.hid (show k = n' by omega)
      go_wp2
      go_ret
      exact ⟨by rw [HE2.out]; rfl, hb⟩
end Go.Proofs.YtmbdedkelckedaaGreatDoor

/- Contract of the years of a calendar's cycle, the reference's. No conditions. -/
namespace Go.Proofs.YtmbdedkelckedaaGreatDoor
open Go.RowKit
set_option linter.unusedVariables false
set_option linter.unusedSimpArgs false
def ruleOk (r : Rul) : Bool := inB r.ev 1 1000 && inB r.rs 0 (r.ev - 1)
theorem ruleOk_yes {r : Rul} (h : ruleOk r = true) : 1 ≤ r.ev ∧ r.ev ≤ 1000 ∧ 0 ≤ r.rs ∧ r.rs ≤ r.ev - 1 := by
  unfold ruleOk at h
  rw [Bool.and_eq_true] at h
  have h1 := inB_yes h.1
  have h2 := inB_yes h.2
  exact ⟨h1.1, h1.2, h2.1, h2.2⟩
/-- the rules of a calendar are valid -/
def vRules (rs : List Rul) (n : Nat) : Bool := (List.range n).all (fun j => ruleOk (rs.getD j r0)) && decide (cycK rs n ≤ 2000) && decide (n ≤ 6)
theorem vRules_bad {rs : List Rul} {n k : Nat} (hk : k < n) (h : ruleOk (rs.getD k r0) = false) : vRules rs n = false := by
  have : (List.range n).all (fun j => ruleOk (rs.getD j r0)) = false := by
    rw [List.all_eq_false]
    exact ⟨k, List.mem_range.2 hk, by rw [h]; decide⟩
  unfold vRules; rw [this]; rfl
theorem cycK_stays {rs : List Rul} {k : Nat} (h : ¬ (cycK rs k ≤ 2000)) : ∀ d, ¬ (cycK rs (k + d) ≤ 2000)
  | 0 => h
  | d + 1 => by
    have ih := cycK_stays h d
    have e : k + (d + 1) = (k + d) + 1 := by omega
    rw [e, cycK_stop ih]; exact ih
theorem vRules_big {rs : List Rul} {n k : Nat} (hk : k ≤ n) (h : ¬ (cycK rs k ≤ 2000)) : vRules rs n = false := by
  have h2 := cycK_stays h (n - k)
  rw [show k + (n - k) = n by omega] at h2
  unfold vRules; simp [h2]
theorem vRules_good {rs : List Rul} {n : Nat} (h : ∀ j, j < n → ruleOk (rs.getD j r0) = true) (hc : cycK rs n ≤ 2000) : vRules rs n = decide (n ≤ 6) := by
  have : (List.range n).all (fun j => ruleOk (rs.getD j r0)) = true := by
    rw [List.all_eq_true]
    intro j hj
    exact h j (List.mem_range.1 hj)
  unfold vRules; rw [this]; simp [hc]
theorem vRules_yes {rs : List Rul} {n : Nat} (h : vRules rs n = true) : (∀ j, j < n → ruleOk (rs.getD j r0) = true) ∧ cycK rs n ≤ 2000 ∧ n ≤ 6 := by
  unfold vRules at h
  rw [Bool.and_eq_true, Bool.and_eq_true, decide_eq_true_eq, decide_eq_true_eq, List.all_eq_true] at h
  exact ⟨fun j hj => h.1.1 j (List.mem_range.2 hj), h.1.2, h.2⟩
theorem l00In_val (n lo hi : Int) (w : World) (v : Bool) (h : inB n lo hi = v) : Calls Tryz.prog 85 #[.int .i64 n, .int .i64 lo, .int .i64 hi] w fun e w' => e = .returned (.bool v) ∧ w = w' := by
  rw [← h]; exact l00In_any n lo hi w
/-- what the reference says of rules -/
def Yrs (w : World) (rs : List Rul) (n : Nat) (e : Ending) (w' : World) : Prop := ∃ x : Int, e = .returned (.tuple #[.int .i64 x, .bool (vRules rs n)]) ∧ (vRules rs n = true → x = cycK rs n) ∧ Below w.heap.size w w'
theorem yrs_no {w w' : World} {rs : List Rul} {n : Nat} (h : vRules rs n = false) (hb : Below w.heap.size w w') : Yrs w rs n (.returned (.tuple #[.int .i64 0, .bool false])) w' := ⟨0, by rw [h], (fun e => absurd (h.symm.trans e) (by decide)), hb⟩
set_option maxHeartbeats 2000000 in
theorem l15Years_any (A' : Option Addr) (n' c' B : Nat) (rs : List Rul) (w : World) (h' : Rules w B A' n' rs) (hB : B ≤ w.heap.size) (hn' : n' ≤ 9223372036854775807) (hw : ∀ j, j < n' → -9223372036854775808 ≤ (rs.getD j r0).ev) :
    Calls Tryz.prog 95 #[.slice A' n' c'] w fun e w' => Yrs w rs n' e w' := by
  have H := Lib.hid (Tri.more h' hB)
  have HW := Lib.hid hw
  clear h' hw
  go_enter Tryz.func95, Tryz.ntmps95
  go_wp2
  go_loopw [4, 5] (fun l t wr => ∃ k : Nat, t = .int .i64 k ∧ k ≤ n' ∧ l = .int .i64 (cycK rs k) ∧ cycK rs k ≤ 2000 ∧ Hid (∀ j, j < k → ruleOk (rs.getD j r0) = true) ∧ Below w.heap.size w wr) (fun _ t _ => n' - (intOf t).toNat)
  case atStart => exact ⟨0, rfl, Nat.zero_le _, rfl, by simp [cycK], Lib.hid (fun j hj => absurd hj (by omega)), Below.refl _ _⟩
  case round =>
    obtain ⟨k, rfl, hk, rfl, hle, hok, hb⟩ := hrel
    have i0 : (0 : Int) ≤ (k : Int) := Int.natCast_nonneg _
    have hbd := cycK_bd rs k (fun j hj => by have := ruleOk_yes (hok.out j hj); omega)
    by_cases hlt : k < n'
    · have i1 : (k : Int) < (n' : Int) := by omega
      obtain ⟨b, off, rfl, hbl, c1, c2, c3⟩ := Rules.at_ (Tri.below H.out hb) hlt
      have hq1 := @cycK_go rs k
      have hwd := HW.out k hlt
      have HVB := Lib.hid (fun h => vRules_bad (rs := rs) hlt h)
      have HVG := Lib.hid (fun h => vRules_big (rs := rs) (n := n') (k := k + 1) hlt h)
      obtain ⟨r, hr⟩ : ∃ r, rs.getD k r0 = r := ⟨_, rfl⟩
      obtain ⟨x, hx⟩ : ∃ x, cycK rs k = x := ⟨_, rfl⟩
      rw [hr] at c1 c2 c3 hq1 HVB hwd
      rw [hx] at hbd hq1 hle
      rw [hx]
      have HR := Lib.hid hr
      clear hr hx
      cases h1 : inB r.ev 1 1000
      · have HV := Lib.hid (HVB.out (by unfold ruleOk; rw [h1]; rfl))
        have H1 := Lib.hid h1
        clear h1 hq1
        go_wp2
        go_quiet ((go_at_call 85; exact quiet_left (l00In_val _ _ _ _ _ H1.out)))
        go_wp2
        go_ret2
        exact yrs_no HV.out (by (repeat (first | with_reducible exact Below.refl _ _ | with_reducible refine below_alloc ?_ _ | with_reducible refine below_drewN ?_ _ | with_reducible refine Below.drew ?_ | ((with_reducible refine below_set ?_ ?_ _); rotate_left; (focus (first | (simp; done) | (simp; omega) | omega))) | with_reducible refine below_call ?_ (by assumption))))
      · have k1 := inB_yes h1
        have r0w : IntKind.i64.wrap (r.ev - 1) = r.ev - 1 := IntWalk.i64_in _ (by omega)
        cases h2 : inB r.rs 0 (r.ev - 1)
        · have HV := Lib.hid (HVB.out (by unfold ruleOk; rw [h1, h2]; rfl))
          have H1 := Lib.hid h1
          have H2 := Lib.hid h2
          clear h1 h2 hq1
          go_wp2
          go_quiet ((go_at_call 85; exact quiet_left (l00In_val _ _ _ _ _ (by first | exact H1.out | exact H2.out))))
          go_wp2
          go_ret2
          exact yrs_no HV.out (by (repeat (first | with_reducible exact Below.refl _ _ | with_reducible refine below_alloc ?_ _ | with_reducible refine below_drewN ?_ _ | with_reducible refine Below.drew ?_ | ((with_reducible refine below_set ?_ ?_ _); rotate_left; (focus (first | (simp; done) | (simp; omega) | omega))) | with_reducible refine below_call ?_ (by assumption))))
        · have HO := Lib.hid (show ruleOk r = true by unfold ruleOk; rw [h1, h2]; rfl)
          have H1 := Lib.hid h1
          have H2 := Lib.hid h2
          obtain ⟨s1, s2, s3, s4, s5, s6⟩ := step_bd hbd.1 hle k1.1 k1.2
          have HK := Lib.hid (hq1 hle)
          obtain ⟨d, hd⟩ : ∃ d, (Int.gcd x r.ev : Int) = d := ⟨_, rfl⟩
          have HG := Lib.hid hd
          rw [hd] at s1 s2 s3 s4 s5 s6 HK
          have t1 : x.tdiv d = x / d := Int.tdiv_eq_ediv_of_nonneg (by omega)
          have e0 : ¬ (d = 0) := by omega
          have e1 : ¬ (d = -1) := by omega
          obtain ⟨q, hq⟩ : ∃ q, x / d = q := ⟨_, rfl⟩
          rw [hq] at s3 s4 s5 s6 t1 HK
          obtain ⟨y, hy⟩ : ∃ y, q * r.ev = y := ⟨_, rfl⟩
          rw [hy] at s5 s6 HK
          have r1 : IntKind.i64.wrap q = q := IntWalk.i64_in _ (by omega)
          have r2 : IntKind.i64.wrap y = y := IntWalk.i64_in _ (by omega)
          clear hq1 hd hq h1 h2
          by_cases hbig : 2000 < y
          · have HV := Lib.hid (HVG.out (by rw [HK.out]; omega))
            go_wp2
            go_quiet ((go_at_call 85; exact quiet_left (l00In_val _ _ _ _ _ (by first | exact H1.out | exact H2.out))))
            go_wp2
            obtain ⟨wq, hwq⟩ : ∃ wq, wr.drewN nq = wq := ⟨_, rfl⟩
            have d1 : wq.cell? ⟨b, off + k * 3, none⟩ = some (.int .i64 r.ev) := by rw [← hwq]; simpa using c1
            have hbq : Below w.heap.size w wq := by rw [← hwq]; exact below_drewN hb _
            rw [hwq]
            clear hwq
            go_quiet ((go_at_call 111; refine (quiet_left (l02Gcd_any x r.ev _ (by omega) (by omega) (by omega) (by omega))).mono ?_; rintro e w' ⟨rfl, hmm⟩; exact ⟨by rw [HG.out], hmm⟩))
            go_wp2
            go_ret2
            exact yrs_no HV.out (by (repeat (first | with_reducible exact Below.refl _ _ | with_reducible refine below_alloc ?_ _ | with_reducible refine below_drewN ?_ _ | with_reducible refine Below.drew ?_ | ((with_reducible refine below_set ?_ ?_ _); rotate_left; (focus (first | (simp; done) | (simp; omega) | omega))) | with_reducible refine below_call ?_ (by assumption))))
          · go_wp2
            go_quiet ((go_at_call 85; exact quiet_left (l00In_val _ _ _ _ _ (by first | exact H1.out | exact H2.out))))
            go_wp2
            obtain ⟨wq, hwq⟩ : ∃ wq, wr.drewN nq = wq := ⟨_, rfl⟩
            have d1 : wq.cell? ⟨b, off + k * 3, none⟩ = some (.int .i64 r.ev) := by rw [← hwq]; simpa using c1
            have hbq : Below w.heap.size w wq := by rw [← hwq]; exact below_drewN hb _
            rw [hwq]
            clear hwq
            go_quiet ((go_at_call 111; refine (quiet_left (l02Gcd_any x r.ev _ (by omega) (by omega) (by omega) (by omega))).mono ?_; rintro e w' ⟨rfl, hmm⟩; exact ⟨by rw [HG.out], hmm⟩))
            go_wp2
            go_roundw
            case rel =>
              refine ⟨k + 1, by go_num, by omega, by rw [HK.out], by rw [HK.out]; omega, Lib.hid (fun j hj => ?_), by (repeat (first | with_reducible exact Below.refl _ _ | with_reducible refine below_alloc ?_ _ | with_reducible refine below_drewN ?_ _ | with_reducible refine Below.drew ?_ | ((with_reducible refine below_set ?_ ?_ _); rotate_left; (focus (first | (simp; done) | (simp; omega) | omega))) | with_reducible refine below_call ?_ (by assumption)))⟩
              by_cases e : j = k
              · subst e; rw [HR.out]; exact HO.out
              · exact hok.out j (by omega)
            case measure => simp [intOf]; omega
    · have hkn : k = n' := by omega
      have HV := Lib.hid (show vRules rs n' = decide (n' ≤ 6) by rw [← hkn]; exact vRules_good hok.out hle)
      have HE2 := Lib.hid hkn
      clear hkn
      by_cases h6 : n' ≤ 6
      · have i6 : (n' : Int) ≤ 6 := by omega
        go_wp2
        go_ret2
        exact ⟨_, by rw [HV.out, decide_eq_true h6]; rfl, fun _ => by rw [HE2.out], hb⟩
      · have i6 : ¬ ((n' : Int) ≤ 6) := by omega
        go_wp2
        go_ret2
        exact ⟨_, by rw [HV.out, decide_eq_false h6]; rfl, fun _ => by rw [HE2.out], hb⟩
end Go.Proofs.YtmbdedkelckedaaGreatDoor

/- Contract of the validity of months, the reference's. No conditions but that there are fewer than 2^63 months. -/
namespace Go.Proofs.YtmbdedkelckedaaGreatDoor
open Go.RowKit
set_option linter.unusedVariables false
set_option linter.unusedSimpArgs false
def nmL (ms : List Mth) (k : Nat) : List UInt8 := (ms.getD k m0).nm.data.toList
def mOk (m : Mth) : Bool := vName m.nm.data.toList && inB m.dy 1 60 && inB m.lp 1 60
/-- month i is valid, and none ahead of it has its name -/
def mAt (ms : List Mth) (i : Nat) : Bool := mOk (ms.getD i m0) && (List.range i).all (fun k => !(nmL ms k == nmL ms i))
def vMonths (ms : List Mth) (n : Nat) : Bool := (List.range n).all (mAt ms) && inB n 1 20
theorem mAt_no {ms : List Mth} {i : Nat} (h : mOk (ms.getD i m0) = false) : mAt ms i = false := by unfold mAt; rw [h]; rfl
theorem mAt_twice {ms : List Mth} {i k : Nat} (hk : k < i) (h : nmL ms k = nmL ms i) : mAt ms i = false := by
  have : (List.range i).all (fun k => !(nmL ms k == nmL ms i)) = false := by
    rw [List.all_eq_false]
    exact ⟨k, List.mem_range.2 hk, by rw [h]; simp⟩
  unfold mAt; rw [this]; simp
theorem mAt_yes {ms : List Mth} {i : Nat} (h : mOk (ms.getD i m0) = true) (hd : ∀ k, k < i → ¬ (nmL ms k = nmL ms i)) : mAt ms i = true := by
  have : (List.range i).all (fun k => !(nmL ms k == nmL ms i)) = true := by
    rw [List.all_eq_true]
    intro k hk
    have := hd k (List.mem_range.1 hk)
    simpa using this
  unfold mAt; rw [this, h]; rfl
theorem vMonths_bad {ms : List Mth} {n i : Nat} (hi : i < n) (h : mAt ms i = false) : vMonths ms n = false := by
  have : (List.range n).all (mAt ms) = false := by
    rw [List.all_eq_false]
    exact ⟨i, List.mem_range.2 hi, by rw [h]; decide⟩
  unfold vMonths; rw [this]; rfl
theorem vMonths_good {ms : List Mth} {n : Nat} (h : ∀ i, i < n → mAt ms i = true) : vMonths ms n = inB n 1 20 := by
  have : (List.range n).all (mAt ms) = true := by
    rw [List.all_eq_true]
    intro i hi
    exact h i (List.mem_range.1 hi)
  unfold vMonths; rw [this]; rfl
set_option maxHeartbeats 2000000 in
theorem l15Months_any (A : Option Addr) (n c B : Nat) (ms : List Mth) (w : World) (h : Months w B A n ms) (hB : B ≤ w.heap.size) (hn : n ≤ 9223372036854775807) :
    Calls Tryz.prog 97 #[.slice A n c] w fun e w' => e = .returned (.bool (vMonths ms n)) ∧ Below w.heap.size w w' := by
  have H := Lib.hid (Tri.more h hB)
  clear h
  go_enter Tryz.func97, Tryz.ntmps97
  go_wp2
  go_loopw [3, 4] (fun t _ wr => ∃ i : Nat, t = .int .i64 i ∧ i ≤ n ∧ Hid (∀ j, j < i → mAt ms j = true) ∧ Below w.heap.size w wr) (fun t _ _ => n - (intOf t).toNat)
  case atStart => exact ⟨0, rfl, Nat.zero_le _, Lib.hid (fun j hj => absurd hj (by omega)), Below.refl _ _⟩
  case round =>
    obtain ⟨i, rfl, hi, hA, hb⟩ := hrel
    have i0 : (0 : Int) ≤ (i : Int) := Int.natCast_nonneg _
    by_cases hlt : i < n
    · have i1 : (i : Int) < (n : Int) := by omega
      obtain ⟨b, off, rfl, hbl, c1, c2, c3⟩ := Months.at_ (Tri.below H.out hb) hlt
      have HVB := Lib.hid (fun h => vMonths_bad (ms := ms) hlt h)
      have HNO := Lib.hid (@mAt_no ms i)
      obtain ⟨m, hm⟩ : ∃ m, ms.getD i m0 = m := ⟨_, rfl⟩
      rw [hm] at c1 c2 c3 HNO
      have HM := Lib.hid hm
      have zb : b < wr.heap.size := by have := hb.size; omega
      have HB := Lib.hid hb
      clear hm hb
      cases h1 : vName m.nm.data.toList
      · have HV := Lib.hid (HVB.out (HNO.out (by unfold mOk; rw [h1]; rfl)))
        have H1 := Lib.hid h1
        clear h1
        go_wp2_with (first | (go_at_call 96; refine (specIsName_any m.nm _).mono ?_; rintro e w2 ⟨rfl, hb2⟩; rw [H1.out]; have HB2 := Lib.hid (below_call HB.out hb2); clear hb2) | fail)
        go_ret
        exact ⟨by rw [HV.out]; rfl, HB2.out⟩
      · cases h2 : inB m.dy 1 60
        · have HV := Lib.hid (HVB.out (HNO.out (by unfold mOk; rw [h1, h2]; rfl)))
          have H1 := Lib.hid h1
          have H2 := Lib.hid h2
          clear h1 h2
          go_wp2_with (first | (go_at_call 96; refine (specIsName_any m.nm _).mono ?_; rintro e w2 ⟨rfl, hb2⟩; rw [H1.out]; have HB2 := Lib.hid (below_call HB.out hb2); have d1 := cell_call hb2 (p := ⟨b, off + i * 3, none⟩) (by simpa using zb) c1; have d2 := cell_call hb2 (p := ⟨b, off + i * 3 + 1, none⟩) (by simpa using zb) c2; have d3 := cell_call hb2 (p := ⟨b, off + i * 3 + 2, none⟩) (by simpa using zb) c3; clear hb2) | (go_at_call 85; refine (l00In_val _ _ _ _ _ H2.out).mono ?_; rintro e w3 ⟨rfl, rfl⟩) | fail)
          go_ret
          exact ⟨by rw [HV.out]; rfl, HB2.out⟩
        · cases h3 : inB m.lp 1 60
          · have HV := Lib.hid (HVB.out (HNO.out (by unfold mOk; rw [h1, h2, h3]; rfl)))
            have H1 := Lib.hid h1
            have H2 := Lib.hid h2
            have H3 := Lib.hid h3
            clear h1 h2 h3
            go_wp2_with (first | (go_at_call 96; refine (specIsName_any m.nm _).mono ?_; rintro e w2 ⟨rfl, hb2⟩; rw [H1.out]; have HB2 := Lib.hid (below_call HB.out hb2); have d1 := cell_call hb2 (p := ⟨b, off + i * 3, none⟩) (by simpa using zb) c1; have d2 := cell_call hb2 (p := ⟨b, off + i * 3 + 1, none⟩) (by simpa using zb) c2; have d3 := cell_call hb2 (p := ⟨b, off + i * 3 + 2, none⟩) (by simpa using zb) c3; clear hb2) | (go_at_call 85; refine (l00In_val _ _ _ _ _ (by first | exact H2.out | exact H3.out)).mono ?_; rintro e w3 ⟨rfl, rfl⟩) | fail)
            go_ret
            exact ⟨by rw [HV.out]; rfl, HB2.out⟩
          · have HO := Lib.hid (show mOk m = true by unfold mOk; rw [h1, h2, h3]; rfl)
            have H1 := Lib.hid h1
            have H2 := Lib.hid h2
            have H3 := Lib.hid h3
            clear h1 h2 h3
            go_wp2_with (first | (go_at_call 96; refine (specIsName_any m.nm _).mono ?_; rintro e w2 ⟨rfl, hb2⟩; rw [H1.out]; have HB2 := Lib.hid (below_call HB.out hb2); have d1 := cell_call hb2 (p := ⟨b, off + i * 3, none⟩) (by simpa using zb) c1; have d2 := cell_call hb2 (p := ⟨b, off + i * 3 + 1, none⟩) (by simpa using zb) c2; have d3 := cell_call hb2 (p := ⟨b, off + i * 3 + 2, none⟩) (by simpa using zb) c3; have zb2 := lt_call hb2 zb; clear hb2) | (go_at_call 85; refine (l00In_val _ _ _ _ _ (by first | exact H2.out | exact H3.out)).mono ?_; rintro e w3 ⟨rfl, rfl⟩) | fail)
            go_loopw [4] (fun t wr => ∃ k : Nat, t = .int .i64 k ∧ k ≤ i ∧ Hid (∀ j, j < k → ¬ (nmL ms j = nmL ms i)) ∧ Below w.heap.size w wr ∧ wr.cell? ⟨b, off + i * 3, none⟩ = some (.string m.nm)) (fun t _ => i - (intOf t).toNat)
            case atStart => exact ⟨0, rfl, Nat.zero_le _, Lib.hid (fun j hj => absurd hj (by omega)), HB2.out, d1⟩
            case round =>
              obtain ⟨k, rfl, hk, hD, hbk, hci⟩ := hrel
              have j0 : (0 : Int) ≤ (k : Int) := Int.natCast_nonneg _
              by_cases hki : k < i
              · have j1 : (k : Int) < (i : Int) := by omega
                have j2 : (k : Int) < (n : Int) := by omega
                obtain ⟨b', off', e1, _, f1, _, _⟩ := Months.at_ (Tri.below H.out hbk) (show k < n by omega)
                injection e1 with e1
                injection e1 with e1 e2
                subst e1
                subst e2
                obtain ⟨x, hx⟩ : ∃ x, ms.getD k m0 = x := ⟨_, rfl⟩
                rw [hx] at f1
                have HNK := Lib.hid (show nmL ms k = x.nm.toList by unfold nmL; rw [hx, ByteArray.toList_eq])
                have HNI := Lib.hid (show nmL ms i = m.nm.toList by unfold nmL; rw [HM.out, ByteArray.toList_eq])
                clear hx
                cases hq : (x.nm.toList == m.nm.toList)
                · have HQ := Lib.hid (show ¬ (x.nm.toList = m.nm.toList) by simpa using hq)
                  go_wp2
                  go_quiet (fail)
                  go_wp2
                  go_roundw
                  case rel =>
                    refine ⟨k + 1, by go_num, by omega, Lib.hid (fun j hj => ?_), by (repeat (first | with_reducible exact Below.refl _ _ | with_reducible refine below_alloc ?_ _ | with_reducible refine below_drewN ?_ _ | with_reducible refine Below.drew ?_ | ((with_reducible refine below_set ?_ ?_ _); rotate_left; (focus (first | (simp; done) | (simp; omega) | omega))) | with_reducible refine below_call ?_ (by assumption))), by simpa using hci⟩
                    by_cases e : j = k
                    · subst e; rw [HNK.out, HNI.out]; exact HQ.out
                    · exact hD.out j (by omega)
                  case measure => simp [intOf]; omega
                · have HV := Lib.hid (HVB.out (mAt_twice hki (by rw [HNK.out, HNI.out]; exact eq_of_beq hq)))
                  go_wp2
                  go_quiet (fail)
                  go_wp2
                  go_ret
                  exact ⟨by rw [HV.out]; rfl, by (repeat (first | with_reducible exact Below.refl _ _ | with_reducible refine below_alloc ?_ _ | with_reducible refine below_drewN ?_ _ | with_reducible refine Below.drew ?_ | ((with_reducible refine below_set ?_ ?_ _); rotate_left; (focus (first | (simp; done) | (simp; omega) | omega))) | with_reducible refine below_call ?_ (by assumption)))⟩
              · go_wp2
                go_roundw
                case rel =>
                  refine ⟨i + 1, by go_num, by omega, Lib.hid (fun j hj => ?_), hbk⟩
                  by_cases e : j = i
                  · subst e; exact mAt_yes (by rw [HM.out]; exact HO.out) (fun k' hk' => hD.out k' (by omega))
                  · exact hA.out j (by omega)
                case measure => simp [intOf]; omega
    · have HV := Lib.hid (show vMonths ms n = inB n 1 20 from vMonths_good (fun j hj => hA.out j (by omega)))
      go_wp2_with (first | (go_at_call 85; refine (l00In_any _ _ _ _).mono ?_; rintro e w3 ⟨rfl, rfl⟩) | fail)
      go_ret
      exact ⟨by rw [HV.out]; rfl, hb⟩
end Go.Proofs.YtmbdedkelckedaaGreatDoor

/- Contract of the validity of a calendar, the reference's. No conditions but that there are fewer than 2^63 months and rules. -/
namespace Go.Proofs.YtmbdedkelckedaaGreatDoor
open Go.RowKit
set_option linter.unusedVariables false
set_option linter.unusedSimpArgs false
/-- a calendar is valid -/
def vCal (nm : ByteArray) (n n' : Nat) (ms : List Mth) (rs : List Rul) (we : Int) : Bool := vRules rs n' && vName nm.data.toList && vMonths ms n && inB we 1 12
/-- a calendar in a block's first four cells -/
structure CalAt (w : World) (g : Nat) (nm : ByteArray) (A A' : Option Addr) (n n' c c' : Nat) (we : Int) : Prop where
  lt : g < w.heap.size
  c0 : w.cell? ⟨g, 0, none⟩ = some (.string nm)
  c1 : w.cell? ⟨g, 1, none⟩ = some (.slice A n c)
  c2 : w.cell? ⟨g, 2, none⟩ = some (.slice A' n' c')
  c3 : w.cell? ⟨g, 3, none⟩ = some (.int .i64 we)
theorem CalAt.call {w w' : World} {g : Nat} {nm : ByteArray} {A A' : Option Addr} {n n' c c' : Nat} {we : Int} (h : CalAt w g nm A A' n n' c c' we) (hb : Below w.heap.size w w') : CalAt w' g nm A A' n n' c c' we :=
  ⟨lt_call hb h.lt, cell_call hb (p := ⟨g, 0, none⟩) h.lt h.c0, cell_call hb (p := ⟨g, 1, none⟩) h.lt h.c1, cell_call hb (p := ⟨g, 2, none⟩) h.lt h.c2, cell_call hb (p := ⟨g, 3, none⟩) h.lt h.c3⟩
set_option maxHeartbeats 2000000 in
theorem l15Ok_any (g : Nat) (nm : ByteArray) (A A' : Option Addr) (n n' c c' B : Nat) (ms : List Mth) (rs : List Rul) (we : Int) (w : World) (hC : CalAt w g nm A A' n n' c c' we) (h : Months w B A n ms) (h' : Rules w B A' n' rs) (hB : B ≤ w.heap.size) (hn : n ≤ 9223372036854775807) (hn' : n' ≤ 9223372036854775807) (hw : ∀ j, j < n' → -9223372036854775808 ≤ (rs.getD j r0).ev) :
    Calls Tryz.prog 69 #[.pointer (some ⟨g, 0, none⟩)] w fun e w' => e = .returned (.bool (vCal nm n n' ms rs we)) ∧ Below w.heap.size w w' := by
  have H := Lib.hid (Tri.more h hB)
  have H' := Lib.hid (Tri.more h' hB)
  have HC := Lib.hid hC
  have k2 := hC.c2
  have zg := hC.lt
  clear h h' hC
  cases hr : vRules rs n'
  · have HR := Lib.hid hr
    have HV := Lib.hid (show vCal nm n n' ms rs we = false by unfold vCal; rw [hr]; rfl)
    clear hr
    go_enter Tryz.func69, Tryz.ntmps69
    go_wp2_with (first | (go_at_call 95; refine (l15Years_any A' n' c' w.heap.size rs _ H'.out (Nat.le_refl _) hn' hw).mono ?_; rintro e w1 ⟨x, rfl, -, hb1⟩; rw [HR.out]; have HB1 := Lib.hid hb1; clear hb1) | fail)
    go_ret
    exact ⟨by rw [HV.out]; rfl, HB1.out⟩
  · cases hv : vName nm.data.toList
    · have HR := Lib.hid hr
      have HN := Lib.hid hv
      have HV := Lib.hid (show vCal nm n n' ms rs we = false by unfold vCal; rw [hr, hv]; rfl)
      clear hr hv
      go_enter Tryz.func69, Tryz.ntmps69
      go_wp2_with (first | (go_at_call 95; refine (l15Years_any A' n' c' w.heap.size rs _ H'.out (Nat.le_refl _) hn' hw).mono ?_; rintro e w1 ⟨x, rfl, -, hb1⟩; rw [HR.out]; have K1 := HC.out.call hb1; have p0 := K1.c0; have HB1 := Lib.hid hb1; clear hb1 K1) | (go_at_call 96; refine (specIsName_any nm _).mono ?_; rintro e w2 ⟨rfl, hb2⟩; rw [HN.out]; have HB2 := Lib.hid (below_call HB1.out hb2); clear hb2) | fail)
      go_ret
      exact ⟨by rw [HV.out]; rfl, HB2.out⟩
    · cases hm : vMonths ms n
      · have HR := Lib.hid hr
        have HN := Lib.hid hv
        have HM := Lib.hid hm
        have HV := Lib.hid (show vCal nm n n' ms rs we = false by unfold vCal; rw [hr, hv, hm]; rfl)
        clear hr hv hm
        go_enter Tryz.func69, Tryz.ntmps69
        go_wp2_with (first | (go_at_call 95; refine (l15Years_any A' n' c' w.heap.size rs _ H'.out (Nat.le_refl _) hn' hw).mono ?_; rintro e w1 ⟨x, rfl, -, hb1⟩; rw [HR.out]; have K1 := Lib.hid (HC.out.call hb1); have p0 := K1.out.c0; have HB1 := Lib.hid hb1; clear hb1) | (go_at_call 96; refine (specIsName_any nm _).mono ?_; rintro e w2 ⟨rfl, hb2⟩; rw [HN.out]; have K2 := Lib.hid (K1.out.call hb2); have p1 := K2.out.c1; have HB2 := Lib.hid (below_call HB1.out hb2); clear hb2) | (go_at_call 97; refine (l15Months_any A n c w.heap.size ms _ (Tri.below H.out HB2.out) HB2.out.size hn).mono ?_; rintro e w3 ⟨rfl, hb3⟩; rw [HM.out]; have HB3 := Lib.hid (below_call HB2.out hb3); clear hb3) | fail)
        go_ret
        exact ⟨by rw [HV.out]; rfl, HB3.out⟩
      · have HR := Lib.hid hr
        have HN := Lib.hid hv
        have HM := Lib.hid hm
        have HV := Lib.hid (show vCal nm n n' ms rs we = inB we 1 12 by unfold vCal; rw [hr, hv, hm]; rfl)
        clear hr hv hm
        go_enter Tryz.func69, Tryz.ntmps69
        go_wp2_with (first | (go_at_call 95; refine (l15Years_any A' n' c' w.heap.size rs _ H'.out (Nat.le_refl _) hn' hw).mono ?_; rintro e w1 ⟨x, rfl, -, hb1⟩; rw [HR.out]; have K1 := Lib.hid (HC.out.call hb1); have p0 := K1.out.c0; have HB1 := Lib.hid hb1; clear hb1) | (go_at_call 96; refine (specIsName_any nm _).mono ?_; rintro e w2 ⟨rfl, hb2⟩; rw [HN.out]; have K2 := Lib.hid (K1.out.call hb2); have p1 := K2.out.c1; have HB2 := Lib.hid (below_call HB1.out hb2); clear hb2) | (go_at_call 97; refine (l15Months_any A n c w.heap.size ms _ (Tri.below H.out HB2.out) HB2.out.size hn).mono ?_; rintro e w3 ⟨rfl, hb3⟩; rw [HM.out]; have K3 := Lib.hid (K2.out.call hb3); have p3 := K3.out.c3; have HB3 := Lib.hid (below_call HB2.out hb3); clear hb3) | (go_at_call 85; refine (l00In_any _ _ _ _).mono ?_; rintro e w4 ⟨rfl, rfl⟩) | fail)
        go_ret
        exact ⟨by rw [HV.out]; rfl, HB3.out⟩
end Go.Proofs.YtmbdedkelckedaaGreatDoor

/- Contracts of the search for a month of a name: the closure, slices.IndexFunc, slices.ContainsFunc. No conditions but that there are fewer than 2^63 months. -/
namespace Go.Proofs.YtmbdedkelckedaaGreatDoor
open Go.RowKit
set_option linter.unusedVariables false
set_option linter.unusedSimpArgs false
set_option maxHeartbeats 1000000 in
theorem sameName_any (m : Mth) (x : ByteArray) (g : Nat) (w : World) (v : Bool) (hg : g < w.heap.size) (hc : w.cell? ⟨g, 0, none⟩ = some (.string x)) (hv : (m.nm.toList == x.toList) = v) :
    Calls Tryz.prog 74 #[.agg #[.string m.nm, .int .i64 m.dy, .int .i64 m.lp], .pointer (some ⟨g, 0, none⟩)] w fun e w' => e = .returned (.bool v) ∧ Below w.heap.size w w' := by
  cases v
  · have HQ := (show ¬ (m.nm.toList = x.toList) by simpa using hv)
    go_enter Tryz.func74, Tryz.ntmps74
    go_wp2
    go_ret
    exact ⟨rfl, by (repeat (first | with_reducible exact Below.refl _ _ | with_reducible refine below_alloc ?_ _ | with_reducible refine below_drewN ?_ _ | with_reducible refine Below.drew ?_ | ((with_reducible refine below_set ?_ ?_ _); rotate_left; (focus (first | (simp; done) | (simp; omega) | omega))) | with_reducible refine below_call ?_ (by assumption)))⟩
  · have HQ := Lib.hid (eq_of_beq hv)
    go_enter Tryz.func74, Tryz.ntmps74
    go_wp2
    go_ret
    exact ⟨rfl, by (repeat (first | with_reducible exact Below.refl _ _ | with_reducible refine below_alloc ?_ _ | with_reducible refine below_drewN ?_ _ | with_reducible refine Below.drew ?_ | ((with_reducible refine below_set ?_ ?_ _); rotate_left; (focus (first | (simp; done) | (simp; omega) | omega))) | with_reducible refine below_call ?_ (by assumption)))⟩
/-- one of the first n months has the name x -/
def hasName (ms : List Mth) (n : Nat) (x : List UInt8) : Bool := (List.range n).any (fun j => nmL ms j == x)
theorem hasName_yes {ms : List Mth} {n k : Nat} {x : List UInt8} (hk : k < n) (h : nmL ms k = x) : hasName ms n x = true := by
  unfold hasName
  rw [List.any_eq_true]
  exact ⟨k, List.mem_range.2 hk, by rw [h]; simp⟩
theorem hasName_no {ms : List Mth} {n : Nat} {x : List UInt8} (h : ∀ j, j < n → ¬ (nmL ms j = x)) : hasName ms n x = false := by
  unfold hasName
  rw [List.any_eq_false]
  intro j hj
  have := h j (List.mem_range.1 hj)
  simpa using this
set_option maxHeartbeats 2000000 in
theorem IndexFunc_any (A : Option Addr) (n c B g : Nat) (ms : List Mth) (x : ByteArray) (w : World) (h : Months w B A n ms) (hB : B ≤ w.heap.size) (hn : n ≤ 9223372036854775807) (hg : g < w.heap.size) (hc : w.cell? ⟨g, 0, none⟩ = some (.string x)) :
    Calls Tryz.prog 99 #[.slice A n c, .func (.func 74) #[] #[.pointer (some ⟨g, 0, none⟩)]] w fun e w' => ∃ r : Int, e = .returned (.int .i64 r) ∧ decide (0 ≤ r) = hasName ms n x.toList ∧ Below w.heap.size w w' := by
  have H := Lib.hid (Tri.more h hB)
  have HC := Lib.hid hc
  clear h hc
  go_enter Tryz.func99, Tryz.ntmps99
  go_wp2
  go_loopw [5, 8] (fun _ t wr => ∃ k : Nat, t = .int .i64 k ∧ k ≤ n ∧ Hid (∀ j, j < k → ¬ (nmL ms j = x.toList)) ∧ Below w.heap.size w wr) (fun _ t _ => n - (intOf t).toNat)
  case atStart => exact ⟨0, rfl, Nat.zero_le _, Lib.hid (fun j hj => absurd hj (by omega)), Below.refl _ _⟩
  case round =>
    obtain ⟨k, rfl, hk, hD, hb⟩ := hrel
    have i0 : (0 : Int) ≤ (k : Int) := Int.natCast_nonneg _
    by_cases hlt : k < n
    · have i1 : (k : Int) < (n : Int) := by omega
      obtain ⟨b, off, rfl, hbl, c1, c2, c3⟩ := Months.at_ (Tri.below H.out hb) hlt
      obtain ⟨m, hm⟩ : ∃ m, ms.getD k m0 = m := ⟨_, rfl⟩
      rw [hm] at c1 c2 c3
      have HNK := Lib.hid (show nmL ms k = m.nm.toList by unfold nmL; rw [hm, ByteArray.toList_eq])
      have hg2 := lt_call hb hg
      have hc2 := cell_call hb (p := ⟨g, 0, none⟩) (by simpa using hg) HC.out
      have HB := Lib.hid hb
      clear hm hb
      cases hq : (m.nm.toList == x.toList)
      · have HQ := Lib.hid hq
        clear hq
        go_wp2_with (first | (go_at_call 74; refine (sameName_any m x g _ false hg2 hc2 HQ.out).mono ?_; rintro e w2 ⟨rfl, hb2⟩; have HB2 := Lib.hid (below_call HB.out hb2); clear hb2) | fail)
        go_roundw
        case rel =>
          refine ⟨k + 1, by go_num, by omega, Lib.hid (fun j hj => ?_), HB2.out⟩
          by_cases e : j = k
          · subst e; rw [HNK.out]; have := HQ.out; simpa using this
          · exact hD.out j (by omega)
        case measure => simp [intOf]; omega
      · have HQ := Lib.hid hq
        clear hq
        go_wp2_with (first | (go_at_call 74; refine (sameName_any m x g _ true hg2 hc2 HQ.out).mono ?_; rintro e w2 ⟨rfl, hb2⟩; have HB2 := Lib.hid (below_call HB.out hb2); clear hb2) | fail)
        go_ret
        exact ⟨_, rfl, by rw [hasName_yes hlt (HNK.out.trans (eq_of_beq HQ.out))]; simp, HB2.out⟩
    · have HV := Lib.hid (show hasName ms n x.toList = false from hasName_no (fun j hj => hD.out j (by omega)))
      go_wp2
      go_ret
      exact ⟨_, rfl, by rw [HV.out]; decide, hb⟩
set_option maxHeartbeats 1000000 in
theorem ContainsFunc_any (A : Option Addr) (n c B g : Nat) (ms : List Mth) (x : ByteArray) (w : World) (h : Months w B A n ms) (hB : B ≤ w.heap.size) (hn : n ≤ 9223372036854775807) (hg : g < w.heap.size) (hc : w.cell? ⟨g, 0, none⟩ = some (.string x)) :
    Calls Tryz.prog 73 #[.slice A n c, .func (.func 74) #[] #[.pointer (some ⟨g, 0, none⟩)]] w fun e w' => e = .returned (.bool (hasName ms n x.toList)) ∧ Below w.heap.size w w' := by
  have HI := Lib.hid (IndexFunc_any A n c B g ms x w h hB hn hg hc)
  clear h hc
  go_enter Tryz.func73, Tryz.ntmps73
  go_wp2_with (first | (go_at_call 99; refine HI.out.mono ?_; rintro e w2 ⟨r, rfl, hr, hb2⟩; have HR := Lib.hid hr; have HB2 := Lib.hid hb2; clear hr hb2) | fail)
  go_ret
  exact ⟨by rw [← HR.out]; rfl, HB2.out⟩
end Go.Proofs.YtmbdedkelckedaaGreatDoor
