/- Contracts of the years of a calendar's cycle, the program's. No conditions but that each rule's cycle is from 1 to 1000 years. -/
import Derived.Test.YthjldjbblaioaaaLeap
namespace Go.Proofs.Ythjldjbblaioaaa
open Go.RowKit
set_option linter.unusedVariables false
set_option linter.unusedSimpArgs false
/-- the years of the cycle of the first k rules; it grows no more above 2000 -/
def cycK (rs : List Rul) : Nat → Int
  | 0 => 1
  | k + 1 => if cycK rs k ≤ 2000 then cycK rs k / (Int.gcd (cycK rs k) (rs.getD k r0).ev : Int) * (rs.getD k r0).ev else cycK rs k
theorem cycK_go {rs : List Rul} {k : Nat} (h : cycK rs k ≤ 2000) : cycK rs (k + 1) = cycK rs k / (Int.gcd (cycK rs k) (rs.getD k r0).ev : Int) * (rs.getD k r0).ev := by rw [cycK, if_pos h]
theorem cycK_stop {rs : List Rul} {k : Nat} (h : ¬ (cycK rs k ≤ 2000)) : cycK rs (k + 1) = cycK rs k := by rw [cycK, if_neg h]
theorem step_bd {x e : Int} (h1 : 1 ≤ x) (h2 : x ≤ 2000) (he1 : 1 ≤ e) (he2 : e ≤ 1000) : 1 ≤ (Int.gcd x e : Int) ∧ (Int.gcd x e : Int) ≤ 2000 ∧ 1 ≤ x / (Int.gcd x e : Int) ∧ x / (Int.gcd x e : Int) ≤ 2000 ∧ 1 ≤ x / (Int.gcd x e : Int) * e ∧ x / (Int.gcd x e : Int) * e ≤ 2000000 := by
  have hd : (Int.gcd x e : Int) ∣ x := Int.gcd_dvd_left ..
  have hp : 1 ≤ (Int.gcd x e : Int) := by
    have : 0 < Int.gcd x e := Int.gcd_pos_of_ne_zero_left _ (by omega)
    omega
  obtain ⟨q, hq⟩ := hd
  generalize (Int.gcd x e : Int) = d at *
  have hdz : d ≠ 0 := by omega
  have hxd : x / d = q := by rw [hq]; exact Int.mul_ediv_cancel_left q hdz
  have hq1 : 1 ≤ q := by
    rcases Int.lt_or_le q 1 with h | h
    · have : d * q ≤ d * 0 := Int.mul_le_mul_of_nonneg_left (by omega) (by omega)
      rw [Int.mul_zero] at this; omega
    · exact h
  have hq2 : q ≤ x := by
    have : 1 * q ≤ d * q := Int.mul_le_mul_of_nonneg_right hp (by omega)
    omega
  have hd2 : d ≤ x := by
    have : d * 1 ≤ d * q := Int.mul_le_mul_of_nonneg_left hq1 (by omega)
    omega
  rw [hxd]
  have h5 : 1 * 1 ≤ q * e := Int.mul_le_mul hq1 he1 (by omega) (by omega)
  have h6 : q * e ≤ 2000 * 1000 := Int.mul_le_mul (by omega) he2 (by omega) (by omega)
  exact ⟨hp, by omega, hq1, by omega, by omega, by omega⟩
theorem cycK_bd (rs : List Rul) : ∀ k, (∀ j, j < k → 1 ≤ (rs.getD j r0).ev ∧ (rs.getD j r0).ev ≤ 1000) → 1 ≤ cycK rs k ∧ cycK rs k ≤ 2000000
  | 0, _ => by simp [cycK]
  | k + 1, h => by
    have ih := cycK_bd rs k (fun j hj => h j (by omega))
    by_cases hc : cycK rs k ≤ 2000
    · rw [cycK_go hc]
      have hk := h k (by omega)
      have := step_bd ih.1 hc hk.1 hk.2
      exact ⟨this.2.2.2.2.1, this.2.2.2.2.2⟩
    · rw [cycK_stop hc]; exact ih
theorem quiet_left {P : Program} {f : FuncId} {args : Array Value} {w : World} {n : Nat} {v : Value}
    (h : Calls P f args (w.drewN n) fun e w' => e = .returned v ∧ w.drewN n = w') : Calls P f args (w.drewN n) fun e w'' => e = .returned v ∧ ∃ m, w'' = w.drewN m :=
  h.mono fun _ _ ⟨he, hm⟩ => ⟨he, n, hm.symm⟩
theorem drewN_two (w : World) (n k : Nat) : ∃ m, (w.drewN n).drewN k = w.drewN m := ⟨_, by first | exact World.drewN_drewN w n k | exact (World.drewN_add w n k).symm | simp⟩
theorem quiet_on {P : Program} {f : FuncId} {args : Array Value} {w : World} {n : Nat} {v : Value}
    (h : Calls P f args (w.drewN n) fun e w' => e = .returned v ∧ ∃ k, w' = (w.drewN n).drewN k) : Calls P f args (w.drewN n) fun e w'' => e = .returned v ∧ ∃ m, w'' = w.drewN m :=
  h.mono fun _ _ ⟨he, k, hm⟩ => ⟨he, by rw [hm]; exact drewN_two w n k⟩
set_option maxHeartbeats 1000000 in
theorem cycleYears_any (A' : Option Addr) (n' c' B : Nat) (rs : List Rul) (w : World) (h' : Rules w B A' n' rs) (hB : B ≤ w.heap.size) (hn' : n' ≤ 9223372036854775807) (hev : ∀ j, j < n' → 1 ≤ (rs.getD j r0).ev ∧ (rs.getD j r0).ev ≤ 1000) :
    Calls Try.prog 64 #[.slice A' n' c'] w fun e w' => e = .returned (.int .i64 (cycK rs n')) ∧ Below w.heap.size w w' := by
  have H := Lib.hid (Tri.more h' hB)
  have HE := Lib.hid hev
  clear h' hev
  go_enter Try.func64, Try.ntmps64
  go_wp2
  go_loopw [3, 5, 8] (fun l _ t wr => ∃ k : Nat, t = .int .i64 k ∧ k ≤ n' ∧ l = .int .i64 (cycK rs k) ∧ Below w.heap.size w wr) (fun _ _ t _ => n' - (intOf t).toNat)
  case atStart => exact ⟨0, rfl, Nat.zero_le _, rfl, Below.refl _ _⟩
  case round =>
    obtain ⟨k, rfl, hk, rfl, hb⟩ := hrel
    have i0 : (0 : Int) ≤ (k : Int) := Int.natCast_nonneg _
    by_cases hlt : k < n'
    · have i1 : (k : Int) < (n' : Int) := by omega
      obtain ⟨b, off, rfl, hbl, c1, c2, c3⟩ := Rules.at_ (Tri.below H.out hb) hlt
      have he := HE.out k hlt
      have hbd := cycK_bd rs k (fun j hj => HE.out j (by omega))
      have hq1 := @cycK_go rs k
      have hq2 := @cycK_stop rs k
      obtain ⟨r, hr⟩ : ∃ r, rs.getD k r0 = r := ⟨_, rfl⟩
      obtain ⟨x, hx⟩ : ∃ x, cycK rs k = x := ⟨_, rfl⟩
      rw [hr] at c1 c2 c3 he hq1
      rw [hx] at hbd hq1 hq2
      rw [hx]
      clear hr hx
      by_cases hm : x ≤ 2000
      · obtain ⟨s1, s2, s3, s4, s5, s6⟩ := step_bd hbd.1 hm he.1 he.2
        have HK := Lib.hid (hq1 hm)
        obtain ⟨d, hd⟩ : ∃ d, (Int.gcd x r.ev : Int) = d := ⟨_, rfl⟩
        have HG := Lib.hid hd
        rw [hd] at s1 s2 s3 s4 s5 s6 HK
        have t1 : x.tdiv d = x / d := Int.tdiv_eq_ediv_of_nonneg (by omega)
        have e0 : ¬ (d = 0) := by omega
        have e1 : ¬ (d = -1) := by omega
        obtain ⟨q, hq⟩ : ∃ q, x / d = q := ⟨_, rfl⟩
        rw [hq] at s3 s4 s5 s6 t1 HK
        have r1 : IntKind.i64.wrap q = q := IntWalk.i64_in _ (by omega)
        have r2 : IntKind.i64.wrap (q * r.ev) = q * r.ev := IntWalk.i64_in _ (by omega)
        clear hq1 hq2 hd hq
        go_wp2
        go_quiet ((go_at_call 65; refine (quiet_on (gcd_any x r.ev _ (by omega) (by omega))).mono ?_; rintro e w' ⟨rfl, hmm⟩; exact ⟨by rw [HG.out], hmm⟩))
        go_wp2
        go_roundw
        case rel => exact ⟨k + 1, by go_num, by omega, by rw [HK.out], by (repeat (first | with_reducible exact Below.refl _ _ | with_reducible refine below_alloc ?_ _ | with_reducible refine below_drewN ?_ _ | with_reducible refine Below.drew ?_ | ((with_reducible refine below_set ?_ ?_ _); rotate_left; (focus (first | (simp; done) | (simp; omega) | omega))) | with_reducible refine below_call ?_ (by assumption)))⟩
        case measure => simp [intOf]; omega
      · have HK := Lib.hid (hq2 hm)
        clear hq1 hq2
        go_wp2
        go_roundw
        case rel => exact ⟨k + 1, by go_num, by omega, by rw [HK.out], by (repeat (first | with_reducible exact Below.refl _ _ | with_reducible refine below_alloc ?_ _ | with_reducible refine below_drewN ?_ _ | with_reducible refine Below.drew ?_ | ((with_reducible refine below_set ?_ ?_ _); rotate_left; (focus (first | (simp; done) | (simp; omega) | omega))) | with_reducible refine below_call ?_ (by assumption)))⟩
        case measure => simp [intOf]; omega
    · have HE2 := Lib.hid (show k = n' by omega)
      go_wp2
      go_ret
      exact ⟨by rw [HE2.out]; rfl, hb⟩
end Go.Proofs.Ythjldjbblaioaaa
