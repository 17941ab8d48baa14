/- Contracts of what is a leap year, the program's and the reference's. No conditions but that each rule's cycle is from 1 to 1000 years. -/
import Derived.Test.YthjldjbblaioaaaName2
import Derived.BigQuiet
namespace Go.Proofs.Ythjldjbblaioaaa
open Go.RowKit
set_option linter.unusedVariables false
set_option linter.unusedSimpArgs false
/-- the last of the first k rules that meets a year says it -/
def leapK (rs : List Rul) (y : Int) : Nat → Bool
  | 0 => false
  | k + 1 => if y % (rs.getD k r0).ev = (rs.getD k r0).rs then (rs.getD k r0).lp else leapK rs y k
theorem leapK_hit {rs : List Rul} {y : Int} {k : Nat} (h : y % (rs.getD k r0).ev = (rs.getD k r0).rs) : leapK rs y (k + 1) = (rs.getD k r0).lp := by rw [leapK, if_pos h]
theorem leapK_miss {rs : List Rul} {y : Int} {k : Nat} (h : ¬ (y % (rs.getD k r0).ev = (rs.getD k r0).rs)) : leapK rs y (k + 1) = leapK rs y k := by rw [leapK, if_neg h]
theorem mod_small {y e : Int} (h0 : 0 ≤ y) (h1 : y ≤ 1000000000000) (he : 1 ≤ e) : y.tmod e = y % e ∧ 0 ≤ y % e ∧ y % e ≤ 1000000000000 := by
  have h2 := Int.emod_nonneg y (show e ≠ 0 by omega)
  have h4 : y % e ≤ y := by
    have h5 := Int.emod_add_mul_ediv y e
    have h6 : 0 ≤ e * (y / e) := Int.mul_nonneg (by omega) (Int.ediv_nonneg h0 (by omega))
    omega
  exact ⟨Int.tmod_eq_emod_of_nonneg h0, h2, by omega⟩
set_option maxHeartbeats 1000000 in
theorem isLeap_any (nm : ByteArray) (A A' : Option Addr) (n n' c c' B : Nat) (rs : List Rul) (we y : Int) (w : World) (h' : Rules w B A' n' rs) (hB : B ≤ w.heap.size) (hn' : n' ≤ 9223372036854775807) (hev : ∀ j, j < n' → 1 ≤ (rs.getD j r0).ev) (hy0 : 0 ≤ y) (hy1 : y ≤ 1000000000000) :
    Calls Try.prog 66 #[.agg #[.string nm, .slice A n c, .slice A' n' c', .int .i64 we], .int .i64 y] w fun e w' => e = .returned (.bool (leapK rs y n')) ∧ Below w.heap.size w w' := by
  have H := Lib.hid (Tri.more h' hB)
  have HE := Lib.hid hev
  clear h' hev
  go_enter Try.func66, Try.ntmps66
  go_wp2
  go_loopw [5, 7, 11] (fun l _ t wr => ∃ k : Nat, t = .int .i64 k ∧ k ≤ n' ∧ l = .bool (leapK rs y k) ∧ Below w.heap.size w wr) (fun _ _ t _ => n' - (intOf t).toNat)
  case atStart => exact ⟨0, rfl, Nat.zero_le _, rfl, by (repeat (first | with_reducible exact Below.refl _ _ | with_reducible refine below_alloc ?_ _ | with_reducible refine below_drewN ?_ _ | with_reducible refine Below.drew ?_ | ((with_reducible refine below_set ?_ ?_ _); rotate_left; (focus (first | (simp; done) | (simp; omega) | omega))) | with_reducible refine below_call ?_ (by assumption)))⟩
  case round =>
    obtain ⟨k, rfl, hk, rfl, hb⟩ := hrel
    have i0 : (0 : Int) ≤ (k : Int) := Int.natCast_nonneg _
    by_cases hlt : k < n'
    · have i1 : (k : Int) < (n' : Int) := by omega
      obtain ⟨b, off, rfl, hbl, c1, c2, c3⟩ := Rules.at_ (Tri.below H.out hb) hlt
      have he := HE.out k hlt
      have hq1 := @leapK_hit rs y k
      have hq2 := @leapK_miss rs y k
      obtain ⟨r, hr⟩ : ∃ r, rs.getD k r0 = r := ⟨_, rfl⟩
      rw [hr] at c1 c2 c3 he hq1 hq2
      obtain ⟨x2, x0, x1⟩ := mod_small hy0 hy1 he
      have e0 : ¬ (r.ev = 0) := by omega
      have r1 : IntKind.i64.wrap (y % r.ev) = y % r.ev := IntWalk.i64_in _ (by omega)
      clear hr
      by_cases hm : y % r.ev = r.rs
      · have HK := Lib.hid (hq1 hm)
        have m1 : (y % r.ev == r.rs) = true := by simpa using hm
        clear hq1 hq2
        go_wp2
        go_quiet (fail)
        go_wp2
        go_roundw
        case rel => exact ⟨k + 1, by go_num, by omega, by rw [HK.out], by (repeat (first | with_reducible exact Below.refl _ _ | with_reducible refine below_alloc ?_ _ | with_reducible refine below_drewN ?_ _ | with_reducible refine Below.drew ?_ | ((with_reducible refine below_set ?_ ?_ _); rotate_left; (focus (first | (simp; done) | (simp; omega) | omega))) | with_reducible refine below_call ?_ (by assumption)))⟩
        case measure => simp [intOf]; omega
      · have HK := Lib.hid (hq2 hm)
        have m1 : (y % r.ev == r.rs) = false := by simpa using hm
        clear hq1 hq2
        go_wp2
        go_quiet (fail)
        go_wp2
        go_roundw
        case rel => exact ⟨k + 1, by go_num, by omega, by rw [HK.out], by (repeat (first | with_reducible exact Below.refl _ _ | with_reducible refine below_alloc ?_ _ | with_reducible refine below_drewN ?_ _ | with_reducible refine Below.drew ?_ | ((with_reducible refine below_set ?_ ?_ _); rotate_left; (focus (first | (simp; done) | (simp; omega) | omega))) | with_reducible refine below_call ?_ (by assumption)))⟩
        case measure => simp [intOf]; omega
    · have HE2 := Lib.hid (show k = n' by omega)
      go_wp2
      go_ret
      exact ⟨by rw [HE2.out]; rfl, hb⟩
set_option maxHeartbeats 2000000 in
theorem l15Leap_any (g : Nat) (A' : Option Addr) (n' c' B : Nat) (rs : List Rul) (y : Int) (w : World) (hg : g < w.heap.size) (hc : w.cell? ⟨g, 2, none⟩ = some (.slice A' n' c')) (h' : Rules w B A' n' rs) (hB : B ≤ w.heap.size) (hn' : n' ≤ 9223372036854775807) (hev : ∀ j, j < n' → 1 ≤ (rs.getD j r0).ev) (hy0 : 0 ≤ y) (hy1 : y ≤ 1000000000000) :
    Calls Try.prog 111 #[.pointer (some ⟨g, 0, none⟩), .int .i64 y] w fun e w' => e = .returned (.bool (leapK rs y n')) ∧ Below w.heap.size w w' := by
  have H := Lib.hid (Tri.more h' hB)
  have HE := Lib.hid hev
  have HC := Lib.hid hc
  clear h' hev hc
  go_enter Try.func111, Try.ntmps111
  go_wp2
  go_loopw [5, 6] (fun l t wr => ∃ k : Nat, t = .int .i64 k ∧ k ≤ n' ∧ l = .bool (leapK rs y k) ∧ Below w.heap.size w wr) (fun _ t _ => n' - (intOf t).toNat)
  case atStart => exact ⟨0, rfl, Nat.zero_le _, rfl, Below.refl _ _⟩
  case round =>
    obtain ⟨k, rfl, hk, rfl, hb⟩ := hrel
    have i0 : (0 : Int) ≤ (k : Int) := Int.natCast_nonneg _
    have hc := cell_call hb (p := ⟨g, 2, none⟩) (by simpa using hg) HC.out
    by_cases hlt : k < n'
    · have i1 : (k : Int) < (n' : Int) := by omega
      obtain ⟨b, off, rfl, hbl, c1, c2, c3⟩ := Rules.at_ (Tri.below H.out hb) hlt
      have he := HE.out k hlt
      have hq1 := @leapK_hit rs y k
      have hq2 := @leapK_miss rs y k
      obtain ⟨r, hr⟩ : ∃ r, rs.getD k r0 = r := ⟨_, rfl⟩
      rw [hr] at c1 c2 c3 he hq1 hq2
      obtain ⟨x2, x0, x1⟩ := mod_small hy0 hy1 he
      have e0 : ¬ (r.ev = 0) := by omega
      have r1 : IntKind.i64.wrap (y % r.ev) = y % r.ev := IntWalk.i64_in _ (by omega)
      clear hr
      by_cases hm : y % r.ev = r.rs
      · have HK := Lib.hid (hq1 hm)
        have m1 : (y % r.ev == r.rs) = true := by simpa using hm
        clear hq1 hq2
        go_wp2
        go_quiet (fail)
        go_wp2
        go_roundw
        case rel => exact ⟨k + 1, by go_num, by omega, by rw [HK.out], by (repeat (first | with_reducible exact Below.refl _ _ | with_reducible refine below_alloc ?_ _ | with_reducible refine below_drewN ?_ _ | with_reducible refine Below.drew ?_ | ((with_reducible refine below_set ?_ ?_ _); rotate_left; (focus (first | (simp; done) | (simp; omega) | omega))) | with_reducible refine below_call ?_ (by assumption)))⟩
        case measure => simp [intOf]; omega
      · have HK := Lib.hid (hq2 hm)
        have m1 : (y % r.ev == r.rs) = false := by simpa using hm
        clear hq1 hq2
        go_wp2
        go_quiet (fail)
        go_wp2
        go_roundw
        case rel => exact ⟨k + 1, by go_num, by omega, by rw [HK.out], by (repeat (first | with_reducible exact Below.refl _ _ | with_reducible refine below_alloc ?_ _ | with_reducible refine below_drewN ?_ _ | with_reducible refine Below.drew ?_ | ((with_reducible refine below_set ?_ ?_ _); rotate_left; (focus (first | (simp; done) | (simp; omega) | omega))) | with_reducible refine below_call ?_ (by assumption)))⟩
        case measure => simp [intOf]; omega
    · have HE2 := Lib.hid (show k = n' by omega)
      go_wp2
      go_ret
      exact ⟨by rw [HE2.out]; rfl, hb⟩
end Go.Proofs.Ythjldjbblaioaaa
