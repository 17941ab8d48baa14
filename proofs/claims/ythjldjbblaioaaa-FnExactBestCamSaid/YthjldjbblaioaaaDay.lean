/- Contracts of the days of a month, the program's and the reference's, and of what is a year. No conditions but that each rule's cycle is from 1 to 1000 years. -/
import Derived.Test.YthjldjbblaioaaaValid
namespace Go.Proofs.Ythjldjbblaioaaa
open Go.RowKit
set_option linter.unusedVariables false
set_option linter.unusedSimpArgs false
/-- the days of a month in a common year or in a leap year -/
def dayB (ms : List Mth) (b : Bool) (m : Int) : Int := if b then (ms.getD (m - 1).toNat m0).lp else (ms.getD (m - 1).toNat m0).dy
/-- the days of a month of a year -/
def dayK (ms : List Mth) (rs : List Rul) (n' : Nat) (y m : Int) : Int := dayB ms (leapK rs y n') m
theorem to_k {m : Int} {n : Nat} (h1 : 1 ≤ m) (h2 : m ≤ n) : ∃ k : Nat, m = (k : Int) + 1 ∧ k < n := ⟨(m - 1).toNat, by omega, by omega⟩
theorem dayB_k (ms : List Mth) (b : Bool) (k : Nat) : dayB ms b ((k : Int) + 1) = if b then (ms.getD k m0).lp else (ms.getD k m0).dy := by
  unfold dayB; rw [show ((k : Int) + 1 - 1).toNat = k by omega]
set_option maxHeartbeats 1000000 in
theorem daysOfMonth_k (nm : ByteArray) (A A' : Option Addr) (n n' c c' B k : Nat) (ms : List Mth) (we : Int) (b : Bool) (w : World) (h : Months w B A n ms) (hB : B ≤ w.heap.size) (hn : n ≤ 9223372036854775806) (hk : k < n) :
    Calls Try.prog 100 #[.agg #[.string nm, .slice A n c, .slice A' n' c', .int .i64 we], .bool b, .int .i64 ((k : Int) + 1)] w fun e w' => e = .returned (.int .i64 (dayB ms b ((k : Int) + 1))) ∧ Below w.heap.size w w' := by
  rw [dayB_k]
  obtain ⟨g, off, rfl, hbl, c1, c2, c3⟩ := Months.at_ (Tri.alloc h hB (.cells #[.string nm, .slice A n c, .slice A' n' c', .int .i64 we] 27)) hk
  obtain ⟨m, hm⟩ : ∃ m, ms.getD k m0 = m := ⟨_, rfl⟩
  rw [hm] at c1 c2 c3
  rw [hm]
  have i0 : (0 : Int) ≤ (k : Int) := Int.natCast_nonneg _
  have i1 : (k : Int) < (n : Int) := by omega
  have s1 : (k : Int) + 1 - 1 = (k : Int) := by omega
  clear h hm
  cases b
  · go_enter Try.func100, Try.ntmps100
    go_wp2
    go_ret
    exact ⟨rfl, by (repeat (first | with_reducible exact Below.refl _ _ | with_reducible refine below_alloc ?_ _ | with_reducible refine below_drewN ?_ _ | with_reducible refine Below.drew ?_ | ((with_reducible refine below_set ?_ ?_ _); rotate_left; (focus (first | (simp; done) | (simp; omega) | omega))) | with_reducible refine below_call ?_ (by assumption)))⟩
  · go_enter Try.func100, Try.ntmps100
    go_wp2
    go_ret
    exact ⟨rfl, by (repeat (first | with_reducible exact Below.refl _ _ | with_reducible refine below_alloc ?_ _ | with_reducible refine below_drewN ?_ _ | with_reducible refine Below.drew ?_ | ((with_reducible refine below_set ?_ ?_ _); rotate_left; (focus (first | (simp; done) | (simp; omega) | omega))) | with_reducible refine below_call ?_ (by assumption)))⟩
theorem daysOfMonth_any (nm : ByteArray) (A A' : Option Addr) (n n' c c' B : Nat) (ms : List Mth) (we : Int) (b : Bool) (m : Int) (w : World) (h : Months w B A n ms) (hB : B ≤ w.heap.size) (hn : n ≤ 9223372036854775806) (h1 : 1 ≤ m) (h2 : m ≤ n) :
    Calls Try.prog 100 #[.agg #[.string nm, .slice A n c, .slice A' n' c', .int .i64 we], .bool b, .int .i64 m] w fun e w' => e = .returned (.int .i64 (dayB ms b m)) ∧ Below w.heap.size w w' := by
  obtain ⟨k, rfl, hk⟩ := to_k h1 h2
  exact daysOfMonth_k nm A A' n n' c c' B k ms we b w h hB hn hk
theorem isYear_any (y : Int) (w : World) : Calls Try.prog 47 #[.int .i64 y] w fun e w' => e = .returned (.bool (inB y 0 9999)) ∧ w = w' := by
  go_enter Try.func47, Try.ntmps47
  go_wp2_with (go_at_call 43; refine (within_any _ _ _ _).mono ?_; rintro e w' ⟨rfl, rfl⟩)
  go_ret
  exact ⟨rfl, rfl⟩
theorem l15Year_any (y : Int) (w : World) : Calls Try.prog 80 #[.int .i64 y] w fun e w' => e = .returned (.bool (inB y 0 9999)) ∧ w = w' := by
  go_enter Try.func80, Try.ntmps80
  go_wp2_with (go_at_call 81; refine (l00In_any _ _ _ _).mono ?_; rintro e w' ⟨rfl, rfl⟩)
  go_ret
  exact ⟨rfl, rfl⟩
set_option maxHeartbeats 1000000 in
theorem isMonth_any (nm : ByteArray) (A A' : Option Addr) (n n' c c' : Nat) (we m : Int) (w : World) : Calls Try.prog 99 #[.agg #[.string nm, .slice A n c, .slice A' n' c', .int .i64 we], .int .i64 m] w fun e w' => e = .returned (.bool (inB m 1 n)) ∧ Below w.heap.size w w' := by
  go_enter Try.func99, Try.ntmps99
  go_wp2_with (go_at_call 43; refine (within_any _ _ _ _).mono ?_; rintro e w' ⟨rfl, rfl⟩)
  go_ret
  exact ⟨rfl, by (repeat (first | with_reducible exact Below.refl _ _ | with_reducible refine below_alloc ?_ _ | with_reducible refine below_drewN ?_ _ | with_reducible refine Below.drew ?_ | ((with_reducible refine below_set ?_ ?_ _); rotate_left; (focus (first | (simp; done) | (simp; omega) | omega))) | with_reducible refine below_call ?_ (by assumption)))⟩
set_option maxHeartbeats 2000000 in
theorem l15Leap_q (g : Nat) (A' : Option Addr) (n' c' B : Nat) (rs : List Rul) (y : Int) (w : World) (hg : g < w.heap.size) (hc : w.cell? ⟨g, 2, none⟩ = some (.slice A' n' c')) (h' : Rules w B A' n' rs) (hB : B ≤ w.heap.size) (hn' : n' ≤ 9223372036854775807) (hev : ∀ j, j < n' → 1 ≤ (rs.getD j r0).ev) (hy0 : 0 ≤ y) (hy1 : y ≤ 1000000000000) :
    Calls Try.prog 111 #[.pointer (some ⟨g, 0, none⟩), .int .i64 y] w fun e w' => e = .returned (.bool (leapK rs y n')) ∧ ∃ q, w' = w.drewN q := by
  have H := Lib.hid (Tri.more h' hB)
  have HE := Lib.hid hev
  have HC := Lib.hid hc
  clear h' hev hc
  go_enter Try.func111, Try.ntmps111
  go_wp2
  go_loopw [5, 6] (fun l t wr => ∃ k : Nat, t = .int .i64 k ∧ k ≤ n' ∧ l = .bool (leapK rs y k) ∧ Below w.heap.size w wr ∧ Hid (∃ q, wr = w.drewN q)) (fun _ t _ => n' - (intOf t).toNat)
  case atStart => exact ⟨0, rfl, Nat.zero_le _, rfl, Below.refl _ _, Lib.hid ⟨0, by first | rfl | simp [World.drewN]⟩⟩
  case round =>
    obtain ⟨k, rfl, hk, rfl, hb, HQ⟩ := hrel
    have i0 : (0 : Int) ≤ (k : Int) := Int.natCast_nonneg _
    have hc := cell_call hb (p := ⟨g, 2, none⟩) (by simpa using hg) HC.out
    by_cases hlt : k < n'
    · have i1 : (k : Int) < (n' : Int) := by omega
      obtain ⟨b, off, rfl, hbl, c1, c2, c3⟩ := Rules.at_ (Tri.below H.out hb) hlt
      have he := HE.out k hlt
      have hq1 := @leapK_hit rs y k
      have hq2 := @leapK_miss rs y k
      obtain ⟨r, hr⟩ : ∃ r, rs.getD k r0 = r := ⟨_, rfl⟩
      rw [hr] at c1 c2 c3 he hq1 hq2
      obtain ⟨x2, x0, x1⟩ := mod_small hy0 hy1 he
      have e0 : ¬ (r.ev = 0) := by omega
      have r1 : IntKind.i64.wrap (y % r.ev) = y % r.ev := IntWalk.i64_in _ (by omega)
      clear hr
      by_cases hm : y % r.ev = r.rs
      · have HK := Lib.hid (hq1 hm)
        have m1 : (y % r.ev == r.rs) = true := by simpa using hm
        clear hq1 hq2
        go_wp2
        go_quiet (fail)
        go_wp2
        go_roundw
        case rel => exact ⟨k + 1, by go_num, by omega, by rw [HK.out], by (repeat (first | with_reducible exact Below.refl _ _ | with_reducible refine below_alloc ?_ _ | with_reducible refine below_drewN ?_ _ | with_reducible refine Below.drew ?_ | ((with_reducible refine below_set ?_ ?_ _); rotate_left; (focus (first | (simp; done) | (simp; omega) | omega))) | with_reducible refine below_call ?_ (by assumption))), Lib.hid (by obtain ⟨q, e⟩ := HQ.out; subst e; exact drewN_two _ _ _)⟩
        case measure => simp [intOf]; omega
      · have HK := Lib.hid (hq2 hm)
        have m1 : (y % r.ev == r.rs) = false := by simpa using hm
        clear hq1 hq2
        go_wp2
        go_quiet (fail)
        go_wp2
        go_roundw
        case rel => exact ⟨k + 1, by go_num, by omega, by rw [HK.out], by (repeat (first | with_reducible exact Below.refl _ _ | with_reducible refine below_alloc ?_ _ | with_reducible refine below_drewN ?_ _ | with_reducible refine Below.drew ?_ | ((with_reducible refine below_set ?_ ?_ _); rotate_left; (focus (first | (simp; done) | (simp; omega) | omega))) | with_reducible refine below_call ?_ (by assumption))), Lib.hid (by obtain ⟨q, e⟩ := HQ.out; subst e; exact drewN_two _ _ _)⟩
        case measure => simp [intOf]; omega
    · have HE2 := Lib.hid (show k = n' by omega)
      go_wp2
      go_ret
      exact ⟨by rw [HE2.out]; rfl, HQ.out⟩
set_option maxHeartbeats 1000000 in
theorem l15Days_k (g : Nat) (A A' : Option Addr) (n n' c c' B k : Nat) (ms : List Mth) (rs : List Rul) (y : Int) (w : World) (hg : g < w.heap.size) (hc1 : w.cell? ⟨g, 1, none⟩ = some (.slice A n c)) (hc : w.cell? ⟨g, 2, none⟩ = some (.slice A' n' c')) (h : Months w B A n ms) (h' : Rules w B A' n' rs) (hB : B ≤ w.heap.size) (hn : n ≤ 9223372036854775806) (hn' : n' ≤ 9223372036854775807) (hev : ∀ j, j < n' → 1 ≤ (rs.getD j r0).ev) (hy0 : 0 ≤ y) (hy1 : y ≤ 1000000000000) (hk : k < n) :
    Calls Try.prog 82 #[.pointer (some ⟨g, 0, none⟩), .int .i64 y, .int .i64 (k : Int)] w fun e w' => e = .returned (.int .i64 (dayK ms rs n' y ((k : Int) + 1))) ∧ ∃ q, w' = w.drewN q := by
  unfold dayK
  rw [dayB_k]
  obtain ⟨g2, off, rfl, hbl, c1, c2, c3⟩ := Months.at_ h hk
  obtain ⟨m, hm⟩ : ∃ m, ms.getD k m0 = m := ⟨_, rfl⟩
  rw [hm] at c1 c2 c3
  rw [hm]
  have i0 : (0 : Int) ≤ (k : Int) := Int.natCast_nonneg _
  have i1 : (k : Int) < (n : Int) := by omega
  have cL := l15Leap_q g A' n' c' B rs y w hg hc h' hB hn' hev hy0 hy1
  clear h hm h' hev
  cases hl : leapK rs y n'
  · rw [hl] at cL
    have CL := Lib.hid cL
    clear cL hl
    go_enter Try.func82, Try.ntmps82
    go_wp2_with (first | (go_at_call 111; refine CL.out.mono ?_; rintro e w' ⟨rfl, nq, rfl⟩) | fail)
    go_ret
    exact ⟨rfl, nq, rfl⟩
  · rw [hl] at cL
    have CL := Lib.hid cL
    clear cL hl
    go_enter Try.func82, Try.ntmps82
    go_wp2_with (first | (go_at_call 111; refine CL.out.mono ?_; rintro e w' ⟨rfl, nq, rfl⟩) | fail)
    go_ret
    exact ⟨rfl, nq, rfl⟩
theorem l15Days_any (g : Nat) (A A' : Option Addr) (n n' c c' B : Nat) (ms : List Mth) (rs : List Rul) (y i m : Int) (w : World) (hg : g < w.heap.size) (hc1 : w.cell? ⟨g, 1, none⟩ = some (.slice A n c)) (hc : w.cell? ⟨g, 2, none⟩ = some (.slice A' n' c')) (h : Months w B A n ms) (h' : Rules w B A' n' rs) (hB : B ≤ w.heap.size) (hn : n ≤ 9223372036854775806) (hn' : n' ≤ 9223372036854775807) (hev : ∀ j, j < n' → 1 ≤ (rs.getD j r0).ev) (hy0 : 0 ≤ y) (hy1 : y ≤ 1000000000000) (hi : i = m - 1) (h1 : 1 ≤ m) (h2 : m ≤ n) :
    Calls Try.prog 82 #[.pointer (some ⟨g, 0, none⟩), .int .i64 y, .int .i64 i] w fun e w' => e = .returned (.int .i64 (dayK ms rs n' y m)) ∧ ∃ q, w' = w.drewN q := by
  obtain ⟨k, rfl, hk⟩ := to_k h1 h2
  obtain rfl : i = (k : Int) := by omega
  exact l15Days_k g A A' n n' c c' B k ms rs y w hg hc1 hc h h' hB hn hn' hev hy0 hy1 hk
end Go.Proofs.Ythjldjbblaioaaa
