/- Contracts of what is asked of a calendar and a cam, the program's and the reference's. No conditions but that there are at most 2^20 months, rules and levels. -/
import Derived.Test.YthjldjbblaioaaaCalKit
namespace Go.Proofs.Ythjldjbblaioaaa
open Go.RowKit
set_option linter.unusedVariables false
set_option linter.unusedSimpArgs false
/-- the years of a cam, 0 if it does not belong to the calendar -/
def belV (l n : Nat) : Int := if l % n = 0 then ((l / n : Nat) : Int) else 0
theorem belV_yes {l n : Nat} (h : l % n = 0) : belV l n = ((l / n : Nat) : Int) := by rw [belV, if_pos h]
theorem belV_no {l n : Nat} (h : ¬ (l % n = 0)) : belV l n = 0 := by rw [belV, if_neg h]
theorem nat_tmod (l n : Nat) : (l : Int).tmod (n : Int) = ((l % n : Nat) : Int) := by rw [Int.tmod_eq_emod_of_nonneg (Int.natCast_nonneg l)]; exact (Int.natCast_emod l n).symm
theorem nat_tdiv (l n : Nat) : (l : Int).tdiv (n : Int) = ((l / n : Nat) : Int) := by rw [Int.tdiv_eq_ediv_of_nonneg (Int.natCast_nonneg l)]; exact (Int.natCast_ediv l n).symm
set_option maxHeartbeats 1000000 in
theorem belongs_any (nm : ByteArray) (A A' L : Option Addr) (n n' c c' l e : Nat) (cw : Int) (w : World) (hn : 1 ≤ n) (hn2 : n ≤ 1048576) (hl : l ≤ 1048576) :
    Calls Try.prog 116 #[.agg #[.string nm, .slice A n c, .slice A' n' c', .int .i64 cw], .slice L l e] w fun e w' => e = .returned (.int .i64 (belV l n)) ∧ Below w.heap.size w w' := by
  have t1 := nat_tmod l n
  have t2 := nat_tdiv l n
  have n0 : ¬ ((n : Int) = 0) := by omega
  have n1 : ((n : Int) == 0) = false := by rw [beq_eq_false_iff_ne]; omega
  have q1 : l / n ≤ l := Nat.div_le_self l n
  have q2 : l % n ≤ l := Nat.mod_le l n
  by_cases h : l % n = 0
  · rw [belV_yes h]
    rw [h] at t1
    obtain ⟨q, hq⟩ : ∃ q, l / n = q := ⟨_, rfl⟩
    rw [hq] at t2 q1
    rw [hq]
    have r1 : IntKind.i64.wrap (q : Int) = (q : Int) := IntWalk.i64_in _ (by omega)
    clear hq h q2
    go_enter Try.func116, Try.ntmps116
    go_wp2
    go_ret
    exact ⟨rfl, by (repeat (first | with_reducible exact Below.refl _ _ | with_reducible refine below_alloc ?_ _ | with_reducible refine below_drewN ?_ _ | with_reducible refine Below.drew ?_ | ((with_reducible refine below_set ?_ ?_ _); rotate_left; (focus (first | (simp; done) | (simp; omega) | omega))) | with_reducible refine below_call ?_ (by assumption)))⟩
  · rw [belV_no h]
    obtain ⟨q, hq⟩ : ∃ q, l % n = q := ⟨_, rfl⟩
    rw [hq] at t1 h q2
    have h2 : ¬ ((q : Int) = 0) := by omega
    have h3 : ((q : Int) != 0) = true := by simpa using h2
    have r1 : IntKind.i64.wrap (q : Int) = (q : Int) := IntWalk.i64_in _ (by omega)
    clear hq t2 q1 h
    go_enter Try.func116, Try.ntmps116
    go_wp2
    go_ret
    exact ⟨rfl, by (repeat (first | with_reducible exact Below.refl _ _ | with_reducible refine below_alloc ?_ _ | with_reducible refine below_drewN ?_ _ | with_reducible refine Below.drew ?_ | ((with_reducible refine below_set ?_ ?_ _); rotate_left; (focus (first | (simp; done) | (simp; omega) | omega))) | with_reducible refine below_call ?_ (by assumption)))⟩
/-- the code of a calendar and a cam -/
def askV (nm : ByteArray) (n n' : Nat) (ms : List Mth) (rs : List Rul) (cw : Int) (zs : List Int) (l : Nat) : Int := if vCal nm n n' ms rs cw && vCam zs then if l % n = 0 then 0 else 6 else 1
theorem ask_bad {nm : ByteArray} {n n' : Nat} {ms : List Mth} {rs : List Rul} {cw : Int} {zs : List Int} {l : Nat} (h : (vCal nm n n' ms rs cw && vCam zs) = false) : askV nm n n' ms rs cw zs l = 1 := by rw [askV, h]; rfl
theorem ask_good {nm : ByteArray} {n n' : Nat} {ms : List Mth} {rs : List Rul} {cw : Int} {zs : List Int} {l : Nat} (h : vCal nm n n' ms rs cw = true) (h2 : vCam zs = true) : askV nm n n' ms rs cw zs l = if l % n = 0 then 0 else 6 := by rw [askV, h, h2]; rfl
theorem ask_yes {nm : ByteArray} {n n' : Nat} {ms : List Mth} {rs : List Rul} {cw : Int} {zs : List Int} {l : Nat} (h : askV nm n n' ms rs cw zs l = 0) : vCal nm n n' ms rs cw = true ∧ vCam zs = true ∧ l % n = 0 := by
  unfold askV at h
  split at h
  · rename_i h1
    rw [Bool.and_eq_true] at h1
    split at h
    · exact ⟨h1.1, h1.2, by assumption⟩
    · simp at h
  · simp at h
theorem ask_cases (nm : ByteArray) (n n' : Nat) (ms : List Mth) (rs : List Rul) (cw : Int) (zs : List Int) (l : Nat) : askV nm n n' ms rs cw zs l = 0 ∨ askV nm n n' ms rs cw zs l = 1 ∨ askV nm n n' ms rs cw zs l = 6 := by
  unfold askV
  split
  · split <;> simp
  · simp
set_option maxHeartbeats 2000000 in
theorem askedCam_any (nm : ByteArray) (A A' L : Option Addr) (n n' c c' l e B : Nat) (ms : List Mth) (rs : List Rul) (cw : Int) (zs : List Int) (w : World) (h : Months w B A n ms) (h' : Rules w B A' n' rs) (hI : Ints w B L l zs) (hB : B ≤ w.heap.size) (hn : n ≤ c) (hc : c ≤ 1048576) (hn' : n' ≤ 1048576) (hl : l ≤ 1048576) :
    Calls Try.prog 78 #[.agg #[.string nm, .slice A n c, .slice A' n' c', .int .i64 cw], .slice L l e] w fun e w' => e = .returned (.int .i64 (askV nm n n' ms rs cw zs l)) ∧ Below w.heap.size w w' := by
  have H := Lib.hid (Tri.more h hB)
  have H' := Lib.hid (Tri.more h' hB)
  have HI := Lib.hid (hI.more hB)
  clear h h' hI
  have cV := fun (W : World) (hb : Below w.heap.size w W) => ValidCalendar_any nm A A' n n' c c' w.heap.size ms rs cw W (Tri.below H.out hb) (Tri.below H'.out hb) hb.size hn (by omega) (by omega)
  cases v1 : vCal nm n n' ms rs cw
  · have HV := Lib.hid (ask_bad (zs := zs) (l := l) (show (vCal nm n n' ms rs cw && vCam zs) = false by rw [v1]; rfl))
    rw [v1] at cV
    have CV := Lib.hid cV
    clear cV v1
    go_enter Try.func78, Try.ntmps78
    go_wp2_with (first | (go_at_call 40; refine (CV.out _ (by (repeat (first | with_reducible exact Below.refl _ _ | with_reducible refine below_alloc ?_ _ | with_reducible refine below_drewN ?_ _ | with_reducible refine Below.drew ?_ | ((with_reducible refine below_set ?_ ?_ _); rotate_left; (focus (first | (simp; done) | (simp; omega) | omega))) | with_reducible refine below_call ?_ (by assumption))))).mono ?_; rintro e1 w1 ⟨rfl, hb1⟩; have HB1 : Hid (Below w.heap.size w w1) := Lib.hid (by (repeat (first | with_reducible exact Below.refl _ _ | with_reducible refine below_alloc ?_ _ | with_reducible refine below_drewN ?_ _ | with_reducible refine Below.drew ?_ | ((with_reducible refine below_set ?_ ?_ _); rotate_left; (focus (first | (simp; done) | (simp; omega) | omega))) | with_reducible refine below_call ?_ (by assumption)))); obtain ⟨-, u0, u1, u2, u3⟩ := (cal_new w 27 nm A A' n n' c c' cw).call hb1; clear hb1) | fail)
    go_ret
    exact ⟨by rw [HV.out]; rfl, HB1.out⟩
  rw [v1] at cV
  have CV := Lib.hid cV
  have cC := fun (W : World) (hb : Below w.heap.size w W) => ValidCam_any L l e w.heap.size zs W (Ints.below HI.out hb) hl
  cases v2 : vCam zs
  · have HV := Lib.hid (ask_bad (zs := zs) (l := l) (show (vCal nm n n' ms rs cw && vCam zs) = false by rw [v1, v2]; rfl))
    rw [v2] at cC
    have CC := Lib.hid cC
    clear cV cC v1 v2
    go_enter Try.func78, Try.ntmps78
    go_wp2_with (first | (go_at_call 40; refine (CV.out _ (by (repeat (first | with_reducible exact Below.refl _ _ | with_reducible refine below_alloc ?_ _ | with_reducible refine below_drewN ?_ _ | with_reducible refine Below.drew ?_ | ((with_reducible refine below_set ?_ ?_ _); rotate_left; (focus (first | (simp; done) | (simp; omega) | omega))) | with_reducible refine below_call ?_ (by assumption))))).mono ?_; rintro e1 w1 ⟨rfl, hb1⟩; have HB1 : Hid (Below w.heap.size w w1) := Lib.hid (by (repeat (first | with_reducible exact Below.refl _ _ | with_reducible refine below_alloc ?_ _ | with_reducible refine below_drewN ?_ _ | with_reducible refine Below.drew ?_ | ((with_reducible refine below_set ?_ ?_ _); rotate_left; (focus (first | (simp; done) | (simp; omega) | omega))) | with_reducible refine below_call ?_ (by assumption)))); obtain ⟨-, u0, u1, u2, u3⟩ := (cal_new w 27 nm A A' n n' c c' cw).call hb1; clear hb1) | (go_at_call 83; refine (CC.out _ HB1.out).mono ?_; rintro e1 w2 ⟨rfl, rfl⟩) | fail)
    go_ret
    exact ⟨by rw [HV.out]; rfl, HB1.out⟩
  rw [v2] at cC
  have CC := Lib.hid cC
  obtain ⟨_, _, _, _, ⟨n1, n2⟩, _⟩ := vCal_yes v1
  have hv := ask_good (l := l) v1 v2
  have l1 := (vCam_yes v2).2.1
  rw [HI.out.len] at l1
  have cB := fun (W : World) => belongs_any nm A A' L n n' c c' l e cw W n1 (by omega) hl
  by_cases h : l % n = 0
  · rw [if_pos h] at hv
    have hq : ¬ (((l / n : Nat) : Int) = 0) := by
      have h1 := Nat.div_add_mod l n
      rw [h] at h1
      intro e0
      have e1 : l / n = 0 := Int.ofNat.inj e0
      rw [e1, Nat.mul_zero] at h1
      omega
    rw [belV_yes h] at cB
    generalize ((l / n : Nat) : Int) = q at *
    have hq2 : (q == 0) = false := by simpa using hq
    have CB := Lib.hid cB
    have HV := Lib.hid hv
    clear cV cC cB v1 v2 hv h
    go_enter Try.func78, Try.ntmps78
    go_wp2_with (first | (go_at_call 40; refine (CV.out _ (by (repeat (first | with_reducible exact Below.refl _ _ | with_reducible refine below_alloc ?_ _ | with_reducible refine below_drewN ?_ _ | with_reducible refine Below.drew ?_ | ((with_reducible refine below_set ?_ ?_ _); rotate_left; (focus (first | (simp; done) | (simp; omega) | omega))) | with_reducible refine below_call ?_ (by assumption))))).mono ?_; rintro e1 w1 ⟨rfl, hb1⟩; have HB1 : Hid (Below w.heap.size w w1) := Lib.hid (by (repeat (first | with_reducible exact Below.refl _ _ | with_reducible refine below_alloc ?_ _ | with_reducible refine below_drewN ?_ _ | with_reducible refine Below.drew ?_ | ((with_reducible refine below_set ?_ ?_ _); rotate_left; (focus (first | (simp; done) | (simp; omega) | omega))) | with_reducible refine below_call ?_ (by assumption)))); obtain ⟨-, u0, u1, u2, u3⟩ := (cal_new w 27 nm A A' n n' c c' cw).call hb1; clear hb1) | (go_at_call 83; refine (CC.out _ HB1.out).mono ?_; rintro e1 w2 ⟨rfl, rfl⟩) | (go_at_call 116; refine (CB.out _).mono ?_; rintro e1 w3 ⟨rfl, hb3⟩; have HB3 := Lib.hid (below_call HB1.out hb3); clear hb3) | fail)
    go_ret
    exact ⟨by rw [HV.out]; rfl, HB3.out⟩
  · rw [if_neg h] at hv
    rw [belV_no h] at cB
    have CB := Lib.hid cB
    have HV := Lib.hid hv
    clear cV cC cB v1 v2 hv h
    go_enter Try.func78, Try.ntmps78
    go_wp2_with (first | (go_at_call 40; refine (CV.out _ (by (repeat (first | with_reducible exact Below.refl _ _ | with_reducible refine below_alloc ?_ _ | with_reducible refine below_drewN ?_ _ | with_reducible refine Below.drew ?_ | ((with_reducible refine below_set ?_ ?_ _); rotate_left; (focus (first | (simp; done) | (simp; omega) | omega))) | with_reducible refine below_call ?_ (by assumption))))).mono ?_; rintro e1 w1 ⟨rfl, hb1⟩; have HB1 : Hid (Below w.heap.size w w1) := Lib.hid (by (repeat (first | with_reducible exact Below.refl _ _ | with_reducible refine below_alloc ?_ _ | with_reducible refine below_drewN ?_ _ | with_reducible refine Below.drew ?_ | ((with_reducible refine below_set ?_ ?_ _); rotate_left; (focus (first | (simp; done) | (simp; omega) | omega))) | with_reducible refine below_call ?_ (by assumption)))); obtain ⟨-, u0, u1, u2, u3⟩ := (cal_new w 27 nm A A' n n' c c' cw).call hb1; clear hb1) | (go_at_call 83; refine (CC.out _ HB1.out).mono ?_; rintro e1 w2 ⟨rfl, rfl⟩) | (go_at_call 116; refine (CB.out _).mono ?_; rintro e1 w3 ⟨rfl, hb3⟩; have HB3 := Lib.hid (below_call HB1.out hb3); clear hb3) | fail)
    go_ret
    exact ⟨by rw [HV.out]; rfl, HB3.out⟩
set_option maxHeartbeats 2000000 in
theorem l17Ask_any (g : Nat) (nm : ByteArray) (A A' L : Option Addr) (n n' c c' l e B : Nat) (ms : List Mth) (rs : List Rul) (cw : Int) (zs : List Int) (w : World) (hC : CalAt w g nm A A' n n' c c' cw) (h : Months w B A n ms) (h' : Rules w B A' n' rs) (hI : Ints w B L l zs) (hB : B ≤ w.heap.size) (hn : n ≤ 1048576) (hn' : n' ≤ 1048576) (hl : l ≤ 1048576) (hw : ∀ j, j < n' → -9223372036854775808 ≤ (rs.getD j r0).ev) :
    Calls Try.prog 128 #[.pointer (some ⟨g, 0, none⟩), .slice L l e] w fun e w' => e = .returned (.int .i64 (askV nm n n' ms rs cw zs l)) ∧ Below w.heap.size w w' := by
  have H := Lib.hid (Tri.more h hB)
  have H' := Lib.hid (Tri.more h' hB)
  have HI := Lib.hid (hI.more hB)
  have HC := Lib.hid hC
  have cV := l15Ok_any g nm A A' n n' c c' w.heap.size ms rs cw w hC H.out H'.out (Nat.le_refl _) (by omega) (by omega) hw
  clear h h' hI hC hw
  cases v1 : vCal nm n n' ms rs cw
  · have HV := Lib.hid (ask_bad (zs := zs) (l := l) (show (vCal nm n n' ms rs cw && vCam zs) = false by rw [v1]; rfl))
    rw [v1] at cV
    have CV := Lib.hid cV
    clear cV v1
    go_enter Try.func128, Try.ntmps128
    go_wp2_with (first | (go_at_call 49; refine CV.out.mono ?_; rintro e1 w1 ⟨rfl, hb1⟩; have HB1 := Lib.hid hb1; clear hb1) | fail)
    go_ret
    exact ⟨by rw [HV.out]; rfl, HB1.out⟩
  rw [v1] at cV
  have CV := Lib.hid cV
  have cC := fun (W : World) (hb : Below w.heap.size w W) => l17Ok_any L l e w.heap.size zs W (Ints.below HI.out hb) hl
  cases v2 : vCam zs
  · have HV := Lib.hid (ask_bad (zs := zs) (l := l) (show (vCal nm n n' ms rs cw && vCam zs) = false by rw [v1, v2]; rfl))
    rw [v2] at cC
    have CC := Lib.hid cC
    clear cV cC v1 v2
    go_enter Try.func128, Try.ntmps128
    go_wp2_with (first | (go_at_call 49; refine CV.out.mono ?_; rintro e1 w1 ⟨rfl, hb1⟩; have HB1 := Lib.hid hb1; clear hb1) | (go_at_call 94; refine (CC.out _ HB1.out).mono ?_; rintro e1 w2 ⟨rfl, rfl⟩) | fail)
    go_ret
    exact ⟨by rw [HV.out]; rfl, HB1.out⟩
  rw [v2] at cC
  have CC := Lib.hid cC
  obtain ⟨_, _, _, _, ⟨n1, n2⟩, _⟩ := vCal_yes v1
  have hv := ask_good (l := l) v1 v2
  have t1 := nat_tmod l n
  have n0 : ¬ ((n : Int) = 0) := by omega
  have n1 : ((n : Int) == 0) = false := by rw [beq_eq_false_iff_ne]; omega
  have q2 : l % n ≤ l := Nat.mod_le l n
  obtain ⟨q, hq⟩ : ∃ q, l % n = q := ⟨_, rfl⟩
  rw [hq] at hv t1 q2
  have r1 : IntKind.i64.wrap (q : Int) = (q : Int) := IntWalk.i64_in _ (by omega)
  clear hq
  by_cases h : q = 0
  · rw [if_pos h] at hv
    have HV := Lib.hid hv
    subst h
    clear cV cC v1 v2 hv
    go_enter Try.func128, Try.ntmps128
    go_wp2_with (first | (go_at_call 49; refine CV.out.mono ?_; rintro e1 w1 ⟨rfl, hb1⟩; have HB1 := Lib.hid hb1; have K1 := (HC.out.call hb1).c1; clear hb1) | (go_at_call 94; refine (CC.out _ HB1.out).mono ?_; rintro e1 w2 ⟨rfl, rfl⟩) | fail)
    go_ret
    exact ⟨by rw [HV.out]; rfl, HB1.out⟩
  · rw [if_neg h] at hv
    have HV := Lib.hid hv
    have h2 : ¬ ((q : Int) = 0) := by omega
    have h3 : ((q : Int) != 0) = true := by simpa using h2
    clear cV cC v1 v2 hv h
    go_enter Try.func128, Try.ntmps128
    go_wp2_with (first | (go_at_call 49; refine CV.out.mono ?_; rintro e1 w1 ⟨rfl, hb1⟩; have HB1 := Lib.hid hb1; have K1 := (HC.out.call hb1).c1; clear hb1) | (go_at_call 94; refine (CC.out _ HB1.out).mono ?_; rintro e1 w2 ⟨rfl, rfl⟩) | fail)
    go_ret
    exact ⟨by rw [HV.out]; rfl, HB1.out⟩
end Go.Proofs.Ythjldjbblaioaaa
