/- Contracts of the program's and the reference's functions, several texts in one; what each says, and its conditions, stands at its head. -/
import Derived.Test.YtmbdedkelckedaaGreatDoorCore2
import Derived.Deep.RegionHeld3
/- Contract of the validity of a calendar, the program's. No conditions but that there are fewer than 2^63 months and rules, no more than their row may hold. -/
namespace Go.Proofs.YtmbdedkelckedaaGreatDoor
open Go.RowKit
set_option linter.unusedVariables false
set_option linter.unusedSimpArgs false
theorem CalAt.below {w w' : World} {B g : Nat} {nm : ByteArray} {A A' : Option Addr} {n n' c c' : Nat} {we : Int} (h : CalAt w g nm A A' n n' c c' we) (hg : g < B) (hb : Below B w w') : CalAt w' g nm A A' n n' c c' we :=
  ⟨Nat.lt_of_lt_of_le h.lt hb.size, (hb.cell (p := ⟨g, 0, none⟩) hg).trans h.c0, (hb.cell (p := ⟨g, 1, none⟩) hg).trans h.c1, (hb.cell (p := ⟨g, 2, none⟩) hg).trans h.c2, (hb.cell (p := ⟨g, 3, none⟩) hg).trans h.c3⟩
theorem cal_new (w : World) (t : TypeId) (nm : ByteArray) (A A' : Option Addr) (n n' c c' : Nat) (we : Int) : CalAt (w.alloc (.cells #[.string nm, .slice A n c, .slice A' n' c', .int .i64 we] t)) w.heap.size nm A A' n n' c c' we :=
  ⟨by simp, by simp [go_sem], by simp [go_sem], by simp [go_sem], by simp [go_sem]⟩
theorem within_val (n lo hi : Int) (w : World) (v : Bool) (h : inB n lo hi = v) : Calls Tryz.prog 62 #[.int .i64 n, .int .i64 lo, .int .i64 hi] w fun e w' => e = .returned (.bool v) ∧ w = w' := by
  rw [← h]; exact within_any n lo hi w
theorem getD_take {α : Type} (l : List α) (d : α) {k j : Nat} (h : j < k) : (l.take k).getD j d = l.getD j d := by
  simp [List.getD_eq_getElem?_getD, List.getElem?_take, h]
theorem Months.take {w : World} {B n k : Nat} {A : Option Addr} {ms : List Mth} (h : Months w B A n ms) (hk : k ≤ n) : Months w B A k (ms.take k) := by
  have hl := h.len
  refine ⟨by simp; omega, fun h0 => ?_⟩
  obtain ⟨b, off, e, hb, hc⟩ := h.2 (by omega)
  refine ⟨b, off, e, hb, fun j hj => ?_⟩
  have := hc j (by omega)
  rwa [← getD_take _ _ hj, ← List.map_take] at this
theorem hasName_take {ms : List Mth} {k : Nat} {x : List UInt8} : hasName (ms.take k) k x = hasName ms k x := by
  unfold hasName
  rw [Bool.eq_iff_iff, List.any_eq_true, List.any_eq_true]
  constructor
  · rintro ⟨j, hj, he⟩
    have hj2 := List.mem_range.1 hj
    refine ⟨j, hj, ?_⟩
    unfold nmL at he ⊢
    rwa [getD_take _ _ hj2] at he
  · rintro ⟨j, hj, he⟩
    have hj2 := List.mem_range.1 hj
    refine ⟨j, hj, ?_⟩
    unfold nmL at he ⊢
    rwa [getD_take _ _ hj2]
theorem mAt_has {ms : List Mth} {i : Nat} : mAt ms i = (mOk (ms.getD i m0) && !hasName ms i (nmL ms i)) := by
  unfold mAt hasName
  rw [List.not_any_eq_all_not]
/-- what the program's test answers at each stage -/
theorem vCal_nm {nm : ByteArray} {n n' : Nat} {ms : List Mth} {rs : List Rul} {we : Int} (h : vName nm.data.toList = false) : vCal nm n n' ms rs we = false := by unfold vCal; rw [h]; simp
theorem vCal_we {nm : ByteArray} {n n' : Nat} {ms : List Mth} {rs : List Rul} {we : Int} (h : inB we 1 12 = false) : vCal nm n n' ms rs we = false := by unfold vCal; rw [h]; simp
theorem vCal_n {nm : ByteArray} {n n' : Nat} {ms : List Mth} {rs : List Rul} {we : Int} (h : inB n 1 20 = false) : vCal nm n n' ms rs we = false := by unfold vCal vMonths; rw [h]; simp
theorem vCal_n' {nm : ByteArray} {n n' : Nat} {ms : List Mth} {rs : List Rul} {we : Int} (h : ¬ (n' ≤ 6)) : vCal nm n n' ms rs we = false := by unfold vCal vRules; simp [h]
theorem vCal_m {nm : ByteArray} {n n' : Nat} {ms : List Mth} {rs : List Rul} {we : Int} (h : vMonths ms n = false) : vCal nm n n' ms rs we = false := by unfold vCal; rw [h]; simp
theorem vCal_r {nm : ByteArray} {n n' : Nat} {ms : List Mth} {rs : List Rul} {we : Int} (h : vRules rs n' = false) : vCal nm n n' ms rs we = false := by unfold vCal; rw [h]; simp
theorem vCal_end {nm : ByteArray} {n n' : Nat} {ms : List Mth} {rs : List Rul} {we : Int} (h1 : vName nm.data.toList = true) (h2 : inB we 1 12 = true) (h3 : vMonths ms n = true) : vCal nm n n' ms rs we = vRules rs n' := by unfold vCal; rw [h1, h2, h3]; simp
set_option maxHeartbeats 4000000 in
theorem ValidCalendar_any (nm : ByteArray) (A A' : Option Addr) (n n' c c' B : Nat) (ms : List Mth) (rs : List Rul) (we : Int) (w : World) (h : Months w B A n ms) (h' : Rules w B A' n' rs) (hB : B ≤ w.heap.size) (hn : n ≤ c) (hc : c ≤ 9223372036854775807) (hn' : n' ≤ 9223372036854775807) :
    Calls Tryz.prog 30 #[.agg #[.string nm, .slice A n c, .slice A' n' c', .int .i64 we]] w fun e w' => e = .returned (.bool (vCal nm n n' ms rs we)) ∧ Below w.heap.size w w' := by
  have H := Lib.hid (Tri.more h hB)
  have H' := Lib.hid (Tri.more h' hB)
  clear h h'
  cases h1 : vName nm.data.toList
  · have HV := Lib.hid (vCal_nm (n := n) (n' := n') (ms := ms) (rs := rs) (we := we) h1)
    have H1 := Lib.hid h1
    clear h1
    go_enter Tryz.func30, Tryz.ntmps30
    go_wp2_with (first | (go_at_call 72; refine (IsName_any nm _).mono ?_; rintro e w1 ⟨rfl, hb1⟩; rw [H1.out]; have K1 := Lib.hid ((cal_new w 27 nm A A' n n' c c' we).call hb1); have p1 := K1.out.c1; have p2 := K1.out.c2; have p3 := K1.out.c3; have HB1 : Hid (Below w.heap.size w w1) := Lib.hid (by (repeat (first | with_reducible exact Below.refl _ _ | with_reducible refine below_alloc ?_ _ | with_reducible refine below_drewN ?_ _ | with_reducible refine Below.drew ?_ | ((with_reducible refine below_set ?_ ?_ _); rotate_left; (focus (first | (simp; done) | (simp; omega) | omega))) | with_reducible refine below_call ?_ (by assumption)))); clear hb1) | fail)
    go_ret
    exact ⟨by rw [HV.out]; rfl, HB1.out⟩
  by_cases a1 : (n : Int) < 1
  · have HV := Lib.hid (vCal_n (nm := nm) (n := n) (n' := n') (ms := ms) (rs := rs) (we := we) (by unfold inB; simp; omega))
    have H1 := Lib.hid h1
    clear h1
    go_enter Tryz.func30, Tryz.ntmps30
    go_wp2_with (first | (go_at_call 72; refine (IsName_any nm _).mono ?_; rintro e w1 ⟨rfl, hb1⟩; rw [H1.out]; have K1 := Lib.hid ((cal_new w 27 nm A A' n n' c c' we).call hb1); have p1 := K1.out.c1; have p2 := K1.out.c2; have p3 := K1.out.c3; have HB1 : Hid (Below w.heap.size w w1) := Lib.hid (by (repeat (first | with_reducible exact Below.refl _ _ | with_reducible refine below_alloc ?_ _ | with_reducible refine below_drewN ?_ _ | with_reducible refine Below.drew ?_ | ((with_reducible refine below_set ?_ ?_ _); rotate_left; (focus (first | (simp; done) | (simp; omega) | omega))) | with_reducible refine below_call ?_ (by assumption)))); clear hb1) | fail)
    go_ret
    exact ⟨by rw [HV.out]; rfl, HB1.out⟩
  by_cases a2 : 20 < (n : Int)
  · have HV := Lib.hid (vCal_n (nm := nm) (n := n) (n' := n') (ms := ms) (rs := rs) (we := we) (by unfold inB; simp; omega))
    have H1 := Lib.hid h1
    clear h1
    go_enter Tryz.func30, Tryz.ntmps30
    go_wp2_with (first | (go_at_call 72; refine (IsName_any nm _).mono ?_; rintro e w1 ⟨rfl, hb1⟩; rw [H1.out]; have K1 := Lib.hid ((cal_new w 27 nm A A' n n' c c' we).call hb1); have p1 := K1.out.c1; have p2 := K1.out.c2; have p3 := K1.out.c3; have HB1 : Hid (Below w.heap.size w w1) := Lib.hid (by (repeat (first | with_reducible exact Below.refl _ _ | with_reducible refine below_alloc ?_ _ | with_reducible refine below_drewN ?_ _ | with_reducible refine Below.drew ?_ | ((with_reducible refine below_set ?_ ?_ _); rotate_left; (focus (first | (simp; done) | (simp; omega) | omega))) | with_reducible refine below_call ?_ (by assumption)))); clear hb1) | fail)
    go_ret
    exact ⟨by rw [HV.out]; rfl, HB1.out⟩
  by_cases a3 : 6 < (n' : Int)
  · have HV := Lib.hid (vCal_n' (nm := nm) (n := n) (n' := n') (ms := ms) (rs := rs) (we := we) (by omega))
    have H1 := Lib.hid h1
    clear h1
    go_enter Tryz.func30, Tryz.ntmps30
    go_wp2_with (first | (go_at_call 72; refine (IsName_any nm _).mono ?_; rintro e w1 ⟨rfl, hb1⟩; rw [H1.out]; have K1 := Lib.hid ((cal_new w 27 nm A A' n n' c c' we).call hb1); have p1 := K1.out.c1; have p2 := K1.out.c2; have p3 := K1.out.c3; have HB1 : Hid (Below w.heap.size w w1) := Lib.hid (by (repeat (first | with_reducible exact Below.refl _ _ | with_reducible refine below_alloc ?_ _ | with_reducible refine below_drewN ?_ _ | with_reducible refine Below.drew ?_ | ((with_reducible refine below_set ?_ ?_ _); rotate_left; (focus (first | (simp; done) | (simp; omega) | omega))) | with_reducible refine below_call ?_ (by assumption)))); clear hb1) | fail)
    go_ret
    exact ⟨by rw [HV.out]; rfl, HB1.out⟩
  cases h2 : inB we 1 12
  · have HV := Lib.hid (vCal_we (nm := nm) (n := n) (n' := n') (ms := ms) (rs := rs) (we := we) h2)
    have H1 := Lib.hid h1
    have H2 := Lib.hid h2
    clear h1 h2
    go_enter Tryz.func30, Tryz.ntmps30
    go_wp2_with (first | (go_at_call 72; refine (IsName_any nm _).mono ?_; rintro e w1 ⟨rfl, hb1⟩; rw [H1.out]; have K1 := Lib.hid ((cal_new w 27 nm A A' n n' c c' we).call hb1); have p1 := K1.out.c1; have p2 := K1.out.c2; have p3 := K1.out.c3; have HB1 : Hid (Below w.heap.size w w1) := Lib.hid (by (repeat (first | with_reducible exact Below.refl _ _ | with_reducible refine below_alloc ?_ _ | with_reducible refine below_drewN ?_ _ | with_reducible refine Below.drew ?_ | ((with_reducible refine below_set ?_ ?_ _); rotate_left; (focus (first | (simp; done) | (simp; omega) | omega))) | with_reducible refine below_call ?_ (by assumption)))); clear hb1) | (go_at_call 62; refine (within_val _ _ _ _ _ H2.out).mono ?_; rintro e w3 ⟨rfl, rfl⟩) | fail)
    go_ret
    exact ⟨by rw [HV.out]; rfl, HB1.out⟩
  have HVM := Lib.hid (fun h => vCal_m (nm := nm) (n := n) (n' := n') (ms := ms) (rs := rs) (we := we) h)
  have HVR := Lib.hid (fun h => vCal_r (nm := nm) (n := n) (n' := n') (ms := ms) (rs := rs) (we := we) h)
  have HVE := Lib.hid (fun h => vCal_end (nm := nm) (n := n) (n' := n') (ms := ms) (rs := rs) (we := we) h1 h2 h)
  have H1 := Lib.hid h1
  have H2 := Lib.hid h2
  have hn20 : n ≤ 20 := by omega
  have hn1 : 1 ≤ n := by omega
  have hn6 : n' ≤ 6 := by omega
  clear h1 h2
  go_enter Tryz.func30, Tryz.ntmps30
  go_wp2_with (first | (go_at_call 72; refine (IsName_any nm _).mono ?_; rintro e w1 ⟨rfl, hb1⟩; rw [H1.out]; have K1 := Lib.hid ((cal_new w 27 nm A A' n n' c c' we).call hb1); have p1 := K1.out.c1; have p2 := K1.out.c2; have p3 := K1.out.c3; have HB1 : Hid (Below w.heap.size w w1) := Lib.hid (by (repeat (first | with_reducible exact Below.refl _ _ | with_reducible refine below_alloc ?_ _ | with_reducible refine below_drewN ?_ _ | with_reducible refine Below.drew ?_ | ((with_reducible refine below_set ?_ ?_ _); rotate_left; (focus (first | (simp; done) | (simp; omega) | omega))) | with_reducible refine below_call ?_ (by assumption)))); clear hb1) | (go_at_call 62; refine (within_val _ _ _ _ _ H2.out).mono ?_; rintro e w3 ⟨rfl, rfl⟩) | fail)
  go_loopw [3, 4, 38] (fun _ _ t wr => ∃ k : Nat, t = .int .i64 k ∧ k ≤ n ∧ Hid (∀ j, j < k → mAt ms j = true) ∧ Hid (CalAt wr w.heap.size nm A A' n n' c c' we) ∧ Below w.heap.size w wr) (fun _ _ t _ => n - (intOf t).toNat)
  case atStart => exact ⟨0, rfl, Nat.zero_le _, Lib.hid (fun j hj => absurd hj (by omega)), K1, HB1.out⟩
  case round =>
    obtain ⟨k, rfl, hk, hA, hC, hb⟩ := hrel
    clear p1 p2 p3 HB1 K1
    have i0 : (0 : Int) ≤ (k : Int) := Int.natCast_nonneg _
    by_cases hlt : k < n
    · have i1 : (k : Int) < (n : Int) := by omega
      obtain ⟨b, off, rfl, hbl, c1, c2, c3⟩ := Months.at_ (Tri.below H.out hb) hlt
      have HVB := Lib.hid (fun h => HVM.out (vMonths_bad (ms := ms) hlt h))
      have HMA := Lib.hid (@mAt_has ms k)
      have zc := hC.out.lt
      have z0 := hb.size
      obtain ⟨m, hm⟩ : ∃ m, ms.getD k m0 = m := ⟨_, rfl⟩
      have HNK := Lib.hid (show nmL ms k = m.nm.toList by unfold nmL; rw [hm, ByteArray.toList_eq])
      rw [hm] at c1 c2 c3 HMA
      have HB := Lib.hid hb
      clear hm hb
      cases q1 : vName m.nm.data.toList
      · have HV := Lib.hid (HVB.out (HMA.out.trans (by unfold mOk; rw [q1]; rfl)))
        have Q1 := Lib.hid q1
        clear q1
        go_wp2_with (first | (go_at_call 72; refine (IsName_any m.nm _).mono ?_; rintro e w2 ⟨rfl, hb2⟩; rw [Q1.out]; have HB2 : Hid (Below wr.heap.size wr w2) := Lib.hid (by (repeat (first | with_reducible exact Below.refl _ _ | with_reducible refine below_alloc ?_ _ | with_reducible refine below_drewN ?_ _ | with_reducible refine Below.drew ?_ | ((with_reducible refine below_set ?_ ?_ _); rotate_left; (focus (first | (simp; done) | (simp; omega) | omega))) | with_reducible refine below_call ?_ (by assumption)))); clear hb2) | fail)
        go_ret
        exact ⟨by rw [HV.out]; rfl, below_call HB.out HB2.out⟩
      cases q2 : inB m.dy 1 60
      · have HV := Lib.hid (HVB.out (HMA.out.trans (by unfold mOk; rw [q1, q2]; rfl)))
        have Q1 := Lib.hid q1
        have Q2 := Lib.hid q2
        have Q3 := Lib.hid q2
        clear q1 q2
        go_wp2_with (first | (go_at_call 72; refine (IsName_any m.nm _).mono ?_; rintro e w2 ⟨rfl, hb2⟩; rw [Q1.out]; have HB2 : Hid (Below wr.heap.size wr w2) := Lib.hid (by (repeat (first | with_reducible exact Below.refl _ _ | with_reducible refine below_alloc ?_ _ | with_reducible refine below_drewN ?_ _ | with_reducible refine Below.drew ?_ | ((with_reducible refine below_set ?_ ?_ _); rotate_left; (focus (first | (simp; done) | (simp; omega) | omega))) | with_reducible refine below_call ?_ (by assumption)))); have p1 := (hC.out.call HB2.out).c1; have d1 := cell_call hb2 (p := ⟨wr.heap.size, 0, none⟩) (v := .string m.nm) (by simp) (by simp [go_sem]); have d2 := cell_call hb2 (p := ⟨wr.heap.size, 1, none⟩) (v := .int .i64 m.dy) (by simp) (by simp [go_sem]); have d3 := cell_call hb2 (p := ⟨wr.heap.size, 2, none⟩) (v := .int .i64 m.lp) (by simp) (by simp [go_sem]); have zw2 : wr.heap.size < w2.heap.size := lt_call hb2 (by simp); clear hb2) | (go_at_call 62; refine (within_val _ _ _ _ _ (by first | exact Q2.out | exact Q3.out)).mono ?_; rintro e w3 ⟨rfl, rfl⟩) | fail)
        go_ret
        exact ⟨by rw [HV.out]; rfl, below_call HB.out HB2.out⟩
      cases q3 : inB m.lp 1 60
      · have HV := Lib.hid (HVB.out (HMA.out.trans (by unfold mOk; rw [q1, q2, q3]; rfl)))
        have Q1 := Lib.hid q1
        have Q2 := Lib.hid q2
        have Q3 := Lib.hid q3
        clear q1 q2 q3
        go_wp2_with (first | (go_at_call 72; refine (IsName_any m.nm _).mono ?_; rintro e w2 ⟨rfl, hb2⟩; rw [Q1.out]; have HB2 : Hid (Below wr.heap.size wr w2) := Lib.hid (by (repeat (first | with_reducible exact Below.refl _ _ | with_reducible refine below_alloc ?_ _ | with_reducible refine below_drewN ?_ _ | with_reducible refine Below.drew ?_ | ((with_reducible refine below_set ?_ ?_ _); rotate_left; (focus (first | (simp; done) | (simp; omega) | omega))) | with_reducible refine below_call ?_ (by assumption)))); have p1 := (hC.out.call HB2.out).c1; have d1 := cell_call hb2 (p := ⟨wr.heap.size, 0, none⟩) (v := .string m.nm) (by simp) (by simp [go_sem]); have d2 := cell_call hb2 (p := ⟨wr.heap.size, 1, none⟩) (v := .int .i64 m.dy) (by simp) (by simp [go_sem]); have d3 := cell_call hb2 (p := ⟨wr.heap.size, 2, none⟩) (v := .int .i64 m.lp) (by simp) (by simp [go_sem]); have zw2 : wr.heap.size < w2.heap.size := lt_call hb2 (by simp); clear hb2) | (go_at_call 62; refine (within_val _ _ _ _ _ (by first | exact Q2.out | exact Q3.out)).mono ?_; rintro e w3 ⟨rfl, rfl⟩) | fail)
        go_ret
        exact ⟨by rw [HV.out]; rfl, below_call HB.out HB2.out⟩
      have HMO := Lib.hid (show mOk m = true by unfold mOk; rw [q1, q2, q3]; rfl)
      cases q4 : hasName ms k m.nm.toList
      · have HV := Lib.hid (HMA.out.trans (by rw [HNK.out, q4, HMO.out]; first | done | rfl))
        have Q1 := Lib.hid q1
        have Q2 := Lib.hid q2
        have Q3 := Lib.hid q3
        have Q4 := Lib.hid q4
        clear q1 q2 q3 q4
        go_wp2_with (first | (go_at_call 72; refine (IsName_any m.nm _).mono ?_; rintro e w2 ⟨rfl, hb2⟩; rw [Q1.out]; have HB2 : Hid (Below wr.heap.size wr w2) := Lib.hid (by (repeat (first | with_reducible exact Below.refl _ _ | with_reducible refine below_alloc ?_ _ | with_reducible refine below_drewN ?_ _ | with_reducible refine Below.drew ?_ | ((with_reducible refine below_set ?_ ?_ _); rotate_left; (focus (first | (simp; done) | (simp; omega) | omega))) | with_reducible refine below_call ?_ (by assumption)))); have p1 := (hC.out.call HB2.out).c1; have d1 := cell_call hb2 (p := ⟨wr.heap.size, 0, none⟩) (v := .string m.nm) (by simp) (by simp [go_sem]); have d2 := cell_call hb2 (p := ⟨wr.heap.size, 1, none⟩) (v := .int .i64 m.dy) (by simp) (by simp [go_sem]); have d3 := cell_call hb2 (p := ⟨wr.heap.size, 2, none⟩) (v := .int .i64 m.lp) (by simp) (by simp [go_sem]); have zw2 : wr.heap.size < w2.heap.size := lt_call hb2 (by simp); clear hb2) | (go_at_call 62; refine (within_val _ _ _ _ _ (by first | exact Q2.out | exact Q3.out)).mono ?_; rintro e w3 ⟨rfl, rfl⟩) | (go_at_call 73; refine (ContainsFunc_any _ k c w.heap.size wr.heap.size (ms.take k) m.nm _ (Months.take (Tri.below H.out (below_call HB.out HB2.out)) hk) (below_call HB.out HB2.out).size (by omega) zw2 d1).mono ?_; rintro e w4 ⟨rfl, hb4⟩; rw [hasName_take, Q4.out]; have HB4 : Hid (Below wr.heap.size wr w4) := Lib.hid (HB2.out.trans (hb4.mono HB2.out.size)); clear hb4) | fail)
        go_roundw
        case rel =>
          refine ⟨k + 1, by go_num, by omega, Lib.hid (fun j hj => ?_), Lib.hid (hC.out.call HB4.out), below_call HB.out HB4.out⟩
          by_cases e : j = k
          · subst e; exact HV.out
          · exact hA.out j (by omega)
        case measure => simp [intOf]; omega
      · have HV := Lib.hid (HVB.out (HMA.out.trans (by rw [HNK.out, q4, HMO.out]; rfl)))
        have Q1 := Lib.hid q1
        have Q2 := Lib.hid q2
        have Q3 := Lib.hid q3
        have Q4 := Lib.hid q4
        clear q1 q2 q3 q4
        go_wp2_with (first | (go_at_call 72; refine (IsName_any m.nm _).mono ?_; rintro e w2 ⟨rfl, hb2⟩; rw [Q1.out]; have HB2 : Hid (Below wr.heap.size wr w2) := Lib.hid (by (repeat (first | with_reducible exact Below.refl _ _ | with_reducible refine below_alloc ?_ _ | with_reducible refine below_drewN ?_ _ | with_reducible refine Below.drew ?_ | ((with_reducible refine below_set ?_ ?_ _); rotate_left; (focus (first | (simp; done) | (simp; omega) | omega))) | with_reducible refine below_call ?_ (by assumption)))); have p1 := (hC.out.call HB2.out).c1; have d1 := cell_call hb2 (p := ⟨wr.heap.size, 0, none⟩) (v := .string m.nm) (by simp) (by simp [go_sem]); have d2 := cell_call hb2 (p := ⟨wr.heap.size, 1, none⟩) (v := .int .i64 m.dy) (by simp) (by simp [go_sem]); have d3 := cell_call hb2 (p := ⟨wr.heap.size, 2, none⟩) (v := .int .i64 m.lp) (by simp) (by simp [go_sem]); have zw2 : wr.heap.size < w2.heap.size := lt_call hb2 (by simp); clear hb2) | (go_at_call 62; refine (within_val _ _ _ _ _ (by first | exact Q2.out | exact Q3.out)).mono ?_; rintro e w3 ⟨rfl, rfl⟩) | (go_at_call 73; refine (ContainsFunc_any _ k c w.heap.size wr.heap.size (ms.take k) m.nm _ (Months.take (Tri.below H.out (below_call HB.out HB2.out)) hk) (below_call HB.out HB2.out).size (by omega) zw2 d1).mono ?_; rintro e w4 ⟨rfl, hb4⟩; rw [hasName_take, Q4.out]; have HB4 : Hid (Below wr.heap.size wr w4) := Lib.hid (HB2.out.trans (hb4.mono HB2.out.size)); clear hb4) | fail)
        go_ret
        exact ⟨by rw [HV.out]; rfl, below_call HB.out HB4.out⟩
    · have HVM2 := Lib.hid (show vMonths ms n = true by rw [vMonths_good (fun j hj => hA.out j (by omega))]; exact inB_mk (by omega) (by omega))
      have HVE2 := Lib.hid (HVE.out HVM2.out)
      have p2 := hC.out.c2
      clear HVM HVE HVM2
      go_wp2
      go_loopw [6, 69] (fun _ t wr => ∃ k : Nat, t = .int .i64 k ∧ k ≤ n' ∧ Hid (∀ j, j < k → ruleOk (rs.getD j r0) = true) ∧ Hid (CalAt wr w.heap.size nm A A' n n' c c' we) ∧ Below w.heap.size w wr) (fun _ t _ => n' - (intOf t).toNat)
      case atStart => exact ⟨0, rfl, Nat.zero_le _, Lib.hid (fun j hj => absurd hj (by omega)), hC, hb⟩
      case round =>
        clear hb
        clear p2
        obtain ⟨i, rfl, hi, hR, hC2, hb⟩ := hrel
        have j0 : (0 : Int) ≤ (i : Int) := Int.natCast_nonneg _
        by_cases hlt2 : i < n'
        · have j1 : (i : Int) < (n' : Int) := by omega
          obtain ⟨b', off', rfl, hbl', f1, f2, f3⟩ := Rules.at_ (Tri.below H'.out hb) hlt2
          have HVB := Lib.hid (fun h => HVR.out (vRules_bad (rs := rs) hlt2 h))
          obtain ⟨r, hr⟩ : ∃ r, rs.getD i r0 = r := ⟨_, rfl⟩
          rw [hr] at f1 f2 f3 HVB
          have HRR := Lib.hid hr
          have HB := Lib.hid hb
          clear hr hb
          cases q1 : inB r.ev 1 1000
          · have HV := Lib.hid (HVB.out (by unfold ruleOk; rw [q1]; rfl))
            have Q2 := Lib.hid q1
            have Q3 := Lib.hid q1
            clear q1
            go_wp2_with (first | (go_at_call 62; refine (within_val _ _ _ _ _ (by first | exact Q2.out | exact Q3.out)).mono ?_; rintro e w3 ⟨rfl, rfl⟩) | fail)
            go_ret
            exact ⟨by rw [HV.out]; rfl, below_call HB.out (by (repeat (first | with_reducible exact Below.refl _ _ | with_reducible refine below_alloc ?_ _ | with_reducible refine below_drewN ?_ _ | with_reducible refine Below.drew ?_ | ((with_reducible refine below_set ?_ ?_ _); rotate_left; (focus (first | (simp; done) | (simp; omega) | omega))) | with_reducible refine below_call ?_ (by assumption))))⟩
          have k1 := inB_yes q1
          have k2 : IntKind.i64.wrap (r.ev - 1) = r.ev - 1 := IntWalk.i64_in _ (by omega)
          cases q2 : inB r.rs 0 (r.ev - 1)
          · have HV := Lib.hid (HVB.out (by unfold ruleOk; rw [q1, q2]; rfl))
            have Q2 := Lib.hid q1
            have Q3 := Lib.hid q2
            clear q1 q2
            go_wp2_with (first | (go_at_call 62; refine (within_val _ _ _ _ _ (by first | exact Q2.out | exact Q3.out)).mono ?_; rintro e w3 ⟨rfl, rfl⟩) | fail)
            go_ret
            exact ⟨by rw [HV.out]; rfl, below_call HB.out (by (repeat (first | with_reducible exact Below.refl _ _ | with_reducible refine below_alloc ?_ _ | with_reducible refine below_drewN ?_ _ | with_reducible refine Below.drew ?_ | ((with_reducible refine below_set ?_ ?_ _); rotate_left; (focus (first | (simp; done) | (simp; omega) | omega))) | with_reducible refine below_call ?_ (by assumption))))⟩
          have HRO := Lib.hid (show ruleOk r = true by unfold ruleOk; rw [q1, q2]; rfl)
          have Q2 := Lib.hid q1
          have Q3 := Lib.hid q2
          clear q1 q2
          go_wp2_with (first | (go_at_call 62; refine (within_val _ _ _ _ _ (by first | exact Q2.out | exact Q3.out)).mono ?_; rintro e w3 ⟨rfl, rfl⟩) | fail)
          go_roundw
          case rel =>
            refine ⟨i + 1, by go_num, by omega, Lib.hid (fun j hj => ?_), Lib.hid (hC2.out.call (by (repeat (first | with_reducible exact Below.refl _ _ | with_reducible refine below_alloc ?_ _ | with_reducible refine below_drewN ?_ _ | with_reducible refine Below.drew ?_ | ((with_reducible refine below_set ?_ ?_ _); rotate_left; (focus (first | (simp; done) | (simp; omega) | omega))) | with_reducible refine below_call ?_ (by assumption))))), below_call HB.out (by (repeat (first | with_reducible exact Below.refl _ _ | with_reducible refine below_alloc ?_ _ | with_reducible refine below_drewN ?_ _ | with_reducible refine Below.drew ?_ | ((with_reducible refine below_set ?_ ?_ _); rotate_left; (focus (first | (simp; done) | (simp; omega) | omega))) | with_reducible refine below_call ?_ (by assumption))))⟩
            by_cases e : j = i
            · subst e; rw [HRR.out]; exact HRO.out
            · exact hR.out j (by omega)
          case measure => simp [intOf]; omega
        · have HRS := Lib.hid (fun j (hj : j < n') => ruleOk_yes (hR.out j (by omega)))
          have HVE3 := Lib.hid (fun h => HVE2.out.trans (vRules_good (rs := rs) (n := n') (fun j hj => hR.out j (by omega)) h))
          have HVR3 := Lib.hid (fun h => HVR.out (vRules_big (rs := rs) (n := n') (k := n') (Nat.le_refl _) h))
          have p2 := hC2.out.c2
          have HB := Lib.hid hb
          have hz := hb.size
          clear hb
          cases hy : decide (cycK rs n' ≤ 2000)
          · have hy2 : ¬ (cycK rs n' ≤ 2000) := by simpa using hy
            have HV := Lib.hid (HVR3.out hy2)
            go_wp2_with (first | (go_at_call 37; refine (cycleYears_any A' n' c' w.heap.size rs _ (Tri.below H'.out HB.out) hz hn' (fun j hj => ⟨(HRS.out j hj).1, (HRS.out j hj).2.1⟩)).mono ?_; rintro e w5 ⟨rfl, hb5⟩) | fail)
            go_ret
            exact ⟨by rw [HV.out]; simp [hy2], below_call HB.out hb5⟩
          · have hy2 : cycK rs n' ≤ 2000 := by simpa using hy
            have HV := Lib.hid (HVE3.out hy2)
            go_wp2_with (first | (go_at_call 37; refine (cycleYears_any A' n' c' w.heap.size rs _ (Tri.below H'.out HB.out) hz hn' (fun j hj => ⟨(HRS.out j hj).1, (HRS.out j hj).2.1⟩)).mono ?_; rintro e w5 ⟨rfl, hb5⟩) | fail)
            go_ret
            exact ⟨by rw [HV.out]; simp [hy2, hn6], below_call HB.out hb5⟩
end Go.Proofs.YtmbdedkelckedaaGreatDoor

/- Contracts of the days of a month, the program's and the reference's, and of what is a year. No conditions but that each rule's cycle is from 1 to 1000 years. -/
namespace Go.Proofs.YtmbdedkelckedaaGreatDoor
open Go.RowKit
set_option linter.unusedVariables false
set_option linter.unusedSimpArgs false
/-- the days of a month in a common year or in a leap year -/
def dayB (ms : List Mth) (b : Bool) (m : Int) : Int := if b then (ms.getD (m - 1).toNat m0).lp else (ms.getD (m - 1).toNat m0).dy
/-- the days of a month of a year -/
def dayK (ms : List Mth) (rs : List Rul) (n' : Nat) (y m : Int) : Int := dayB ms (leapK rs y n') m
theorem to_k {m : Int} {n : Nat} (h1 : 1 ≤ m) (h2 : m ≤ n) : ∃ k : Nat, m = (k : Int) + 1 ∧ k < n := ⟨(m - 1).toNat, by omega, by omega⟩
theorem dayB_k (ms : List Mth) (b : Bool) (k : Nat) : dayB ms b ((k : Int) + 1) = if b then (ms.getD k m0).lp else (ms.getD k m0).dy := by
  unfold dayB; rw [show ((k : Int) + 1 - 1).toNat = k by omega]
set_option maxHeartbeats 1000000 in
theorem daysOfMonth_k (nm : ByteArray) (A A' : Option Addr) (n n' c c' B k : Nat) (ms : List Mth) (we : Int) (b : Bool) (w : World) (h : Months w B A n ms) (hB : B ≤ w.heap.size) (hn : n ≤ 9223372036854775806) (hk : k < n) :
    Calls Tryz.prog 34 #[.agg #[.string nm, .slice A n c, .slice A' n' c', .int .i64 we], .bool b, .int .i64 ((k : Int) + 1)] w fun e w' => e = .returned (.int .i64 (dayB ms b ((k : Int) + 1))) ∧ Below w.heap.size w w' := by
  rw [dayB_k]
  obtain ⟨g, off, rfl, hbl, c1, c2, c3⟩ := Months.at_ (Tri.alloc h hB (.cells #[.string nm, .slice A n c, .slice A' n' c', .int .i64 we] 27)) hk
  obtain ⟨m, hm⟩ : ∃ m, ms.getD k m0 = m := ⟨_, rfl⟩
  rw [hm] at c1 c2 c3
  rw [hm]
  have i0 : (0 : Int) ≤ (k : Int) := Int.natCast_nonneg _
  have i1 : (k : Int) < (n : Int) := by omega
  have s1 : (k : Int) + 1 - 1 = (k : Int) := by omega
  clear h hm
  cases b
  · go_enter Tryz.func34, Tryz.ntmps34
    go_wp2
    go_ret
    exact ⟨rfl, by (repeat (first | with_reducible exact Below.refl _ _ | with_reducible refine below_alloc ?_ _ | with_reducible refine below_drewN ?_ _ | with_reducible refine Below.drew ?_ | ((with_reducible refine below_set ?_ ?_ _); rotate_left; (focus (first | (simp; done) | (simp; omega) | omega))) | with_reducible refine below_call ?_ (by assumption)))⟩
  · go_enter Tryz.func34, Tryz.ntmps34
    go_wp2
    go_ret
    exact ⟨rfl, by (repeat (first | with_reducible exact Below.refl _ _ | with_reducible refine below_alloc ?_ _ | with_reducible refine below_drewN ?_ _ | with_reducible refine Below.drew ?_ | ((with_reducible refine below_set ?_ ?_ _); rotate_left; (focus (first | (simp; done) | (simp; omega) | omega))) | with_reducible refine below_call ?_ (by assumption)))⟩
theorem daysOfMonth_any (nm : ByteArray) (A A' : Option Addr) (n n' c c' B : Nat) (ms : List Mth) (we : Int) (b : Bool) (m : Int) (w : World) (h : Months w B A n ms) (hB : B ≤ w.heap.size) (hn : n ≤ 9223372036854775806) (h1 : 1 ≤ m) (h2 : m ≤ n) :
    Calls Tryz.prog 34 #[.agg #[.string nm, .slice A n c, .slice A' n' c', .int .i64 we], .bool b, .int .i64 m] w fun e w' => e = .returned (.int .i64 (dayB ms b m)) ∧ Below w.heap.size w w' := by
  obtain ⟨k, rfl, hk⟩ := to_k h1 h2
  exact daysOfMonth_k nm A A' n n' c c' B k ms we b w h hB hn hk
theorem isYear_any (y : Int) (w : World) : Calls Tryz.prog 32 #[.int .i64 y] w fun e w' => e = .returned (.bool (inB y 0 9999)) ∧ w = w' := by
  go_enter Tryz.func32, Tryz.ntmps32
  go_wp2_with (go_at_call 62; refine (within_any _ _ _ _).mono ?_; rintro e w' ⟨rfl, rfl⟩)
  go_ret
  exact ⟨rfl, rfl⟩
set_option maxHeartbeats 2000000 in
theorem l15Leap_q (g : Nat) (A' : Option Addr) (n' c' B : Nat) (rs : List Rul) (y : Int) (w : World) (hg : g < w.heap.size) (hc : w.cell? ⟨g, 2, none⟩ = some (.slice A' n' c')) (h' : Rules w B A' n' rs) (hB : B ≤ w.heap.size) (hn' : n' ≤ 9223372036854775807) (hev : ∀ j, j < n' → 1 ≤ (rs.getD j r0).ev) (hy0 : 0 ≤ y) (hy1 : y ≤ 1000000000000) :
    Calls Tryz.prog 113 #[.pointer (some ⟨g, 0, none⟩), .int .i64 y] w fun e w' => e = .returned (.bool (leapK rs y n')) ∧ ∃ q, w' = w.drewN q := by
  have H := Lib.hid (Tri.more h' hB)
  have HE := Lib.hid hev
  have HC := Lib.hid hc
  clear h' hev hc
  go_enter Tryz.func113, Tryz.ntmps113
  go_wp2
  go_loopw [5, 6] (fun l t wr => ∃ k : Nat, t = .int .i64 k ∧ k ≤ n' ∧ l = .bool (leapK rs y k) ∧ Below w.heap.size w wr ∧ Hid (∃ q, wr = w.drewN q)) (fun _ t _ => n' - (intOf t).toNat)
  case atStart => exact ⟨0, rfl, Nat.zero_le _, rfl, Below.refl _ _, Lib.hid ⟨0, by first | rfl | simp [World.drewN]⟩⟩
  case round =>
    obtain ⟨k, rfl, hk, rfl, hb, HQ⟩ := hrel
    have i0 : (0 : Int) ≤ (k : Int) := Int.natCast_nonneg _
    have hc := cell_call hb (p := ⟨g, 2, none⟩) (by simpa using hg) HC.out
    by_cases hlt : k < n'
    · have i1 : (k : Int) < (n' : Int) := by omega
      obtain ⟨b, off, rfl, hbl, c1, c2, c3⟩ := Rules.at_ (Tri.below H.out hb) hlt
      have he := HE.out k hlt
      have hq1 := @leapK_hit rs y k
      have hq2 := @leapK_miss rs y k
      obtain ⟨r, hr⟩ : ∃ r, rs.getD k r0 = r := ⟨_, rfl⟩
      rw [hr] at c1 c2 c3 he hq1 hq2
      obtain ⟨x2, x0, x1⟩ := mod_small hy0 hy1 he
      have e0 : ¬ (r.ev = 0) := by omega
      have r1 : IntKind.i64.wrap (y % r.ev) = y % r.ev := IntWalk.i64_in _ (by omega)
      clear hr
      by_cases hm : y % r.ev = r.rs
      · have HK := Lib.hid (hq1 hm)
        have m1 : (y % r.ev == r.rs) = true := by simpa using hm
        clear hq1 hq2
        go_wp2
        go_quiet (fail)
        go_wp2
        go_roundw
        case rel => exact ⟨k + 1, by go_num, by omega, by rw [HK.out], by (repeat (first | with_reducible exact Below.refl _ _ | with_reducible refine below_alloc ?_ _ | with_reducible refine below_drewN ?_ _ | with_reducible refine Below.drew ?_ | ((with_reducible refine below_set ?_ ?_ _); rotate_left; (focus (first | (simp; done) | (simp; omega) | omega))) | with_reducible refine below_call ?_ (by assumption))), Lib.hid (by obtain ⟨q, e⟩ := HQ.out; subst e; exact drewN_two _ _ _)⟩
        case measure => simp [intOf]; omega
      · have HK := Lib.hid (hq2 hm)
        have m1 : (y % r.ev == r.rs) = false := by simpa using hm
        clear hq1 hq2
        go_wp2
        go_quiet (fail)
        go_wp2
        go_roundw
        case rel => exact ⟨k + 1, by go_num, by omega, by rw [HK.out], by (repeat (first | with_reducible exact Below.refl _ _ | with_reducible refine below_alloc ?_ _ | with_reducible refine below_drewN ?_ _ | with_reducible refine Below.drew ?_ | ((with_reducible refine below_set ?_ ?_ _); rotate_left; (focus (first | (simp; done) | (simp; omega) | omega))) | with_reducible refine below_call ?_ (by assumption))), Lib.hid (by obtain ⟨q, e⟩ := HQ.out; subst e; exact drewN_two _ _ _)⟩
        case measure => simp [intOf]; omega
    · have HE2 := Lib.hid (show k = n' by omega)
      go_wp2
      go_ret
      exact ⟨by rw [HE2.out]; rfl, HQ.out⟩
set_option maxHeartbeats 1000000 in
theorem l15Days_k (g : Nat) (A A' : Option Addr) (n n' c c' B k : Nat) (ms : List Mth) (rs : List Rul) (y : Int) (w : World) (hg : g < w.heap.size) (hc1 : w.cell? ⟨g, 1, none⟩ = some (.slice A n c)) (hc : w.cell? ⟨g, 2, none⟩ = some (.slice A' n' c')) (h : Months w B A n ms) (h' : Rules w B A' n' rs) (hB : B ≤ w.heap.size) (hn : n ≤ 9223372036854775806) (hn' : n' ≤ 9223372036854775807) (hev : ∀ j, j < n' → 1 ≤ (rs.getD j r0).ev) (hy0 : 0 ≤ y) (hy1 : y ≤ 1000000000000) (hk : k < n) :
    Calls Tryz.prog 98 #[.pointer (some ⟨g, 0, none⟩), .int .i64 y, .int .i64 (k : Int)] w fun e w' => e = .returned (.int .i64 (dayK ms rs n' y ((k : Int) + 1))) ∧ ∃ q, w' = w.drewN q := by
  unfold dayK
  rw [dayB_k]
  obtain ⟨g2, off, rfl, hbl, c1, c2, c3⟩ := Months.at_ h hk
  obtain ⟨m, hm⟩ : ∃ m, ms.getD k m0 = m := ⟨_, rfl⟩
  rw [hm] at c1 c2 c3
  rw [hm]
  have i0 : (0 : Int) ≤ (k : Int) := Int.natCast_nonneg _
  have i1 : (k : Int) < (n : Int) := by omega
  have cL := l15Leap_q g A' n' c' B rs y w hg hc h' hB hn' hev hy0 hy1
  clear h hm h' hev
  cases hl : leapK rs y n'
  · rw [hl] at cL
    have CL := Lib.hid cL
    clear cL hl
    go_enter Tryz.func98, Tryz.ntmps98
    go_wp2_with (first | (go_at_call 113; refine CL.out.mono ?_; rintro e w' ⟨rfl, nq, rfl⟩) | fail)
    go_ret
    exact ⟨rfl, nq, rfl⟩
  · rw [hl] at cL
    have CL := Lib.hid cL
    clear cL hl
    go_enter Tryz.func98, Tryz.ntmps98
    go_wp2_with (first | (go_at_call 113; refine CL.out.mono ?_; rintro e w' ⟨rfl, nq, rfl⟩) | fail)
    go_ret
    exact ⟨rfl, nq, rfl⟩
theorem l15Days_any (g : Nat) (A A' : Option Addr) (n n' c c' B : Nat) (ms : List Mth) (rs : List Rul) (y i m : Int) (w : World) (hg : g < w.heap.size) (hc1 : w.cell? ⟨g, 1, none⟩ = some (.slice A n c)) (hc : w.cell? ⟨g, 2, none⟩ = some (.slice A' n' c')) (h : Months w B A n ms) (h' : Rules w B A' n' rs) (hB : B ≤ w.heap.size) (hn : n ≤ 9223372036854775806) (hn' : n' ≤ 9223372036854775807) (hev : ∀ j, j < n' → 1 ≤ (rs.getD j r0).ev) (hy0 : 0 ≤ y) (hy1 : y ≤ 1000000000000) (hi : i = m - 1) (h1 : 1 ≤ m) (h2 : m ≤ n) :
    Calls Tryz.prog 98 #[.pointer (some ⟨g, 0, none⟩), .int .i64 y, .int .i64 i] w fun e w' => e = .returned (.int .i64 (dayK ms rs n' y m)) ∧ ∃ q, w' = w.drewN q := by
  obtain ⟨k, rfl, hk⟩ := to_k h1 h2
  obtain rfl : i = (k : Int) := by omega
  exact l15Days_k g A A' n n' c c' B k ms rs y w hg hc1 hc h h' hB hn hn' hev hy0 hy1 hk
end Go.Proofs.YtmbdedkelckedaaGreatDoor

/- Contracts of the validity of dates, the program's and the reference's. No conditions but that there are fewer than 2^63 months and rules, no more than their row may hold. -/
namespace Go.Proofs.YtmbdedkelckedaaGreatDoor
open Go.RowKit
set_option linter.unusedVariables false
set_option linter.unusedSimpArgs false
/-- a day lies in a valid calendar -/
def dOk (ms : List Mth) (rs : List Rul) (n n' : Nat) (y m d : Int) : Bool := inB y 0 9999 && (inB m 1 n && inB d 1 (dayK ms rs n' y m))
theorem dOk_yes {ms : List Mth} {rs : List Rul} {n n' : Nat} {y m d : Int} (h : dOk ms rs n n' y m d = true) : (0 ≤ y ∧ y ≤ 9999) ∧ (1 ≤ m ∧ m ≤ n) ∧ 1 ≤ d ∧ d ≤ dayK ms rs n' y m := by
  unfold dOk at h
  rw [Bool.and_eq_true, Bool.and_eq_true] at h
  exact ⟨inB_yes h.1, inB_yes h.2.1, inB_yes h.2.2⟩
theorem vCal_yes {nm : ByteArray} {n n' : Nat} {ms : List Mth} {rs : List Rul} {we : Int} (h : vCal nm n n' ms rs we = true) : (∀ j, j < n' → ruleOk (rs.getD j r0) = true) ∧ cycK rs n' ≤ 2000 ∧ n' ≤ 6 ∧ (∀ j, j < n → mOk (ms.getD j m0) = true) ∧ (1 ≤ n ∧ n ≤ 20) ∧ 1 ≤ we ∧ we ≤ 12 := by
  unfold vCal at h
  rw [Bool.and_eq_true, Bool.and_eq_true, Bool.and_eq_true] at h
  obtain ⟨h1, h2, h3⟩ := vRules_yes h.1.1.1
  have h4 := h.1.2
  unfold vMonths at h4
  rw [Bool.and_eq_true, List.all_eq_true] at h4
  have h5 := inB_yes h4.2
  have h6 := inB_yes h.2
  refine ⟨h1, h2, h3, fun j hj => ?_, by omega, h6.1, h6.2⟩
  have h7 := h4.1 j (List.mem_range.2 hj)
  unfold mAt at h7
  rw [Bool.and_eq_true] at h7
  exact h7.1
theorem mOk_yes {m : Mth} (h : mOk m = true) : (1 ≤ m.dy ∧ m.dy ≤ 60) ∧ 1 ≤ m.lp ∧ m.lp ≤ 60 := by
  unfold mOk at h
  rw [Bool.and_eq_true, Bool.and_eq_true] at h
  exact ⟨inB_yes h.1.2, inB_yes h.2⟩
theorem dayK_bd {nm : ByteArray} {n n' : Nat} {ms : List Mth} {rs : List Rul} {we y m : Int} (h : vCal nm n n' ms rs we = true) (h1 : 1 ≤ m) (h2 : m ≤ n) : 1 ≤ dayK ms rs n' y m ∧ dayK ms rs n' y m ≤ 60 := by
  obtain ⟨k, rfl, hk⟩ := to_k h1 h2
  obtain ⟨_, _, _, h3, _⟩ := vCal_yes h
  have h4 := mOk_yes (h3 k hk)
  unfold dayK
  rw [dayB_k]
  split <;> omega
theorem vCal_ev {nm : ByteArray} {n n' : Nat} {ms : List Mth} {rs : List Rul} {we : Int} (h : vCal nm n n' ms rs we = true) : ∀ j, j < n' → 1 ≤ (rs.getD j r0).ev := fun j hj => (ruleOk_yes ((vCal_yes h).1 j hj)).1
theorem isYear_val (y : Int) (w : World) (v : Bool) (h : inB y 0 9999 = v) : Calls Tryz.prog 32 #[.int .i64 y] w fun e w' => e = .returned (.bool v) ∧ w = w' := by rw [← h]; exact isYear_any y w
end Go.Proofs.YtmbdedkelckedaaGreatDoor

/- Contracts of the validity of dates (the reference's) and of the next day, the program's and the reference's. No conditions but that there are fewer than 2^63 months and rules. -/
namespace Go.Proofs.YtmbdedkelckedaaGreatDoor
open Go.RowKit
set_option linter.unusedVariables false
set_option linter.unusedSimpArgs false
/-- the next day of a valid calendar -/
def nextY (n D y m d : Int) : Int := if D < d + 1 then if n < m + 1 then y + 1 else y else y
def nextM (n D m d : Int) : Int := if D < d + 1 then if n < m + 1 then 1 else m + 1 else m
def nextD (D d : Int) : Int := if D < d + 1 then 1 else d + 1
end Go.Proofs.YtmbdedkelckedaaGreatDoor

/- Contract of the next day, the reference's. No conditions but that there are fewer than 2^20 months. -/
namespace Go.Proofs.YtmbdedkelckedaaGreatDoor
open Go.RowKit
set_option linter.unusedVariables false
set_option linter.unusedSimpArgs false
/-- the date whose cells lie in block g -/
def DatAt (w : World) (g : Nat) (y m d : Int) : Prop :=
  w.cell? ⟨g, 0, none⟩ = some (.int .i64 y) ∧ w.cell? ⟨g, 1, none⟩ = some (.int .i64 m) ∧ w.cell? ⟨g, 2, none⟩ = some (.int .i64 d) ∧ ∀ o, w.frozen? ⟨g, o, none⟩ = false
section
variable {w w' : World} {g : Nat} {y m d : Int}
theorem DatAt.lt (h : DatAt w g y m d) : g < w.heap.size := World.block_lt_of_cell? w _ h.1
theorem DatAt.keep (h : DatAt w g y m d) (hk : w'.heap[g]? = w.heap[g]?) : DatAt w' g y m d := by
  have hc : ∀ o, w'.cell? ⟨g, o, none⟩ = w.cell? ⟨g, o, none⟩ := fun o => World.cell?_of_block (w := w) hk
  have hf : ∀ o, w'.frozen? ⟨g, o, none⟩ = w.frozen? ⟨g, o, none⟩ := fun o => World.frozen?_of_block (w := w) hk
  obtain ⟨h0, h1, h2, h3⟩ := h
  exact ⟨(hc 0).trans h0, (hc 1).trans h1, (hc 2).trans h2, fun o => (hf o).trans (h3 o)⟩
theorem DatAt.call (h : DatAt w g y m d) (hb : Below w.heap.size w w') : DatAt w' g y m d := h.keep (hb.block g h.lt)
theorem DatAt.drewN (h : DatAt w g y m d) (n : Nat) : DatAt (w.drewN n) g y m d := h
theorem DatAt.alloc (h : DatAt w g y m d) (o : Obj) : DatAt (w.alloc o) g y m d := h.keep (Below.heap_alloc w o g h.lt)
theorem DatAt.far (h : DatAt w g y m d) {p : Addr} (hp : p.block ≠ g) (u : Value) : DatAt (w.setCell p u) g y m d := h.keep (Below.heap_setCell w p u g (fun e => hp e.symm))
theorem DatAt.set0 (h : DatAt w g y m d) (v : Int) : DatAt (w.setCell ⟨g, 0, none⟩ (.int .i64 v)) g v m d :=
  ⟨World.cell?_setCell_same _ _ _ h.1, (World.cell?_setCell_other _ _ _ _ (by simp)).trans h.2.1, (World.cell?_setCell_other _ _ _ _ (by simp)).trans h.2.2.1, fun o => by rw [World.frozen?_setCell]; exact h.2.2.2 o⟩
theorem DatAt.set1 (h : DatAt w g y m d) (v : Int) : DatAt (w.setCell ⟨g, 1, none⟩ (.int .i64 v)) g y v d :=
  ⟨(World.cell?_setCell_other _ _ _ _ (by simp)).trans h.1, World.cell?_setCell_same _ _ _ h.2.1, (World.cell?_setCell_other _ _ _ _ (by simp)).trans h.2.2.1, fun o => by rw [World.frozen?_setCell]; exact h.2.2.2 o⟩
theorem DatAt.set2 (h : DatAt w g y m d) (v : Int) : DatAt (w.setCell ⟨g, 2, none⟩ (.int .i64 v)) g y m v :=
  ⟨(World.cell?_setCell_other _ _ _ _ (by simp)).trans h.1, (World.cell?_setCell_other _ _ _ _ (by simp)).trans h.2.1, World.cell?_setCell_same _ _ _ h.2.2.1, fun o => by rw [World.frozen?_setCell]; exact h.2.2.2 o⟩
theorem dat_new (w : World) (t : TypeId) (y m d : Int) : DatAt (w.alloc (.cells #[.int .i64 y, .int .i64 m, .int .i64 d] t)) w.heap.size y m d := ⟨by simp [go_sem], by simp [go_sem], by simp [go_sem], fun o => by simp [go_sem]⟩
end
/-- the world of a walk through the next day: the date in block B, the result behind it -/
structure DW (w W : World) (y m d : Int) : Prop where
  dt : DatAt W w.heap.size y m d
  rs : DatAt W (w.heap.size + 1) 0 0 0
  bl : Below w.heap.size w W
theorem DW.drewN {w W : World} {y m d : Int} (h : DW w W y m d) (n : Nat) : DW w (W.drewN n) y m d := ⟨h.dt, h.rs, below_drewN h.bl n⟩
theorem DW.set0 {w W : World} {y m d : Int} (h : DW w W y m d) (v : Int) : DW w (W.setCell ⟨w.heap.size, 0, none⟩ (.int .i64 v)) v m d := ⟨h.dt.set0 v, h.rs.far (by simp) _, h.bl.setCell (Nat.le_refl _) _⟩
theorem DW.set1 {w W : World} {y m d : Int} (h : DW w W y m d) (v : Int) : DW w (W.setCell ⟨w.heap.size, 1, none⟩ (.int .i64 v)) y v d := ⟨h.dt.set1 v, h.rs.far (by simp) _, h.bl.setCell (Nat.le_refl _) _⟩
theorem DW.set2 {w W : World} {y m d : Int} (h : DW w W y m d) (v : Int) : DW w (W.setCell ⟨w.heap.size, 2, none⟩ (.int .i64 v)) y m v := ⟨h.dt.set2 v, h.rs.far (by simp) _, h.bl.setCell (Nat.le_refl _) _⟩
theorem DW.start (w : World) (t : TypeId) (y m d : Int) : DW w ((w.alloc (.cells #[.int .i64 y, .int .i64 m, .int .i64 d] t)).alloc (.cells #[.int .i64 0, .int .i64 0, .int .i64 0] t)) y m d :=
  ⟨(dat_new w t y m d).alloc _, by have := dat_new (w.alloc (.cells #[.int .i64 y, .int .i64 m, .int .i64 d] t)) t 0 0 0; simpa using this, ((Below.refl w.heap.size w).alloc (Nat.le_refl _) _).alloc (by simp) _⟩
theorem below_rs {w W : World} (h : Below w.heap.size w W) {a b c : Value} : Below w.heap.size w (((W.setCell ⟨w.heap.size + 1, 0, none⟩ a).setCell ⟨w.heap.size + 1, 1, none⟩ b).setCell ⟨w.heap.size + 1, 2, none⟩ c) := ((h.setCell (by simp) _).setCell (by simp) _).setCell (by simp) _
end Go.Proofs.YtmbdedkelckedaaGreatDoor
