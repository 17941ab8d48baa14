/- Contract of the validity of a calendar, the program's. No conditions but that there are fewer than 2^63 months and rules, no more than their row may hold. -/
import Derived.Test.YthjldjbblaioaaaVal
namespace Go.Proofs.Ythjldjbblaioaaa
open Go.RowKit
set_option linter.unusedVariables false
set_option linter.unusedSimpArgs false
theorem CalAt.below {w w' : World} {B g : Nat} {nm : ByteArray} {A A' : Option Addr} {n n' c c' : Nat} {we : Int} (h : CalAt w g nm A A' n n' c c' we) (hg : g < B) (hb : Below B w w') : CalAt w' g nm A A' n n' c c' we :=
  ⟨Nat.lt_of_lt_of_le h.lt hb.size, (hb.cell (p := ⟨g, 0, none⟩) hg).trans h.c0, (hb.cell (p := ⟨g, 1, none⟩) hg).trans h.c1, (hb.cell (p := ⟨g, 2, none⟩) hg).trans h.c2, (hb.cell (p := ⟨g, 3, none⟩) hg).trans h.c3⟩
theorem cal_new (w : World) (t : TypeId) (nm : ByteArray) (A A' : Option Addr) (n n' c c' : Nat) (we : Int) : CalAt (w.alloc (.cells #[.string nm, .slice A n c, .slice A' n' c', .int .i64 we] t)) w.heap.size nm A A' n n' c c' we :=
  ⟨by simp, by simp [go_sem], by simp [go_sem], by simp [go_sem], by simp [go_sem]⟩
theorem within_val (n lo hi : Int) (w : World) (v : Bool) (h : inB n lo hi = v) : Calls Try.prog 43 #[.int .i64 n, .int .i64 lo, .int .i64 hi] w fun e w' => e = .returned (.bool v) ∧ w = w' := by
  rw [← h]; exact within_any n lo hi w
theorem getD_take {α : Type} (l : List α) (d : α) {k j : Nat} (h : j < k) : (l.take k).getD j d = l.getD j d := by
  simp [List.getD_eq_getElem?_getD, List.getElem?_take, h]
theorem Months.take {w : World} {B n k : Nat} {A : Option Addr} {ms : List Mth} (h : Months w B A n ms) (hk : k ≤ n) : Months w B A k (ms.take k) := by
  have hl := h.len
  refine ⟨by simp; omega, fun h0 => ?_⟩
  obtain ⟨b, off, e, hb, hc⟩ := h.2 (by omega)
  refine ⟨b, off, e, hb, fun j hj => ?_⟩
  have := hc j (by omega)
  rwa [← getD_take _ _ hj, ← List.map_take] at this
theorem hasName_take {ms : List Mth} {k : Nat} {x : List UInt8} : hasName (ms.take k) k x = hasName ms k x := by
  unfold hasName
  rw [Bool.eq_iff_iff, List.any_eq_true, List.any_eq_true]
  constructor
  · rintro ⟨j, hj, he⟩
    have hj2 := List.mem_range.1 hj
    refine ⟨j, hj, ?_⟩
    unfold nmL at he ⊢
    rwa [getD_take _ _ hj2] at he
  · rintro ⟨j, hj, he⟩
    have hj2 := List.mem_range.1 hj
    refine ⟨j, hj, ?_⟩
    unfold nmL at he ⊢
    rwa [getD_take _ _ hj2]
theorem mAt_has {ms : List Mth} {i : Nat} : mAt ms i = (mOk (ms.getD i m0) && !hasName ms i (nmL ms i)) := by
  unfold mAt hasName
  rw [List.not_any_eq_all_not]
/-- what the program's test answers at each stage -/
theorem vCal_nm {nm : ByteArray} {n n' : Nat} {ms : List Mth} {rs : List Rul} {we : Int} (h : vName nm.data.toList = false) : vCal nm n n' ms rs we = false := by unfold vCal; rw [h]; simp
theorem vCal_we {nm : ByteArray} {n n' : Nat} {ms : List Mth} {rs : List Rul} {we : Int} (h : inB we 1 12 = false) : vCal nm n n' ms rs we = false := by unfold vCal; rw [h]; simp
theorem vCal_n {nm : ByteArray} {n n' : Nat} {ms : List Mth} {rs : List Rul} {we : Int} (h : inB n 1 20 = false) : vCal nm n n' ms rs we = false := by unfold vCal vMonths; rw [h]; simp
theorem vCal_n' {nm : ByteArray} {n n' : Nat} {ms : List Mth} {rs : List Rul} {we : Int} (h : ¬ (n' ≤ 6)) : vCal nm n n' ms rs we = false := by unfold vCal vRules; simp [h]
theorem vCal_m {nm : ByteArray} {n n' : Nat} {ms : List Mth} {rs : List Rul} {we : Int} (h : vMonths ms n = false) : vCal nm n n' ms rs we = false := by unfold vCal; rw [h]; simp
theorem vCal_r {nm : ByteArray} {n n' : Nat} {ms : List Mth} {rs : List Rul} {we : Int} (h : vRules rs n' = false) : vCal nm n n' ms rs we = false := by unfold vCal; rw [h]; simp
theorem vCal_end {nm : ByteArray} {n n' : Nat} {ms : List Mth} {rs : List Rul} {we : Int} (h1 : vName nm.data.toList = true) (h2 : inB we 1 12 = true) (h3 : vMonths ms n = true) : vCal nm n n' ms rs we = vRules rs n' := by unfold vCal; rw [h1, h2, h3]; simp
set_option maxHeartbeats 4000000 in
theorem ValidCalendar_any (nm : ByteArray) (A A' : Option Addr) (n n' c c' B : Nat) (ms : List Mth) (rs : List Rul) (we : Int) (w : World) (h : Months w B A n ms) (h' : Rules w B A' n' rs) (hB : B ≤ w.heap.size) (hn : n ≤ c) (hc : c ≤ 9223372036854775807) (hn' : n' ≤ 9223372036854775807) :
    Calls Try.prog 40 #[.agg #[.string nm, .slice A n c, .slice A' n' c', .int .i64 we]] w fun e w' => e = .returned (.bool (vCal nm n n' ms rs we)) ∧ Below w.heap.size w w' := by
  have H := Lib.hid (Tri.more h hB)
  have H' := Lib.hid (Tri.more h' hB)
  clear h h'
  cases h1 : vName nm.data.toList
  · have HV := Lib.hid (vCal_nm (n := n) (n' := n') (ms := ms) (rs := rs) (we := we) h1)
    have H1 := Lib.hid h1
    clear h1
    go_enter Try.func40, Try.ntmps40
    go_wp2_with (first | (go_at_call 95; refine (IsName_any nm _).mono ?_; rintro e w1 ⟨rfl, hb1⟩; rw [H1.out]; have K1 := Lib.hid ((cal_new w 27 nm A A' n n' c c' we).call hb1); have p1 := K1.out.c1; have p2 := K1.out.c2; have p3 := K1.out.c3; have HB1 : Hid (Below w.heap.size w w1) := Lib.hid (by (repeat (first | with_reducible exact Below.refl _ _ | with_reducible refine below_alloc ?_ _ | with_reducible refine below_drewN ?_ _ | with_reducible refine Below.drew ?_ | ((with_reducible refine below_set ?_ ?_ _); rotate_left; (focus (first | (simp; done) | (simp; omega) | omega))) | with_reducible refine below_call ?_ (by assumption)))); clear hb1) | fail)
    go_ret
    exact ⟨by rw [HV.out]; rfl, HB1.out⟩
  by_cases a1 : (n : Int) < 1
  · have HV := Lib.hid (vCal_n (nm := nm) (n := n) (n' := n') (ms := ms) (rs := rs) (we := we) (by unfold inB; simp; omega))
    have H1 := Lib.hid h1
    clear h1
    go_enter Try.func40, Try.ntmps40
    go_wp2_with (first | (go_at_call 95; refine (IsName_any nm _).mono ?_; rintro e w1 ⟨rfl, hb1⟩; rw [H1.out]; have K1 := Lib.hid ((cal_new w 27 nm A A' n n' c c' we).call hb1); have p1 := K1.out.c1; have p2 := K1.out.c2; have p3 := K1.out.c3; have HB1 : Hid (Below w.heap.size w w1) := Lib.hid (by (repeat (first | with_reducible exact Below.refl _ _ | with_reducible refine below_alloc ?_ _ | with_reducible refine below_drewN ?_ _ | with_reducible refine Below.drew ?_ | ((with_reducible refine below_set ?_ ?_ _); rotate_left; (focus (first | (simp; done) | (simp; omega) | omega))) | with_reducible refine below_call ?_ (by assumption)))); clear hb1) | fail)
    go_ret
    exact ⟨by rw [HV.out]; rfl, HB1.out⟩
  by_cases a2 : 20 < (n : Int)
  · have HV := Lib.hid (vCal_n (nm := nm) (n := n) (n' := n') (ms := ms) (rs := rs) (we := we) (by unfold inB; simp; omega))
    have H1 := Lib.hid h1
    clear h1
    go_enter Try.func40, Try.ntmps40
    go_wp2_with (first | (go_at_call 95; refine (IsName_any nm _).mono ?_; rintro e w1 ⟨rfl, hb1⟩; rw [H1.out]; have K1 := Lib.hid ((cal_new w 27 nm A A' n n' c c' we).call hb1); have p1 := K1.out.c1; have p2 := K1.out.c2; have p3 := K1.out.c3; have HB1 : Hid (Below w.heap.size w w1) := Lib.hid (by (repeat (first | with_reducible exact Below.refl _ _ | with_reducible refine below_alloc ?_ _ | with_reducible refine below_drewN ?_ _ | with_reducible refine Below.drew ?_ | ((with_reducible refine below_set ?_ ?_ _); rotate_left; (focus (first | (simp; done) | (simp; omega) | omega))) | with_reducible refine below_call ?_ (by assumption)))); clear hb1) | fail)
    go_ret
    exact ⟨by rw [HV.out]; rfl, HB1.out⟩
  by_cases a3 : 6 < (n' : Int)
  · have HV := Lib.hid (vCal_n' (nm := nm) (n := n) (n' := n') (ms := ms) (rs := rs) (we := we) (by omega))
    have H1 := Lib.hid h1
    clear h1
    go_enter Try.func40, Try.ntmps40
    go_wp2_with (first | (go_at_call 95; refine (IsName_any nm _).mono ?_; rintro e w1 ⟨rfl, hb1⟩; rw [H1.out]; have K1 := Lib.hid ((cal_new w 27 nm A A' n n' c c' we).call hb1); have p1 := K1.out.c1; have p2 := K1.out.c2; have p3 := K1.out.c3; have HB1 : Hid (Below w.heap.size w w1) := Lib.hid (by (repeat (first | with_reducible exact Below.refl _ _ | with_reducible refine below_alloc ?_ _ | with_reducible refine below_drewN ?_ _ | with_reducible refine Below.drew ?_ | ((with_reducible refine below_set ?_ ?_ _); rotate_left; (focus (first | (simp; done) | (simp; omega) | omega))) | with_reducible refine below_call ?_ (by assumption)))); clear hb1) | fail)
    go_ret
    exact ⟨by rw [HV.out]; rfl, HB1.out⟩
  cases h2 : inB we 1 12
  · have HV := Lib.hid (vCal_we (nm := nm) (n := n) (n' := n') (ms := ms) (rs := rs) (we := we) h2)
    have H1 := Lib.hid h1
    have H2 := Lib.hid h2
    clear h1 h2
    go_enter Try.func40, Try.ntmps40
    go_wp2_with (first | (go_at_call 95; refine (IsName_any nm _).mono ?_; rintro e w1 ⟨rfl, hb1⟩; rw [H1.out]; have K1 := Lib.hid ((cal_new w 27 nm A A' n n' c c' we).call hb1); have p1 := K1.out.c1; have p2 := K1.out.c2; have p3 := K1.out.c3; have HB1 : Hid (Below w.heap.size w w1) := Lib.hid (by (repeat (first | with_reducible exact Below.refl _ _ | with_reducible refine below_alloc ?_ _ | with_reducible refine below_drewN ?_ _ | with_reducible refine Below.drew ?_ | ((with_reducible refine below_set ?_ ?_ _); rotate_left; (focus (first | (simp; done) | (simp; omega) | omega))) | with_reducible refine below_call ?_ (by assumption)))); clear hb1) | (go_at_call 43; refine (within_val _ _ _ _ _ H2.out).mono ?_; rintro e w3 ⟨rfl, rfl⟩) | fail)
    go_ret
    exact ⟨by rw [HV.out]; rfl, HB1.out⟩
  have HVM := Lib.hid (fun h => vCal_m (nm := nm) (n := n) (n' := n') (ms := ms) (rs := rs) (we := we) h)
  have HVR := Lib.hid (fun h => vCal_r (nm := nm) (n := n) (n' := n') (ms := ms) (rs := rs) (we := we) h)
  have HVE := Lib.hid (fun h => vCal_end (nm := nm) (n := n) (n' := n') (ms := ms) (rs := rs) (we := we) h1 h2 h)
  have H1 := Lib.hid h1
  have H2 := Lib.hid h2
  have hn20 : n ≤ 20 := by omega
  have hn1 : 1 ≤ n := by omega
  have hn6 : n' ≤ 6 := by omega
  clear h1 h2
  go_enter Try.func40, Try.ntmps40
  go_wp2_with (first | (go_at_call 95; refine (IsName_any nm _).mono ?_; rintro e w1 ⟨rfl, hb1⟩; rw [H1.out]; have K1 := Lib.hid ((cal_new w 27 nm A A' n n' c c' we).call hb1); have p1 := K1.out.c1; have p2 := K1.out.c2; have p3 := K1.out.c3; have HB1 : Hid (Below w.heap.size w w1) := Lib.hid (by (repeat (first | with_reducible exact Below.refl _ _ | with_reducible refine below_alloc ?_ _ | with_reducible refine below_drewN ?_ _ | with_reducible refine Below.drew ?_ | ((with_reducible refine below_set ?_ ?_ _); rotate_left; (focus (first | (simp; done) | (simp; omega) | omega))) | with_reducible refine below_call ?_ (by assumption)))); clear hb1) | (go_at_call 43; refine (within_val _ _ _ _ _ H2.out).mono ?_; rintro e w3 ⟨rfl, rfl⟩) | fail)
  go_loopw [3, 4, 38] (fun _ _ t wr => ∃ k : Nat, t = .int .i64 k ∧ k ≤ n ∧ Hid (∀ j, j < k → mAt ms j = true) ∧ Hid (CalAt wr w.heap.size nm A A' n n' c c' we) ∧ Below w.heap.size w wr) (fun _ _ t _ => n - (intOf t).toNat)
  case atStart => exact ⟨0, rfl, Nat.zero_le _, Lib.hid (fun j hj => absurd hj (by omega)), K1, HB1.out⟩
  case round =>
    obtain ⟨k, rfl, hk, hA, hC, hb⟩ := hrel
    clear p1 p2 p3 HB1 K1
    have i0 : (0 : Int) ≤ (k : Int) := Int.natCast_nonneg _
    by_cases hlt : k < n
    · have i1 : (k : Int) < (n : Int) := by omega
      obtain ⟨b, off, rfl, hbl, c1, c2, c3⟩ := Months.at_ (Tri.below H.out hb) hlt
      have HVB := Lib.hid (fun h => HVM.out (vMonths_bad (ms := ms) hlt h))
      have HMA := Lib.hid (@mAt_has ms k)
      have zc := hC.out.lt
      have z0 := hb.size
      obtain ⟨m, hm⟩ : ∃ m, ms.getD k m0 = m := ⟨_, rfl⟩
      have HNK := Lib.hid (show nmL ms k = m.nm.toList by unfold nmL; rw [hm, ByteArray.toList_eq])
      rw [hm] at c1 c2 c3 HMA
      have HB := Lib.hid hb
      clear hm hb
      cases q1 : vName m.nm.data.toList
      · have HV := Lib.hid (HVB.out (HMA.out.trans (by unfold mOk; rw [q1]; rfl)))
        have Q1 := Lib.hid q1
        clear q1
        go_wp2_with (first | (go_at_call 95; refine (IsName_any m.nm _).mono ?_; rintro e w2 ⟨rfl, hb2⟩; rw [Q1.out]; have HB2 : Hid (Below wr.heap.size wr w2) := Lib.hid (by (repeat (first | with_reducible exact Below.refl _ _ | with_reducible refine below_alloc ?_ _ | with_reducible refine below_drewN ?_ _ | with_reducible refine Below.drew ?_ | ((with_reducible refine below_set ?_ ?_ _); rotate_left; (focus (first | (simp; done) | (simp; omega) | omega))) | with_reducible refine below_call ?_ (by assumption)))); clear hb2) | fail)
        go_ret
        exact ⟨by rw [HV.out]; rfl, below_call HB.out HB2.out⟩
      cases q2 : inB m.dy 1 60
      · have HV := Lib.hid (HVB.out (HMA.out.trans (by unfold mOk; rw [q1, q2]; rfl)))
        have Q1 := Lib.hid q1
        have Q2 := Lib.hid q2
        have Q3 := Lib.hid q2
        clear q1 q2
        go_wp2_with (first | (go_at_call 95; refine (IsName_any m.nm _).mono ?_; rintro e w2 ⟨rfl, hb2⟩; rw [Q1.out]; have HB2 : Hid (Below wr.heap.size wr w2) := Lib.hid (by (repeat (first | with_reducible exact Below.refl _ _ | with_reducible refine below_alloc ?_ _ | with_reducible refine below_drewN ?_ _ | with_reducible refine Below.drew ?_ | ((with_reducible refine below_set ?_ ?_ _); rotate_left; (focus (first | (simp; done) | (simp; omega) | omega))) | with_reducible refine below_call ?_ (by assumption)))); have p1 := (hC.out.call HB2.out).c1; have d1 := cell_call hb2 (p := ⟨wr.heap.size, 0, none⟩) (v := .string m.nm) (by simp) (by simp [go_sem]); have d2 := cell_call hb2 (p := ⟨wr.heap.size, 1, none⟩) (v := .int .i64 m.dy) (by simp) (by simp [go_sem]); have d3 := cell_call hb2 (p := ⟨wr.heap.size, 2, none⟩) (v := .int .i64 m.lp) (by simp) (by simp [go_sem]); have zw2 : wr.heap.size < w2.heap.size := lt_call hb2 (by simp); clear hb2) | (go_at_call 43; refine (within_val _ _ _ _ _ (by first | exact Q2.out | exact Q3.out)).mono ?_; rintro e w3 ⟨rfl, rfl⟩) | fail)
        go_ret
        exact ⟨by rw [HV.out]; rfl, below_call HB.out HB2.out⟩
      cases q3 : inB m.lp 1 60
      · have HV := Lib.hid (HVB.out (HMA.out.trans (by unfold mOk; rw [q1, q2, q3]; rfl)))
        have Q1 := Lib.hid q1
        have Q2 := Lib.hid q2
        have Q3 := Lib.hid q3
        clear q1 q2 q3
        go_wp2_with (first | (go_at_call 95; refine (IsName_any m.nm _).mono ?_; rintro e w2 ⟨rfl, hb2⟩; rw [Q1.out]; have HB2 : Hid (Below wr.heap.size wr w2) := Lib.hid (by (repeat (first | with_reducible exact Below.refl _ _ | with_reducible refine below_alloc ?_ _ | with_reducible refine below_drewN ?_ _ | with_reducible refine Below.drew ?_ | ((with_reducible refine below_set ?_ ?_ _); rotate_left; (focus (first | (simp; done) | (simp; omega) | omega))) | with_reducible refine below_call ?_ (by assumption)))); have p1 := (hC.out.call HB2.out).c1; have d1 := cell_call hb2 (p := ⟨wr.heap.size, 0, none⟩) (v := .string m.nm) (by simp) (by simp [go_sem]); have d2 := cell_call hb2 (p := ⟨wr.heap.size, 1, none⟩) (v := .int .i64 m.dy) (by simp) (by simp [go_sem]); have d3 := cell_call hb2 (p := ⟨wr.heap.size, 2, none⟩) (v := .int .i64 m.lp) (by simp) (by simp [go_sem]); have zw2 : wr.heap.size < w2.heap.size := lt_call hb2 (by simp); clear hb2) | (go_at_call 43; refine (within_val _ _ _ _ _ (by first | exact Q2.out | exact Q3.out)).mono ?_; rintro e w3 ⟨rfl, rfl⟩) | fail)
        go_ret
        exact ⟨by rw [HV.out]; rfl, below_call HB.out HB2.out⟩
      have HMO := Lib.hid (show mOk m = true by unfold mOk; rw [q1, q2, q3]; rfl)
      cases q4 : hasName ms k m.nm.toList
      · have HV := Lib.hid (HMA.out.trans (by rw [HNK.out, q4, HMO.out]; first | done | rfl))
        have Q1 := Lib.hid q1
        have Q2 := Lib.hid q2
        have Q3 := Lib.hid q3
        have Q4 := Lib.hid q4
        clear q1 q2 q3 q4
        go_wp2_with (first | (go_at_call 95; refine (IsName_any m.nm _).mono ?_; rintro e w2 ⟨rfl, hb2⟩; rw [Q1.out]; have HB2 : Hid (Below wr.heap.size wr w2) := Lib.hid (by (repeat (first | with_reducible exact Below.refl _ _ | with_reducible refine below_alloc ?_ _ | with_reducible refine below_drewN ?_ _ | with_reducible refine Below.drew ?_ | ((with_reducible refine below_set ?_ ?_ _); rotate_left; (focus (first | (simp; done) | (simp; omega) | omega))) | with_reducible refine below_call ?_ (by assumption)))); have p1 := (hC.out.call HB2.out).c1; have d1 := cell_call hb2 (p := ⟨wr.heap.size, 0, none⟩) (v := .string m.nm) (by simp) (by simp [go_sem]); have d2 := cell_call hb2 (p := ⟨wr.heap.size, 1, none⟩) (v := .int .i64 m.dy) (by simp) (by simp [go_sem]); have d3 := cell_call hb2 (p := ⟨wr.heap.size, 2, none⟩) (v := .int .i64 m.lp) (by simp) (by simp [go_sem]); have zw2 : wr.heap.size < w2.heap.size := lt_call hb2 (by simp); clear hb2) | (go_at_call 43; refine (within_val _ _ _ _ _ (by first | exact Q2.out | exact Q3.out)).mono ?_; rintro e w3 ⟨rfl, rfl⟩) | (go_at_call 96; refine (ContainsFunc_any _ k c w.heap.size wr.heap.size (ms.take k) m.nm _ (Months.take (Tri.below H.out (below_call HB.out HB2.out)) hk) (below_call HB.out HB2.out).size (by omega) zw2 d1).mono ?_; rintro e w4 ⟨rfl, hb4⟩; rw [hasName_take, Q4.out]; have HB4 : Hid (Below wr.heap.size wr w4) := Lib.hid (HB2.out.trans (hb4.mono HB2.out.size)); clear hb4) | fail)
        go_roundw
        case rel =>
          refine ⟨k + 1, by go_num, by omega, Lib.hid (fun j hj => ?_), Lib.hid (hC.out.call HB4.out), below_call HB.out HB4.out⟩
          by_cases e : j = k
          · subst e; exact HV.out
          · exact hA.out j (by omega)
        case measure => simp [intOf]; omega
      · have HV := Lib.hid (HVB.out (HMA.out.trans (by rw [HNK.out, q4, HMO.out]; rfl)))
        have Q1 := Lib.hid q1
        have Q2 := Lib.hid q2
        have Q3 := Lib.hid q3
        have Q4 := Lib.hid q4
        clear q1 q2 q3 q4
        go_wp2_with (first | (go_at_call 95; refine (IsName_any m.nm _).mono ?_; rintro e w2 ⟨rfl, hb2⟩; rw [Q1.out]; have HB2 : Hid (Below wr.heap.size wr w2) := Lib.hid (by (repeat (first | with_reducible exact Below.refl _ _ | with_reducible refine below_alloc ?_ _ | with_reducible refine below_drewN ?_ _ | with_reducible refine Below.drew ?_ | ((with_reducible refine below_set ?_ ?_ _); rotate_left; (focus (first | (simp; done) | (simp; omega) | omega))) | with_reducible refine below_call ?_ (by assumption)))); have p1 := (hC.out.call HB2.out).c1; have d1 := cell_call hb2 (p := ⟨wr.heap.size, 0, none⟩) (v := .string m.nm) (by simp) (by simp [go_sem]); have d2 := cell_call hb2 (p := ⟨wr.heap.size, 1, none⟩) (v := .int .i64 m.dy) (by simp) (by simp [go_sem]); have d3 := cell_call hb2 (p := ⟨wr.heap.size, 2, none⟩) (v := .int .i64 m.lp) (by simp) (by simp [go_sem]); have zw2 : wr.heap.size < w2.heap.size := lt_call hb2 (by simp); clear hb2) | (go_at_call 43; refine (within_val _ _ _ _ _ (by first | exact Q2.out | exact Q3.out)).mono ?_; rintro e w3 ⟨rfl, rfl⟩) | (go_at_call 96; refine (ContainsFunc_any _ k c w.heap.size wr.heap.size (ms.take k) m.nm _ (Months.take (Tri.below H.out (below_call HB.out HB2.out)) hk) (below_call HB.out HB2.out).size (by omega) zw2 d1).mono ?_; rintro e w4 ⟨rfl, hb4⟩; rw [hasName_take, Q4.out]; have HB4 : Hid (Below wr.heap.size wr w4) := Lib.hid (HB2.out.trans (hb4.mono HB2.out.size)); clear hb4) | fail)
        go_ret
        exact ⟨by rw [HV.out]; rfl, below_call HB.out HB4.out⟩
    · have HVM2 := Lib.hid (show vMonths ms n = true by rw [vMonths_good (fun j hj => hA.out j (by omega))]; exact inB_mk (by omega) (by omega))
      have HVE2 := Lib.hid (HVE.out HVM2.out)
      have p2 := hC.out.c2
      clear HVM HVE HVM2
      go_wp2
      go_loopw [6, 69] (fun _ t wr => ∃ k : Nat, t = .int .i64 k ∧ k ≤ n' ∧ Hid (∀ j, j < k → ruleOk (rs.getD j r0) = true) ∧ Hid (CalAt wr w.heap.size nm A A' n n' c c' we) ∧ Below w.heap.size w wr) (fun _ t _ => n' - (intOf t).toNat)
      case atStart => exact ⟨0, rfl, Nat.zero_le _, Lib.hid (fun j hj => absurd hj (by omega)), hC, hb⟩
      case round =>
        clear hb
        clear p2
        obtain ⟨i, rfl, hi, hR, hC2, hb⟩ := hrel
        have j0 : (0 : Int) ≤ (i : Int) := Int.natCast_nonneg _
        by_cases hlt2 : i < n'
        · have j1 : (i : Int) < (n' : Int) := by omega
          obtain ⟨b', off', rfl, hbl', f1, f2, f3⟩ := Rules.at_ (Tri.below H'.out hb) hlt2
          have HVB := Lib.hid (fun h => HVR.out (vRules_bad (rs := rs) hlt2 h))
          obtain ⟨r, hr⟩ : ∃ r, rs.getD i r0 = r := ⟨_, rfl⟩
          rw [hr] at f1 f2 f3 HVB
          have HRR := Lib.hid hr
          have HB := Lib.hid hb
          clear hr hb
          cases q1 : inB r.ev 1 1000
          · have HV := Lib.hid (HVB.out (by unfold ruleOk; rw [q1]; rfl))
            have Q2 := Lib.hid q1
            have Q3 := Lib.hid q1
            clear q1
            go_wp2_with (first | (go_at_call 43; refine (within_val _ _ _ _ _ (by first | exact Q2.out | exact Q3.out)).mono ?_; rintro e w3 ⟨rfl, rfl⟩) | fail)
            go_ret
            exact ⟨by rw [HV.out]; rfl, below_call HB.out (by (repeat (first | with_reducible exact Below.refl _ _ | with_reducible refine below_alloc ?_ _ | with_reducible refine below_drewN ?_ _ | with_reducible refine Below.drew ?_ | ((with_reducible refine below_set ?_ ?_ _); rotate_left; (focus (first | (simp; done) | (simp; omega) | omega))) | with_reducible refine below_call ?_ (by assumption))))⟩
          have k1 := inB_yes q1
          have k2 : IntKind.i64.wrap (r.ev - 1) = r.ev - 1 := IntWalk.i64_in _ (by omega)
          cases q2 : inB r.rs 0 (r.ev - 1)
          · have HV := Lib.hid (HVB.out (by unfold ruleOk; rw [q1, q2]; rfl))
            have Q2 := Lib.hid q1
            have Q3 := Lib.hid q2
            clear q1 q2
            go_wp2_with (first | (go_at_call 43; refine (within_val _ _ _ _ _ (by first | exact Q2.out | exact Q3.out)).mono ?_; rintro e w3 ⟨rfl, rfl⟩) | fail)
            go_ret
            exact ⟨by rw [HV.out]; rfl, below_call HB.out (by (repeat (first | with_reducible exact Below.refl _ _ | with_reducible refine below_alloc ?_ _ | with_reducible refine below_drewN ?_ _ | with_reducible refine Below.drew ?_ | ((with_reducible refine below_set ?_ ?_ _); rotate_left; (focus (first | (simp; done) | (simp; omega) | omega))) | with_reducible refine below_call ?_ (by assumption))))⟩
          have HRO := Lib.hid (show ruleOk r = true by unfold ruleOk; rw [q1, q2]; rfl)
          have Q2 := Lib.hid q1
          have Q3 := Lib.hid q2
          clear q1 q2
          go_wp2_with (first | (go_at_call 43; refine (within_val _ _ _ _ _ (by first | exact Q2.out | exact Q3.out)).mono ?_; rintro e w3 ⟨rfl, rfl⟩) | fail)
          go_roundw
          case rel =>
            refine ⟨i + 1, by go_num, by omega, Lib.hid (fun j hj => ?_), Lib.hid (hC2.out.call (by (repeat (first | with_reducible exact Below.refl _ _ | with_reducible refine below_alloc ?_ _ | with_reducible refine below_drewN ?_ _ | with_reducible refine Below.drew ?_ | ((with_reducible refine below_set ?_ ?_ _); rotate_left; (focus (first | (simp; done) | (simp; omega) | omega))) | with_reducible refine below_call ?_ (by assumption))))), below_call HB.out (by (repeat (first | with_reducible exact Below.refl _ _ | with_reducible refine below_alloc ?_ _ | with_reducible refine below_drewN ?_ _ | with_reducible refine Below.drew ?_ | ((with_reducible refine below_set ?_ ?_ _); rotate_left; (focus (first | (simp; done) | (simp; omega) | omega))) | with_reducible refine below_call ?_ (by assumption))))⟩
            by_cases e : j = i
            · subst e; rw [HRR.out]; exact HRO.out
            · exact hR.out j (by omega)
          case measure => simp [intOf]; omega
        · have HRS := Lib.hid (fun j (hj : j < n') => ruleOk_yes (hR.out j (by omega)))
          have HVE3 := Lib.hid (fun h => HVE2.out.trans (vRules_good (rs := rs) (n := n') (fun j hj => hR.out j (by omega)) h))
          have HVR3 := Lib.hid (fun h => HVR.out (vRules_big (rs := rs) (n := n') (k := n') (Nat.le_refl _) h))
          have p2 := hC2.out.c2
          have HB := Lib.hid hb
          have hz := hb.size
          clear hb
          cases hy : decide (cycK rs n' ≤ 2000)
          · have hy2 : ¬ (cycK rs n' ≤ 2000) := by simpa using hy
            have HV := Lib.hid (HVR3.out hy2)
            go_wp2_with (first | (go_at_call 64; refine (cycleYears_any A' n' c' w.heap.size rs _ (Tri.below H'.out HB.out) hz hn' (fun j hj => ⟨(HRS.out j hj).1, (HRS.out j hj).2.1⟩)).mono ?_; rintro e w5 ⟨rfl, hb5⟩) | fail)
            go_ret
            exact ⟨by rw [HV.out]; simp [hy2], below_call HB.out hb5⟩
          · have hy2 : cycK rs n' ≤ 2000 := by simpa using hy
            have HV := Lib.hid (HVE3.out hy2)
            go_wp2_with (first | (go_at_call 64; refine (cycleYears_any A' n' c' w.heap.size rs _ (Tri.below H'.out HB.out) hz hn' (fun j hj => ⟨(HRS.out j hj).1, (HRS.out j hj).2.1⟩)).mono ?_; rintro e w5 ⟨rfl, hb5⟩) | fail)
            go_ret
            exact ⟨by rw [HV.out]; simp [hy2, hn6], below_call HB.out hb5⟩
end Go.Proofs.Ythjldjbblaioaaa
