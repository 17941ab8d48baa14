/- Copies of a perpetual work, its midnights and what it shows. No conditions but those of a valid work. -/
import Derived.Test.YthjldjbblaioaaaWork
namespace Go.Proofs.Ythjldjbblaioaaa
open Go.RowKit
set_option linter.unusedVariables false
set_option linter.unusedSimpArgs false
theorem work_new (w : World) (T : TypeId) (S : Value) (mo te ix da we wd : Int) : Work (w.alloc (.cells #[S, .int .i64 mo, .int .i64 te, .int .i64 ix, .int .i64 da, .int .i64 we, .int .i64 wd] T)) w.heap.size S mo te ix da we wd :=
  ⟨by simp, by simp, by simp, by simp, by simp, by simp, by simp, fun o => by simp⟩
theorem own_appM {w : World} {base n m : Nat} {zs ys : List Int} {v' : Value} (hm : 1 ≤ m) (h : w.ownsRow base 2 1 v' (n + m) (zs.map (Value.int .i64) ++ ys.map (Value.int .i64))) :
    ∃ A' c', v' = .slice A' (n + m) c' ∧ Own w base A' (n + m) c' (zs ++ ys) := by
  rcases h.2 with ⟨_, h0⟩ | ⟨g, cap, cur, e, _⟩
  · omega
  · refine ⟨_, _, e, ?_⟩
    subst e
    have e2 : (zs ++ ys).map (Value.int .i64) = zs.map (Value.int .i64) ++ ys.map (Value.int .i64) := by simp
    unfold Own
    rw [e2]; exact h
theorem wpList_appM {ops : Array Oper} {rest : List Oper} {o : Oper} {a : Act} {Q : Exit → Act → World → Prop} (hgd : o.guard = none) (s x : Operand)
    (ho : o.op = .call { callee := .builtin .append, args := #[s, x], argTypes := #[30, 30] })
    (w : World) (base B : Nat) (A : Option Addr) (n c : Nat) (zs : List Int) (hs : a.eval s = .slice A n c) (hown : Own w base A n c zs) (X : Option Addr) (m cx : Nat) (ys : List Int) (hx : a.eval x = .slice X m cx)
    (hy : Ints w B X m ys) (hm : 1 ≤ m) (hn : n + m ≤ 1000000000000) (hb : base ≤ w.heap.size)
    (h : ∀ A' c' w', Own w' base A' (n + m) c' (zs ++ ys) → Below base w w' → wpList Try.prog ops Q rest (a.put o.dst (.slice A' (n + m) c')) w') : wpList Try.prog ops Q (o :: rest) a w := by
  obtain ⟨i0, hi, hz0, hz1, hz2⟩ := info_parts info_int64
  obtain ⟨b, off, rfl, hbl, hc⟩ := hy.2 (by omega)
  have hl := hy.len
  refine wpList_append_own_at (P := Try.prog) w hgd s x 30 ho base 2 i0 (.int .i64 0) 1 8 Try.underlying30 hi hz0 hz1 hz2 rfl (by omega) (.slice A n c) n (zs.map (Value.int .i64)) hs hown ⟨b, off, none⟩ m cx (ys.map (Value.int .i64)) hx (by simp [hl])
    (fun j u hj => ?_) (by simp [Value.oneCell']) (by simp only [maxLen]; omega) (by omega) hb (fun v' w' h1 h2 _ _ => ?_)
  · have hj2 : j < ys.length := by have := (List.getElem?_eq_some_iff.1 hj).1; simpa using this
    have := hc j (by omega)
    rw [getD_of hj2] at this
    rw [List.getElem?_map, List.getElem?_eq_getElem hj2] at hj
    simp at hj
    subst hj
    have e : (⟨b, off, none⟩ : Addr).add j = ⟨b, off + j, none⟩ := by unfold Addr.add; split <;> simp_all
    rw [e]; exact this
  · obtain ⟨A', c', rfl, h3⟩ := own_appM hm h1
    refine h A' c' w' h3 ((Below.refl base w).grown h2 hb (fun k hk => ?_))
    rcases hown.form with ⟨rfl, _⟩ | ⟨g', rfl, hg', _⟩
    · simp [Value.ownBlock] at hk
    · simp [Value.ownBlock] at hk; omega
/-- a call gives a new slice of n elements that reads as zs -/
def NewIntsN (w : World) (n : Nat) (zs : List Int) (e : Ending) (w' : World) : Prop := ∃ A c, e = .returned (.slice A n c) ∧ Own w' w.heap.size A n c zs ∧ Below w.heap.size w w'
set_option maxHeartbeats 400000 in
theorem Clone_any (A : Option Addr) (n c B : Nat) (zs : List Int) (w : World) (h : Ints w B A n zs) (hB : B ≤ w.heap.size) (hn1 : 1 ≤ n) (hn : n ≤ 1048576) :
    Calls Try.prog 85 #[.slice A n c] w (NewIntsN w n zs) := by
  obtain ⟨b, off, hA, _⟩ := h.2 (by omega)
  have H := Lib.hid (h.more hB)
  clear h
  subst hA
  have hnil := fun (W : World) => Lib.run_eql_slice_nil (P := Try.prog) W 30 2 (some ⟨b, off, none⟩) n c 0 0 Try.underlying30
  simp only [Option.isNone_some] at hnil
  go_enter Try.func85, Try.ntmps85
  go_wp2_with (at_builtin; refine wpList_appM rfl _ _ rfl _ w.heap.size w.heap.size _ _ _ [] rfl (own_empty rfl (by simp)) _ _ _ zs rfl (H.out.alloc (Nat.le_refl _) _) (by omega) (by omega) (by simp) ?_; intro L c2 w2 ho2 hb2; have HO2 := Lib.hid ho2; clear ho2)
  go_ret
  have := HO2.out
  simp at this
  exact ⟨L, c2, by simp, this, ((Below.refl _ _).alloc (Nat.le_refl _) _).trans hb2⟩
set_option maxHeartbeats 400000 in
theorem l00Own_any (A : Option Addr) (n c B : Nat) (zs : List Int) (w : World) (h : Ints w B A n zs) (hB : B ≤ w.heap.size) (hn1 : 1 ≤ n) (hn : n ≤ 1048576) :
    Calls Try.prog 129 #[.slice A n c] w (NewIntsN w n zs) := by
  obtain ⟨b, off, hA, _⟩ := h.2 (by omega)
  have H := Lib.hid (h.more hB)
  clear h
  subst hA
  go_enter Try.func129, Try.ntmps129
  go_wp2_with (at_builtin; refine wpList_appM rfl _ _ rfl _ w.heap.size w.heap.size _ _ _ [] rfl (own_empty rfl (by simp)) _ _ _ zs rfl (H.out.alloc (Nat.le_refl _) _) (by omega) (by omega) (by simp) ?_; intro L c2 w2 ho2 hb2; have HO2 := Lib.hid ho2; clear ho2)
  go_ret
  have := HO2.out
  simp at this
  exact ⟨L, c2, by simp, this, ((Below.refl _ _).alloc (Nat.le_refl _) _).trans hb2⟩
/-- a call gives a work with a new cam -/
def NewWork (w : World) (n : Nat) (zs : List Int) (mo te ix da we wd : Int) (e : Ending) (w' : World) : Prop :=
  ∃ A c, e = .returned (.agg #[.slice A n c, .int .i64 mo, .int .i64 te, .int .i64 ix, .int .i64 da, .int .i64 we, .int .i64 wd]) ∧ Own w' w.heap.size A n c zs ∧ Below w.heap.size w w'
set_option maxHeartbeats 1000000 in
theorem own_any (A : Option Addr) (n c B : Nat) (zs : List Int) (mo te ix da we wd : Int) (w : World) (h : Ints w B A n zs) (hB : B ≤ w.heap.size) (hn1 : 1 ≤ n) (hn : n ≤ 1048576) :
    Calls Try.prog 48 #[.agg #[.slice A n c, .int .i64 mo, .int .i64 te, .int .i64 ix, .int .i64 da, .int .i64 we, .int .i64 wd]] w (NewWork w n zs mo te ix da we wd) := by
  have H := Lib.hid (h.more hB)
  clear h
  go_enter Try.func48, Try.ntmps48
  go_wp2_with fail
  go_at_call 85
  refine (Clone_any A n c w.heap.size zs _ ((H.out.alloc (Nat.le_refl _) _).alloc (by simp) _) (by simp; omega) hn1 hn).mono ?_
  rintro e w1 ⟨L, c1, rfl, ho1, hb1⟩
  obtain ⟨p0, p1, p2, p3, p4, p5, p6, pf⟩ := ((work_new w 32 (.slice A n c) mo te ix da we wd).alloc _).call hb1
  obtain ⟨r0, r1, r2, r3, r4, r5, r6, rf⟩ : Work w1 (w.heap.size + 1) (.slice none 0 0) 0 0 0 0 0 0 := by have := (work_new (w.alloc (.cells #[.slice A n c, .int .i64 mo, .int .i64 te, .int .i64 ix, .int .i64 da, .int .i64 we, .int .i64 wd] 32)) 32 (.slice none 0 0) 0 0 0 0 0 0).call hb1; simpa using this
  have HO := Lib.hid ho1
  clear ho1
  go_wp2
  refine bodyPost_ret (v := .agg #[.slice L n c1, .int .i64 mo, .int .i64 te, .int .i64 ix, .int .i64 da, .int .i64 we, .int .i64 wd]) ?_ rfl ⟨L, c1, rfl, ?_, ?_⟩
  · simp [results, Try.results48, go_sem, *]
  · have h3 := HO.out
    simp [go_sem] at h3
    refine Own.low (b0 := w.heap.size) (base := w.heap.size + 1 + 1) ?_ (by omega)
    repeat (first | with_reducible exact h3 | ((with_reducible refine Own.far ?_ ?_ _); rotate_left; (focus (first | (simp; done) | (simp; omega)))))
  · (repeat (first | with_reducible exact Below.refl _ _ | with_reducible refine below_alloc ?_ _ | with_reducible refine below_drewN ?_ _ | with_reducible refine Below.drew ?_ | ((with_reducible refine below_set ?_ ?_ _); rotate_left; (focus (first | (simp; done) | (simp; omega) | omega))) | with_reducible refine below_call ?_ (by assumption)))
set_option maxHeartbeats 2000000 in
theorem midnight_any (A : Option Addr) (n c B g k : Nat) (zs : List Int) (mo te da we wd : Int) (w : World) (hI : Ints w B A n zs) (hB : B ≤ w.heap.size) (h : Work w g (.slice A n c) mo te (k : Int) da we wd) (hs : goodS n te we (k, da, wd)) (hn : n ≤ 1048576) (t1 : 1 ≤ te) (t2 : te ≤ 60) (w1 : 1 ≤ we) (w2 : we ≤ 12) :
    Calls Try.prog 45 #[.pointer (some ⟨g, 0, none⟩)] w
      (Moved w g (.slice A n c) mo te ((nightS zs n te we (k, da, wd)).1 : Int) (nightS zs n te we (k, da, wd)).2.1 we (nightS zs n te we (k, da, wd)).2.2) := by
  obtain ⟨hk, d1, d2, e1, e2⟩ := hs
  simp only at hk d1 d2 e1 e2
  have hm := msI_bd zs (ix := (k : Int)) d1 d2
  have cS := fun (W : World) (h : Ints W w.heap.size A n zs) (h2 : w.heap.size ≤ W.heap.size) => midnightSteps_any A n c w.heap.size k zs mo te da we wd W h h2 hn hk d1 d2 t2
  have cD := fun (W : World) (h : Work W g (.slice A n c) mo te (k : Int) da we wd) => moveDate_any A n c g k mo te da we wd (msI zs te (k : Int) da) W h hk hn t1 t2 d1 d2 hm.1 hm.2
  simp only [nightS]
  generalize msI zs te (k : Int) da = t at *
  generalize mvD te da t = D at *
  generalize mvK n te k da t = K at *
  have CS := Lib.hid cS
  have CD := Lib.hid cD
  have HI := Lib.hid (hI.more hB)
  have HW := Lib.hid h
  obtain ⟨q0, q1, q2, q3, q4, q5, q6, q7⟩ := h
  clear cS cD hI hm q7
  go_enter Try.func45, Try.ntmps45
  go_wp2_with fail
  go_at_call 73
  refine (CS.out _ HI.out (Nat.le_refl _)).mono ?_
  rintro e w3 ⟨rfl, hb3⟩
  have z3 := hb3.size
  go_wp2_with fail
  go_at_call 74
  refine (CD.out _ (HW.out.call hb3)).mono ?_
  rintro e w4 ⟨rfl, hW4, hg4⟩
  have HW4 := Lib.hid hW4
  have z4 := hg4.size
  clear hW4
  go_wp2_with fail
  go_at_call 75
  refine (moveWeekday_any g _ _ _ _ _ _ _ _ HW4.out w1 w2 e1 e2).mono ?_
  rintro e w5 ⟨rfl, hW5, hg5⟩
  have HW5 := Lib.hid hW5
  clear hW5
  go_wp2
  go_end0
  exact ⟨rfl, HW5.out, ((only_of_below hb3).trans hg4).trans hg5⟩
/-- whether a month and a day are shown -/
def showB (mo k da month day : Int) : Bool := decide (da = day) && decide (k % mo + 1 = month)
set_option maxHeartbeats 1000000 in
theorem shownMonth_any (S : Value) (k : Nat) (mo te da we wd : Int) (w : World) (m1 : 1 ≤ mo) (m2 : mo ≤ 9223372036854775807) (hk : (k : Int) ≤ 1048576) :
    Calls Try.prog 101 #[.agg #[S, .int .i64 mo, .int .i64 te, .int .i64 (k : Int), .int .i64 da, .int .i64 we, .int .i64 wd]] w fun e w' => e = .returned (.int .i64 ((k : Int) % mo + 1)) ∧ Below w.heap.size w w' := by
  have t1 : (k : Int).tmod mo = (k : Int) % mo := Int.tmod_eq_emod_of_nonneg (by omega)
  have r0 := Int.emod_nonneg (k : Int) (show mo ≠ 0 by omega)
  have r1 := Int.emod_lt_of_pos (k : Int) (show 0 < mo by omega)
  have r2 : (k : Int) % mo ≤ k := by rw [Int.emod_def]; have := Int.mul_nonneg (show 0 ≤ mo by omega) (Int.ediv_nonneg (show (0 : Int) ≤ k by omega) (show 0 ≤ mo by omega)); omega
  have n0 : (mo == 0) = false := by rw [beq_eq_false_iff_ne]; omega
  have n2 : ¬ (mo = 0) := by omega
  generalize (k : Int) % mo = r at *
  go_enter Try.func101, Try.ntmps101
  go_wp2
  first | (go_ret; exact ⟨rfl, by (repeat (first | with_reducible exact Below.refl _ _ | with_reducible refine below_alloc ?_ _ | with_reducible refine below_drewN ?_ _ | with_reducible refine Below.drew ?_ | ((with_reducible refine below_set ?_ ?_ _); rotate_left; (focus (first | (simp; done) | (simp; omega) | omega))) | with_reducible refine below_call ?_ (by assumption)))⟩) | (go_quiet (fail); go_wp2; go_ret; exact ⟨rfl, by (repeat (first | with_reducible exact Below.refl _ _ | with_reducible refine below_alloc ?_ _ | with_reducible refine below_drewN ?_ _ | with_reducible refine Below.drew ?_ | ((with_reducible refine below_set ?_ ?_ _); rotate_left; (focus (first | (simp; done) | (simp; omega) | omega))) | with_reducible refine below_call ?_ (by assumption)))⟩)
set_option maxHeartbeats 1000000 in
theorem shows_any (S : Value) (k : Nat) (mo te da we wd month day : Int) (w : World) (m1 : 1 ≤ mo) (m2 : mo ≤ 9223372036854775807) (hk : (k : Int) ≤ 1048576) :
    Calls Try.prog 44 #[.agg #[S, .int .i64 mo, .int .i64 te, .int .i64 (k : Int), .int .i64 da, .int .i64 we, .int .i64 wd], .int .i64 month, .int .i64 day] w fun e w' => e = .returned (.bool (showB mo k da month day)) ∧ Below w.heap.size w w' := by
  have cM := fun (W : World) => shownMonth_any S k mo te da we wd W m1 m2 hk
  have hv : showB mo k da month day = (decide (da = day) && decide ((k : Int) % mo + 1 = month)) := rfl
  generalize (k : Int) % mo + 1 = r at *
  have CM := Lib.hid cM
  clear cM
  by_cases hd : da = day
  · subst hd
    by_cases hr : r = month
    · subst hr
      have HV := Lib.hid hv
      clear hv
      go_enter Try.func44, Try.ntmps44
      go_wp2_with fail
      go_at_call 101
      refine (CM.out _).mono ?_
      rintro e w1 ⟨rfl, hb1⟩
      go_wp2
      go_ret
      exact ⟨ret_bool (by rw [HV.out]; simp), by (repeat (first | with_reducible exact Below.refl _ _ | with_reducible refine below_alloc ?_ _ | with_reducible refine below_drewN ?_ _ | with_reducible refine Below.drew ?_ | ((with_reducible refine below_set ?_ ?_ _); rotate_left; (focus (first | (simp; done) | (simp; omega) | omega))) | with_reducible refine below_call ?_ (by assumption)))⟩
    · have HV := Lib.hid hv
      have hn : (r == month) = false := by simpa using hr
      clear hv
      go_enter Try.func44, Try.ntmps44
      go_wp2_with fail
      go_at_call 101
      refine (CM.out _).mono ?_
      rintro e w1 ⟨rfl, hb1⟩
      go_wp2
      go_ret
      exact ⟨ret_bool (by rw [HV.out]; simp [hr]), by (repeat (first | with_reducible exact Below.refl _ _ | with_reducible refine below_alloc ?_ _ | with_reducible refine below_drewN ?_ _ | with_reducible refine Below.drew ?_ | ((with_reducible refine below_set ?_ ?_ _); rotate_left; (focus (first | (simp; done) | (simp; omega) | omega))) | with_reducible refine below_call ?_ (by assumption)))⟩
  · have HV := Lib.hid hv
    have hn : (da == day) = false := by simpa using hd
    clear hv
    go_enter Try.func44, Try.ntmps44
    go_wp2
    go_ret
    exact ⟨ret_bool (by rw [HV.out]; simp [hd]), by (repeat (first | with_reducible exact Below.refl _ _ | with_reducible refine below_alloc ?_ _ | with_reducible refine below_drewN ?_ _ | with_reducible refine Below.drew ?_ | ((with_reducible refine below_set ?_ ?_ _); rotate_left; (focus (first | (simp; done) | (simp; omega) | omega))) | with_reducible refine below_call ?_ (by assumption)))⟩
set_option maxHeartbeats 1000000 in
theorem l18Shows_any (S : Value) (g k : Nat) (mo te da we wd month day : Int) (w : World) (h : Work w g S mo te (k : Int) da we wd) (m1 : 1 ≤ mo) (m2 : mo ≤ 9223372036854775807) (hk : (k : Int) ≤ 1048576) :
    Calls Try.prog 38 #[.pointer (some ⟨g, 0, none⟩), .int .i64 month, .int .i64 day] w fun e w' => e = .returned (.bool (showB mo k da month day)) ∧ ∃ m, w' = w.drewN m := by
  obtain ⟨q0, q1, q2, q3, q4, q5, q6, q7⟩ := h
  have t1 : (k : Int).tmod mo = (k : Int) % mo := Int.tmod_eq_emod_of_nonneg (by omega)
  have r0 := Int.emod_nonneg (k : Int) (show mo ≠ 0 by omega)
  have r1 := Int.emod_lt_of_pos (k : Int) (show 0 < mo by omega)
  have r2 : (k : Int) % mo ≤ k := by rw [Int.emod_def]; have := Int.mul_nonneg (show 0 ≤ mo by omega) (Int.ediv_nonneg (show (0 : Int) ≤ k by omega) (show 0 ≤ mo by omega)); omega
  have n0 : (mo == 0) = false := by rw [beq_eq_false_iff_ne]; omega
  have n2 : ¬ (mo = 0) := by omega
  have hv : showB mo k da month day = (decide (da = day) && decide ((k : Int) % mo + 1 = month)) := rfl
  generalize (k : Int) % mo = r at *
  have qw : IntKind.i64.wrap (r + 1) = r + 1 := IntWalk.i64_in _ (by omega)
  clear q7
  by_cases hd : da = day
  · subst hd
    by_cases hr : r + 1 = month
    · subst hr
      have HV := Lib.hid hv
      clear hv
      go_enter Try.func38, Try.ntmps38
      go_wp2
      go_quiet (fail)
      go_wp2
      go_ret
      exact ⟨ret_bool (by rw [HV.out]; simp), _, rfl⟩
    · have HV := Lib.hid hv
      have hn : (r + 1 == month) = false := by simpa using hr
      clear hv
      go_enter Try.func38, Try.ntmps38
      go_wp2
      go_quiet (fail)
      go_wp2
      go_ret
      exact ⟨ret_bool (by rw [HV.out]; simp [hr]), _, rfl⟩
  · have HV := Lib.hid hv
    have hn : (da == day) = false := by simpa using hd
    have hn2 : decide (da = day) = false := by simpa using hd
    clear hv
    go_enter Try.func38, Try.ntmps38
    go_wp2
    go_quiet (fail)
    go_wp2
    go_ret
    exact ⟨ret_bool (by rw [HV.out]; simp [hd]), _, rfl⟩
end Go.Proofs.Ythjldjbblaioaaa
