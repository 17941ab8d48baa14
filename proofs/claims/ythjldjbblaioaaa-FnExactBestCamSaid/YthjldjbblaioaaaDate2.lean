/- Contracts of the validity of dates (the reference's) and of the next day, the program's and the reference's. No conditions but that there are fewer than 2^63 months and rules. -/
import Derived.Test.YthjldjbblaioaaaDate
namespace Go.Proofs.Ythjldjbblaioaaa
open Go.RowKit
set_option linter.unusedVariables false
set_option linter.unusedSimpArgs false
set_option maxHeartbeats 4000000 in
theorem l16Ok_any (g : Nat) (nm : ByteArray) (A A' : Option Addr) (n n' c c' B : Nat) (ms : List Mth) (rs : List Rul) (we y m d : Int) (w : World) (hC : CalAt w g nm A A' n n' c c' we) (h : Months w B A n ms) (h' : Rules w B A' n' rs) (hB : B ≤ w.heap.size) (hn : n ≤ 9223372036854775806) (hn' : n' ≤ 9223372036854775807) (hev : ∀ j, j < n' → 1 ≤ (rs.getD j r0).ev) :
    Calls Try.prog 50 #[.pointer (some ⟨g, 0, none⟩), .agg #[.int .i64 y, .int .i64 m, .int .i64 d]] w fun e w' => e = .returned (.bool (dOk ms rs n n' y m d)) ∧ Below w.heap.size w w' := by
  have H := Lib.hid (Tri.more h hB)
  have H' := Lib.hid (Tri.more h' hB)
  have HE := Lib.hid hev
  have q1 := hC.c1
  have zg := hC.lt
  have HC := Lib.hid hC
  have n0 : (g + 1 ≠ 0) := by omega
  clear h h' hC hev
  cases v2 : inB y 0 9999
  · have Y := Lib.hid v2
    have HV := Lib.hid (show dOk ms rs n n' y m d = false by unfold dOk; rw [v2]; rfl)
    clear v2
    go_enter Try.func50, Try.ntmps50
    go_wp2
    go_quiet ((go_at_call 80; exact quiet_left (l15Year_val _ _ _ Y.out)))
    go_wp2
    go_ret
    exact ⟨by rw [HV.out]; rfl, by (repeat (first | with_reducible exact Below.refl _ _ | with_reducible refine below_alloc ?_ _ | with_reducible refine below_drewN ?_ _ | with_reducible refine Below.drew ?_ | ((with_reducible refine below_set ?_ ?_ _); rotate_left; (focus (first | (simp; done) | (simp; omega) | omega))) | with_reducible refine below_call ?_ (by assumption)))⟩
  have y1 := inB_yes v2
  have Y := Lib.hid v2
  cases v3 : inB m 1 n
  · have M := Lib.hid v3
    have HV := Lib.hid (show dOk ms rs n n' y m d = false by unfold dOk; rw [v2, v3]; rfl)
    clear v2 v3
    go_enter Try.func50, Try.ntmps50
    go_wp2
    go_quiet ((first | (go_at_call 80; exact quiet_left (l15Year_val _ _ _ Y.out)) | (go_at_call 81; exact quiet_left (l00In_val _ _ _ _ _ M.out))))
    go_wp2
    go_ret
    exact ⟨by rw [HV.out]; rfl, by (repeat (first | with_reducible exact Below.refl _ _ | with_reducible refine below_alloc ?_ _ | with_reducible refine below_drewN ?_ _ | with_reducible refine Below.drew ?_ | ((with_reducible refine below_set ?_ ?_ _); rotate_left; (focus (first | (simp; done) | (simp; omega) | omega))) | with_reducible refine below_call ?_ (by assumption)))⟩
  have M := Lib.hid v3
  have m1 := inB_yes v3
  have hv : dOk ms rs n n' y m d = inB d 1 (dayK ms rs n' y m) := by unfold dOk; rw [v2, v3]; rfl
  have cD := fun (W : World) (hb : Below w.heap.size w W) (i : Int) (hi : i = m - 1) => l15Days_any g A A' n n' c c' w.heap.size ms rs y i m W (by have := hb.size; omega) (HC.out.call hb).c1 (HC.out.call hb).c2 (Tri.below H.out hb) (Tri.below H'.out hb) hb.size hn hn' HE.out y1.1 (by omega) hi m1.1 m1.2
  rw [hv]
  generalize dayK ms rs n' y m = D0 at *
  have CD := Lib.hid cD
  obtain ⟨v, hd⟩ : ∃ v, inB d 1 D0 = v := ⟨_, rfl⟩
  rw [hd]
  have D := Lib.hid hd
  have s1 : IntKind.i64.wrap (m - 1) = m - 1 := IntWalk.i64_in _ (by omega)
  clear v2 v3 cD hv hd
  go_enter Try.func50, Try.ntmps50
  go_wp2
  go_quiet ((first | (go_at_call 80; exact quiet_left (l15Year_val _ _ _ Y.out)) | (go_at_call 81; exact quiet_left (l00In_val _ _ _ _ _ M.out))))
  go_wp2
  obtain ⟨wq, hwq⟩ : ∃ wq, (w.alloc (.cells #[.int .i64 y, .int .i64 m, .int .i64 d] 29)).drewN nq = wq := ⟨_, rfl⟩
  have f1 : wq.cell? ⟨w.heap.size, 0, none⟩ = some (.int .i64 y) := by rw [← hwq]; simp [go_sem]
  have f2 : wq.cell? ⟨w.heap.size, 1, none⟩ = some (.int .i64 m) := by rw [← hwq]; simp [go_sem]
  have f3 : wq.cell? ⟨w.heap.size, 2, none⟩ = some (.int .i64 d) := by rw [← hwq]; simp [go_sem]
  have hbq : Below w.heap.size w wq := by rw [← hwq]; (repeat (first | with_reducible exact Below.refl _ _ | with_reducible refine below_alloc ?_ _ | with_reducible refine below_drewN ?_ _ | with_reducible refine Below.drew ?_ | ((with_reducible refine below_set ?_ ?_ _); rotate_left; (focus (first | (simp; done) | (simp; omega) | omega))) | with_reducible refine below_call ?_ (by assumption)))
  rw [hwq]
  clear hwq
  go_quiet ((first | (go_at_call 82; refine quiet_on (CD.out _ (by (repeat (first | with_reducible exact Below.refl _ _ | with_reducible refine below_alloc ?_ _ | with_reducible refine below_drewN ?_ _ | with_reducible refine Below.drew ?_ | ((with_reducible refine below_set ?_ ?_ _); rotate_left; (focus (first | (simp; done) | (simp; omega) | omega))) | with_reducible refine below_call ?_ (by assumption)))) _ (by first | rfl | simp [s1])); done) | (go_at_call 81; exact quiet_left (l00In_val _ _ _ _ _ D.out))))
  go_wp2
  go_ret
  exact ⟨rfl, by (repeat (first | with_reducible exact Below.refl _ _ | with_reducible refine below_alloc ?_ _ | with_reducible refine below_drewN ?_ _ | with_reducible refine Below.drew ?_ | ((with_reducible refine below_set ?_ ?_ _); rotate_left; (focus (first | (simp; done) | (simp; omega) | omega))) | with_reducible refine below_call ?_ (by assumption)))⟩
theorem isMonth_val (nm : ByteArray) (A A' : Option Addr) (n n' c c' : Nat) (we m : Int) (w : World) (v : Bool) (h : inB m 1 n = v) : Calls Try.prog 99 #[.agg #[.string nm, .slice A n c, .slice A' n' c', .int .i64 we], .int .i64 m] w fun e w' => e = .returned (.bool v) ∧ Below w.heap.size w w' := by
  rw [← h]; exact isMonth_any nm A A' n n' c c' we m w
/-- the next day of a valid calendar -/
def nextY (n D y m d : Int) : Int := if D < d + 1 then if n < m + 1 then y + 1 else y else y
def nextM (n D m d : Int) : Int := if D < d + 1 then if n < m + 1 then 1 else m + 1 else m
def nextD (D d : Int) : Int := if D < d + 1 then 1 else d + 1
set_option maxHeartbeats 4000000 in
theorem nextDate_any (nm : ByteArray) (A A' : Option Addr) (n n' c c' B : Nat) (ms : List Mth) (rs : List Rul) (we y m d : Int) (w : World) (h : Months w B A n ms) (h' : Rules w B A' n' rs) (hB : B ≤ w.heap.size) (hn : n ≤ 1048576) (hn' : n' ≤ 9223372036854775807) (hev : ∀ j, j < n' → 1 ≤ (rs.getD j r0).ev) (hy0 : 0 ≤ y) (hy1 : y ≤ 9999) (hm1 : 1 ≤ m) (hm2 : m ≤ n) (hd1 : 1 ≤ d) (hd2 : d ≤ 60) :
    Calls Try.prog 46 #[.agg #[.string nm, .slice A n c, .slice A' n' c', .int .i64 we], .agg #[.int .i64 y, .int .i64 m, .int .i64 d]] w fun e w' => e = .returned (.agg #[.int .i64 (nextY n (dayK ms rs n' y m) y m d), .int .i64 (nextM n (dayK ms rs n' y m) m d), .int .i64 (nextD (dayK ms rs n' y m) d)]) ∧ Below w.heap.size w w' := by
  have H := Lib.hid (Tri.more h hB)
  have H' := Lib.hid (Tri.more h' hB)
  have cL := fun (W : World) (hb : Below w.heap.size w W) => isLeap_any nm A A' n n' c c' w.heap.size rs we y W (Tri.below H'.out hb) hb.size hn' hev hy0 (by omega)
  have cD := fun (W : World) (hb : Below w.heap.size w W) => daysOfMonth_any nm A A' n n' c c' w.heap.size ms we (leapK rs y n') m W (Tri.below H.out hb) hb.size (by omega) hm1 hm2
  change ∀ (W : World) (hb : Below w.heap.size w W), Calls _ _ _ _ (fun e w' => e = .returned (.int .i64 (dayK ms rs n' y m)) ∧ Below W.heap.size W w') at cD
  generalize dayK ms rs n' y m = D0 at *
  generalize leapK rs y n' = L at *
  have CL := Lib.hid cL
  have CD := Lib.hid cD
  clear h h' hev cL cD
  by_cases h1 : D0 < d + 1
  · by_cases h2 : (n : Int) < m + 1
    · have HM := Lib.hid (show inB (m + 1) 1 n = false by simp [inB]; omega)
      have e1 : nextY n D0 y m d = y + 1 := by rw [nextY, if_pos h1, if_pos h2]
      have e2 : nextM n D0 m d = 1 := by rw [nextM, if_pos h1, if_pos h2]
      have e3 : nextD D0 d = 1 := by rw [nextD, if_pos h1]
      rw [e1, e2, e3]
      clear e1 e2 e3
      go_enter Try.func46, Try.ntmps46
      go_wp2
      obtain ⟨W0, hW0⟩ : ∃ W0, (((w.alloc (.cells #[.string nm, .slice A n c, .slice A' n' c', .int .i64 we] 27)).alloc (.cells #[.int .i64 y, .int .i64 m, .int .i64 (d + 1)] 29)).alloc (.cells #[.int .i64 0, .int .i64 0, .int .i64 0] 29)) = W0 := ⟨_, rfl⟩
      have yb : Below w.heap.size w W0 := by rw [← hW0]; (repeat (first | with_reducible exact Below.refl _ _ | with_reducible refine below_alloc ?_ _ | with_reducible refine below_drewN ?_ _ | with_reducible refine Below.drew ?_ | ((with_reducible refine below_set ?_ ?_ _); rotate_left; (focus (first | (simp; done) | (simp; omega) | omega))) | with_reducible refine below_call ?_ (by assumption)))
      have a0 : W0.cell? ⟨w.heap.size, 0, none⟩ = some (.string nm) := by rw [← hW0]; simp [go_sem]
      have a1 : W0.cell? ⟨w.heap.size, 1, none⟩ = some (.slice A n c) := by rw [← hW0]; simp [go_sem]
      have a2 : W0.cell? ⟨w.heap.size, 2, none⟩ = some (.slice A' n' c') := by rw [← hW0]; simp [go_sem]
      have a3 : W0.cell? ⟨w.heap.size, 3, none⟩ = some (.int .i64 we) := by rw [← hW0]; simp [go_sem]
      have b0 : W0.cell? ⟨w.heap.size + 1, 0, none⟩ = some (.int .i64 y) := by rw [← hW0]; simp [go_sem]
      have b1 : W0.cell? ⟨w.heap.size + 1, 1, none⟩ = some (.int .i64 m) := by rw [← hW0]; simp [go_sem]
      have b2 : W0.cell? ⟨w.heap.size + 1, 2, none⟩ = some (.int .i64 (d + 1)) := by rw [← hW0]; simp [go_sem]
      have x0 : W0.cell? ⟨w.heap.size + 1 + 1, 0, none⟩ = some (.int .i64 0) := by rw [← hW0]; simp [go_sem]
      have x1 : W0.cell? ⟨w.heap.size + 1 + 1, 1, none⟩ = some (.int .i64 0) := by rw [← hW0]; simp [go_sem]
      have x2 : W0.cell? ⟨w.heap.size + 1 + 1, 2, none⟩ = some (.int .i64 0) := by rw [← hW0]; simp [go_sem]
      have v1 : ∀ j, W0.frozen? ⟨w.heap.size + 1, j, none⟩ = false := by rw [← hW0]; intro j; simp [go_sem]
      have v2 : ∀ j, W0.frozen? ⟨w.heap.size + 1 + 1, j, none⟩ = false := by rw [← hW0]; intro j; simp [go_sem]
      have z0 : w.heap.size + 1 + 1 + 1 = W0.heap.size := by rw [← hW0]; simp
      have z1 : w.heap.size < W0.heap.size := by omega
      have z2 : w.heap.size + 1 < W0.heap.size := by omega
      have yr := Below.refl W0.heap.size W0
      rw [hW0]
      clear hW0
      go_region_held3 (fun w' => w'.cell? ⟨w.heap.size, 0, none⟩ = some (.string nm) ∧ w'.cell? ⟨w.heap.size, 1, none⟩ = some (.slice A n c) ∧ w'.cell? ⟨w.heap.size, 2, none⟩ = some (.slice A' n' c') ∧ w'.cell? ⟨w.heap.size, 3, none⟩ = some (.int .i64 we) ∧ w'.cell? ⟨w.heap.size + 1, 0, none⟩ = some (.int .i64 y) ∧ w'.cell? ⟨w.heap.size + 1, 1, none⟩ = some (.int .i64 m) ∧ w'.cell? ⟨w.heap.size + 1, 2, none⟩ = some (.int .i64 (d + 1)) ∧ w.heap.size < w'.heap.size ∧ w.heap.size + 1 < w'.heap.size ∧ Below w.heap.size w w' ∧ Below W0.heap.size W0 w') (first | ((try go_split_ands); (try dsimp only); refine ⟨?_, ?_, ?_, ?_, ?_, ?_, ?_, ?_, ?_, ?_, ?_⟩ <;> first | (exact cell_call (by assumption) (by assumption) (by assumption)) | (exact lt_call (by assumption) (by assumption)) | (exact below_call' (by assumption) (by assumption)) | (exact Below.drew (by assumption)) | (with_reducible assumption) | (simp; done) | (simp [*]; done) | ((repeat (first | with_reducible exact Below.refl _ _ | with_reducible refine below_alloc ?_ _ | with_reducible refine below_drewN ?_ _ | with_reducible refine Below.drew ?_ | ((with_reducible refine below_set ?_ ?_ _); rotate_left; (focus (first | (simp; done) | (simp; omega) | omega))) | with_reducible refine below_call ?_ (by assumption))); done) | omega | (simp; omega) | (simp [go_sem]; done) | (simp [go_sem, *]; done))) (first | (go_at_call 66; go_split_ands; refine (CL.out _ (by assumption)).mono ?_; rintro e w5 ⟨rfl, hb5⟩) | (go_at_call 100; go_split_ands; refine (CD.out _ (by assumption)).mono ?_; rintro e w6 ⟨rfl, hb6⟩))
      go_split_ands
      clear yr; have BK : Below W0.heap.size W0 w6 := by assumption
      have k0 := cell_call BK (p := ⟨w.heap.size + 1 + 1, 0, none⟩) (by simp; omega) x0
      have k1 := cell_call BK (p := ⟨w.heap.size + 1 + 1, 1, none⟩) (by simp; omega) x1
      have k2 := cell_call BK (p := ⟨w.heap.size + 1 + 1, 2, none⟩) (by simp; omega) x2
      have u0 := fro_call BK (p := ⟨w.heap.size + 1, 0, none⟩) (by simp; omega) (v1 0)
      have u1 := fro_call BK (p := ⟨w.heap.size + 1, 1, none⟩) (by simp; omega) (v1 1)
      have u2 := fro_call BK (p := ⟨w.heap.size + 1, 2, none⟩) (by simp; omega) (v1 2)
      have t0 := fro_call BK (p := ⟨w.heap.size + 1 + 1, 0, none⟩) (by simp; omega) (v2 0)
      have t1 := fro_call BK (p := ⟨w.heap.size + 1 + 1, 1, none⟩) (by simp; omega) (v2 1)
      have t2 := fro_call BK (p := ⟨w.heap.size + 1 + 1, 2, none⟩) (by simp; omega) (v2 2)
      have z3 := BK.size
      go_wp2_with fail
      refine (isMonth_val _ _ _ _ _ _ _ _ _ _ _ HM.out).mono ?_
      rintro e w7 ⟨rfl, hb7⟩
      have g0 := cell_call hb7 (p := ⟨w.heap.size + 1, 0, none⟩) (v := .int .i64 y) (by simp; omega) (by simp [go_sem, *])
      have g1 := cell_call hb7 (p := ⟨w.heap.size + 1, 1, none⟩) (v := .int .i64 (m + 1)) (by simp; omega) (by simp [go_sem, *])
      have g2 := cell_call hb7 (p := ⟨w.heap.size + 1, 2, none⟩) (v := .int .i64 1) (by simp; omega) (by simp [go_sem, *])
      have j0 := cell_call hb7 (p := ⟨w.heap.size + 1 + 1, 0, none⟩) (v := .int .i64 0) (by simp; omega) (by simpa [go_sem] using k0)
      have j1 := cell_call hb7 (p := ⟨w.heap.size + 1 + 1, 1, none⟩) (v := .int .i64 0) (by simp; omega) (by simpa [go_sem] using k1)
      have j2 := cell_call hb7 (p := ⟨w.heap.size + 1 + 1, 2, none⟩) (v := .int .i64 0) (by simp; omega) (by simpa [go_sem] using k2)
      have q0 := fro_call hb7 (p := ⟨w.heap.size + 1, 0, none⟩) (by simp; omega) (by simpa [go_sem] using u0)
      have q1 := fro_call hb7 (p := ⟨w.heap.size + 1, 1, none⟩) (by simp; omega) (by simpa [go_sem] using u1)
      have q2 := fro_call hb7 (p := ⟨w.heap.size + 1, 2, none⟩) (by simp; omega) (by simpa [go_sem] using u2)
      have q3 := fro_call hb7 (p := ⟨w.heap.size + 1 + 1, 0, none⟩) (by simp; omega) (by simpa [go_sem] using t0)
      have q4 := fro_call hb7 (p := ⟨w.heap.size + 1 + 1, 1, none⟩) (by simp; omega) (by simpa [go_sem] using t1)
      have q5 := fro_call hb7 (p := ⟨w.heap.size + 1 + 1, 2, none⟩) (by simp; omega) (by simpa [go_sem] using t2)
      go_wp2
      refine bodyPost_ret (v := .agg #[.int .i64 (y + 1), .int .i64 (1), .int .i64 1]) ?_ rfl ⟨rfl, ?_⟩
      · simp [results, Try.results46, go_sem, g0, g1, g2, j0, j1, j2, q0, q1, q2, q3, q4, q5]
      · (repeat (first | with_reducible exact Below.refl _ _ | with_reducible refine below_alloc ?_ _ | with_reducible refine below_drewN ?_ _ | with_reducible refine Below.drew ?_ | ((with_reducible refine below_set ?_ ?_ _); rotate_left; (focus (first | (simp; done) | (simp; omega) | omega))) | with_reducible refine below_call ?_ (by assumption)))
    · have HM := Lib.hid (show inB (m + 1) 1 n = true by simp [inB]; omega)
      have e1 : nextY n D0 y m d = y := by rw [nextY, if_pos h1, if_neg h2]
      have e2 : nextM n D0 m d = m + 1 := by rw [nextM, if_pos h1, if_neg h2]
      have e3 : nextD D0 d = 1 := by rw [nextD, if_pos h1]
      rw [e1, e2, e3]
      clear e1 e2 e3
      go_enter Try.func46, Try.ntmps46
      go_wp2
      obtain ⟨W0, hW0⟩ : ∃ W0, (((w.alloc (.cells #[.string nm, .slice A n c, .slice A' n' c', .int .i64 we] 27)).alloc (.cells #[.int .i64 y, .int .i64 m, .int .i64 (d + 1)] 29)).alloc (.cells #[.int .i64 0, .int .i64 0, .int .i64 0] 29)) = W0 := ⟨_, rfl⟩
      have yb : Below w.heap.size w W0 := by rw [← hW0]; (repeat (first | with_reducible exact Below.refl _ _ | with_reducible refine below_alloc ?_ _ | with_reducible refine below_drewN ?_ _ | with_reducible refine Below.drew ?_ | ((with_reducible refine below_set ?_ ?_ _); rotate_left; (focus (first | (simp; done) | (simp; omega) | omega))) | with_reducible refine below_call ?_ (by assumption)))
      have a0 : W0.cell? ⟨w.heap.size, 0, none⟩ = some (.string nm) := by rw [← hW0]; simp [go_sem]
      have a1 : W0.cell? ⟨w.heap.size, 1, none⟩ = some (.slice A n c) := by rw [← hW0]; simp [go_sem]
      have a2 : W0.cell? ⟨w.heap.size, 2, none⟩ = some (.slice A' n' c') := by rw [← hW0]; simp [go_sem]
      have a3 : W0.cell? ⟨w.heap.size, 3, none⟩ = some (.int .i64 we) := by rw [← hW0]; simp [go_sem]
      have b0 : W0.cell? ⟨w.heap.size + 1, 0, none⟩ = some (.int .i64 y) := by rw [← hW0]; simp [go_sem]
      have b1 : W0.cell? ⟨w.heap.size + 1, 1, none⟩ = some (.int .i64 m) := by rw [← hW0]; simp [go_sem]
      have b2 : W0.cell? ⟨w.heap.size + 1, 2, none⟩ = some (.int .i64 (d + 1)) := by rw [← hW0]; simp [go_sem]
      have x0 : W0.cell? ⟨w.heap.size + 1 + 1, 0, none⟩ = some (.int .i64 0) := by rw [← hW0]; simp [go_sem]
      have x1 : W0.cell? ⟨w.heap.size + 1 + 1, 1, none⟩ = some (.int .i64 0) := by rw [← hW0]; simp [go_sem]
      have x2 : W0.cell? ⟨w.heap.size + 1 + 1, 2, none⟩ = some (.int .i64 0) := by rw [← hW0]; simp [go_sem]
      have v1 : ∀ j, W0.frozen? ⟨w.heap.size + 1, j, none⟩ = false := by rw [← hW0]; intro j; simp [go_sem]
      have v2 : ∀ j, W0.frozen? ⟨w.heap.size + 1 + 1, j, none⟩ = false := by rw [← hW0]; intro j; simp [go_sem]
      have z0 : w.heap.size + 1 + 1 + 1 = W0.heap.size := by rw [← hW0]; simp
      have z1 : w.heap.size < W0.heap.size := by omega
      have z2 : w.heap.size + 1 < W0.heap.size := by omega
      have yr := Below.refl W0.heap.size W0
      rw [hW0]
      clear hW0
      go_region_held3 (fun w' => w'.cell? ⟨w.heap.size, 0, none⟩ = some (.string nm) ∧ w'.cell? ⟨w.heap.size, 1, none⟩ = some (.slice A n c) ∧ w'.cell? ⟨w.heap.size, 2, none⟩ = some (.slice A' n' c') ∧ w'.cell? ⟨w.heap.size, 3, none⟩ = some (.int .i64 we) ∧ w'.cell? ⟨w.heap.size + 1, 0, none⟩ = some (.int .i64 y) ∧ w'.cell? ⟨w.heap.size + 1, 1, none⟩ = some (.int .i64 m) ∧ w'.cell? ⟨w.heap.size + 1, 2, none⟩ = some (.int .i64 (d + 1)) ∧ w.heap.size < w'.heap.size ∧ w.heap.size + 1 < w'.heap.size ∧ Below w.heap.size w w' ∧ Below W0.heap.size W0 w') (first | ((try go_split_ands); (try dsimp only); refine ⟨?_, ?_, ?_, ?_, ?_, ?_, ?_, ?_, ?_, ?_, ?_⟩ <;> first | (exact cell_call (by assumption) (by assumption) (by assumption)) | (exact lt_call (by assumption) (by assumption)) | (exact below_call' (by assumption) (by assumption)) | (exact Below.drew (by assumption)) | (with_reducible assumption) | (simp; done) | (simp [*]; done) | ((repeat (first | with_reducible exact Below.refl _ _ | with_reducible refine below_alloc ?_ _ | with_reducible refine below_drewN ?_ _ | with_reducible refine Below.drew ?_ | ((with_reducible refine below_set ?_ ?_ _); rotate_left; (focus (first | (simp; done) | (simp; omega) | omega))) | with_reducible refine below_call ?_ (by assumption))); done) | omega | (simp; omega) | (simp [go_sem]; done) | (simp [go_sem, *]; done))) (first | (go_at_call 66; go_split_ands; refine (CL.out _ (by assumption)).mono ?_; rintro e w5 ⟨rfl, hb5⟩) | (go_at_call 100; go_split_ands; refine (CD.out _ (by assumption)).mono ?_; rintro e w6 ⟨rfl, hb6⟩))
      go_split_ands
      clear yr; have BK : Below W0.heap.size W0 w6 := by assumption
      have k0 := cell_call BK (p := ⟨w.heap.size + 1 + 1, 0, none⟩) (by simp; omega) x0
      have k1 := cell_call BK (p := ⟨w.heap.size + 1 + 1, 1, none⟩) (by simp; omega) x1
      have k2 := cell_call BK (p := ⟨w.heap.size + 1 + 1, 2, none⟩) (by simp; omega) x2
      have u0 := fro_call BK (p := ⟨w.heap.size + 1, 0, none⟩) (by simp; omega) (v1 0)
      have u1 := fro_call BK (p := ⟨w.heap.size + 1, 1, none⟩) (by simp; omega) (v1 1)
      have u2 := fro_call BK (p := ⟨w.heap.size + 1, 2, none⟩) (by simp; omega) (v1 2)
      have t0 := fro_call BK (p := ⟨w.heap.size + 1 + 1, 0, none⟩) (by simp; omega) (v2 0)
      have t1 := fro_call BK (p := ⟨w.heap.size + 1 + 1, 1, none⟩) (by simp; omega) (v2 1)
      have t2 := fro_call BK (p := ⟨w.heap.size + 1 + 1, 2, none⟩) (by simp; omega) (v2 2)
      have z3 := BK.size
      go_wp2_with fail
      refine (isMonth_val _ _ _ _ _ _ _ _ _ _ _ HM.out).mono ?_
      rintro e w7 ⟨rfl, hb7⟩
      have g0 := cell_call hb7 (p := ⟨w.heap.size + 1, 0, none⟩) (v := .int .i64 y) (by simp; omega) (by simp [go_sem, *])
      have g1 := cell_call hb7 (p := ⟨w.heap.size + 1, 1, none⟩) (v := .int .i64 (m + 1)) (by simp; omega) (by simp [go_sem, *])
      have g2 := cell_call hb7 (p := ⟨w.heap.size + 1, 2, none⟩) (v := .int .i64 1) (by simp; omega) (by simp [go_sem, *])
      have j0 := cell_call hb7 (p := ⟨w.heap.size + 1 + 1, 0, none⟩) (v := .int .i64 0) (by simp; omega) (by simpa [go_sem] using k0)
      have j1 := cell_call hb7 (p := ⟨w.heap.size + 1 + 1, 1, none⟩) (v := .int .i64 0) (by simp; omega) (by simpa [go_sem] using k1)
      have j2 := cell_call hb7 (p := ⟨w.heap.size + 1 + 1, 2, none⟩) (v := .int .i64 0) (by simp; omega) (by simpa [go_sem] using k2)
      have q0 := fro_call hb7 (p := ⟨w.heap.size + 1, 0, none⟩) (by simp; omega) (by simpa [go_sem] using u0)
      have q1 := fro_call hb7 (p := ⟨w.heap.size + 1, 1, none⟩) (by simp; omega) (by simpa [go_sem] using u1)
      have q2 := fro_call hb7 (p := ⟨w.heap.size + 1, 2, none⟩) (by simp; omega) (by simpa [go_sem] using u2)
      have q3 := fro_call hb7 (p := ⟨w.heap.size + 1 + 1, 0, none⟩) (by simp; omega) (by simpa [go_sem] using t0)
      have q4 := fro_call hb7 (p := ⟨w.heap.size + 1 + 1, 1, none⟩) (by simp; omega) (by simpa [go_sem] using t1)
      have q5 := fro_call hb7 (p := ⟨w.heap.size + 1 + 1, 2, none⟩) (by simp; omega) (by simpa [go_sem] using t2)
      go_wp2
      refine bodyPost_ret (v := .agg #[.int .i64 (y), .int .i64 (m + 1), .int .i64 1]) ?_ rfl ⟨rfl, ?_⟩
      · simp [results, Try.results46, go_sem, g0, g1, g2, j0, j1, j2, q0, q1, q2, q3, q4, q5]
      · (repeat (first | with_reducible exact Below.refl _ _ | with_reducible refine below_alloc ?_ _ | with_reducible refine below_drewN ?_ _ | with_reducible refine Below.drew ?_ | ((with_reducible refine below_set ?_ ?_ _); rotate_left; (focus (first | (simp; done) | (simp; omega) | omega))) | with_reducible refine below_call ?_ (by assumption)))
  · have HM := Lib.hid (show inB m 1 n = true by simp [inB]; omega)
    have e1 : nextY n D0 y m d = y := by rw [nextY, if_neg h1]
    have e2 : nextM n D0 m d = m := by rw [nextM, if_neg h1]
    have e3 : nextD D0 d = (d + 1) := by rw [nextD, if_neg h1]
    rw [e1, e2, e3]
    clear e1 e2 e3
    go_enter Try.func46, Try.ntmps46
    go_wp2
    obtain ⟨W0, hW0⟩ : ∃ W0, (((w.alloc (.cells #[.string nm, .slice A n c, .slice A' n' c', .int .i64 we] 27)).alloc (.cells #[.int .i64 y, .int .i64 m, .int .i64 (d + 1)] 29)).alloc (.cells #[.int .i64 0, .int .i64 0, .int .i64 0] 29)) = W0 := ⟨_, rfl⟩
    have yb : Below w.heap.size w W0 := by rw [← hW0]; (repeat (first | with_reducible exact Below.refl _ _ | with_reducible refine below_alloc ?_ _ | with_reducible refine below_drewN ?_ _ | with_reducible refine Below.drew ?_ | ((with_reducible refine below_set ?_ ?_ _); rotate_left; (focus (first | (simp; done) | (simp; omega) | omega))) | with_reducible refine below_call ?_ (by assumption)))
    have a0 : W0.cell? ⟨w.heap.size, 0, none⟩ = some (.string nm) := by rw [← hW0]; simp [go_sem]
    have a1 : W0.cell? ⟨w.heap.size, 1, none⟩ = some (.slice A n c) := by rw [← hW0]; simp [go_sem]
    have a2 : W0.cell? ⟨w.heap.size, 2, none⟩ = some (.slice A' n' c') := by rw [← hW0]; simp [go_sem]
    have a3 : W0.cell? ⟨w.heap.size, 3, none⟩ = some (.int .i64 we) := by rw [← hW0]; simp [go_sem]
    have b0 : W0.cell? ⟨w.heap.size + 1, 0, none⟩ = some (.int .i64 y) := by rw [← hW0]; simp [go_sem]
    have b1 : W0.cell? ⟨w.heap.size + 1, 1, none⟩ = some (.int .i64 m) := by rw [← hW0]; simp [go_sem]
    have b2 : W0.cell? ⟨w.heap.size + 1, 2, none⟩ = some (.int .i64 (d + 1)) := by rw [← hW0]; simp [go_sem]
    have x0 : W0.cell? ⟨w.heap.size + 1 + 1, 0, none⟩ = some (.int .i64 0) := by rw [← hW0]; simp [go_sem]
    have x1 : W0.cell? ⟨w.heap.size + 1 + 1, 1, none⟩ = some (.int .i64 0) := by rw [← hW0]; simp [go_sem]
    have x2 : W0.cell? ⟨w.heap.size + 1 + 1, 2, none⟩ = some (.int .i64 0) := by rw [← hW0]; simp [go_sem]
    have v1 : ∀ j, W0.frozen? ⟨w.heap.size + 1, j, none⟩ = false := by rw [← hW0]; intro j; simp [go_sem]
    have v2 : ∀ j, W0.frozen? ⟨w.heap.size + 1 + 1, j, none⟩ = false := by rw [← hW0]; intro j; simp [go_sem]
    have z0 : w.heap.size + 1 + 1 + 1 = W0.heap.size := by rw [← hW0]; simp
    have z1 : w.heap.size < W0.heap.size := by omega
    have z2 : w.heap.size + 1 < W0.heap.size := by omega
    have yr := Below.refl W0.heap.size W0
    rw [hW0]
    clear hW0
    go_region_held3 (fun w' => w'.cell? ⟨w.heap.size, 0, none⟩ = some (.string nm) ∧ w'.cell? ⟨w.heap.size, 1, none⟩ = some (.slice A n c) ∧ w'.cell? ⟨w.heap.size, 2, none⟩ = some (.slice A' n' c') ∧ w'.cell? ⟨w.heap.size, 3, none⟩ = some (.int .i64 we) ∧ w'.cell? ⟨w.heap.size + 1, 0, none⟩ = some (.int .i64 y) ∧ w'.cell? ⟨w.heap.size + 1, 1, none⟩ = some (.int .i64 m) ∧ w'.cell? ⟨w.heap.size + 1, 2, none⟩ = some (.int .i64 (d + 1)) ∧ w.heap.size < w'.heap.size ∧ w.heap.size + 1 < w'.heap.size ∧ Below w.heap.size w w' ∧ Below W0.heap.size W0 w') (first | ((try go_split_ands); (try dsimp only); refine ⟨?_, ?_, ?_, ?_, ?_, ?_, ?_, ?_, ?_, ?_, ?_⟩ <;> first | (exact cell_call (by assumption) (by assumption) (by assumption)) | (exact lt_call (by assumption) (by assumption)) | (exact below_call' (by assumption) (by assumption)) | (exact Below.drew (by assumption)) | (with_reducible assumption) | (simp; done) | (simp [*]; done) | ((repeat (first | with_reducible exact Below.refl _ _ | with_reducible refine below_alloc ?_ _ | with_reducible refine below_drewN ?_ _ | with_reducible refine Below.drew ?_ | ((with_reducible refine below_set ?_ ?_ _); rotate_left; (focus (first | (simp; done) | (simp; omega) | omega))) | with_reducible refine below_call ?_ (by assumption))); done) | omega | (simp; omega) | (simp [go_sem]; done) | (simp [go_sem, *]; done))) (first | (go_at_call 66; go_split_ands; refine (CL.out _ (by assumption)).mono ?_; rintro e w5 ⟨rfl, hb5⟩) | (go_at_call 100; go_split_ands; refine (CD.out _ (by assumption)).mono ?_; rintro e w6 ⟨rfl, hb6⟩))
    go_split_ands
    clear yr; have BK : Below W0.heap.size W0 w6 := by assumption
    have k0 := cell_call BK (p := ⟨w.heap.size + 1 + 1, 0, none⟩) (by simp; omega) x0
    have k1 := cell_call BK (p := ⟨w.heap.size + 1 + 1, 1, none⟩) (by simp; omega) x1
    have k2 := cell_call BK (p := ⟨w.heap.size + 1 + 1, 2, none⟩) (by simp; omega) x2
    have u0 := fro_call BK (p := ⟨w.heap.size + 1, 0, none⟩) (by simp; omega) (v1 0)
    have u1 := fro_call BK (p := ⟨w.heap.size + 1, 1, none⟩) (by simp; omega) (v1 1)
    have u2 := fro_call BK (p := ⟨w.heap.size + 1, 2, none⟩) (by simp; omega) (v1 2)
    have t0 := fro_call BK (p := ⟨w.heap.size + 1 + 1, 0, none⟩) (by simp; omega) (v2 0)
    have t1 := fro_call BK (p := ⟨w.heap.size + 1 + 1, 1, none⟩) (by simp; omega) (v2 1)
    have t2 := fro_call BK (p := ⟨w.heap.size + 1 + 1, 2, none⟩) (by simp; omega) (v2 2)
    have z3 := BK.size
    go_wp2_with fail
    refine (isMonth_val _ _ _ _ _ _ _ _ _ _ _ HM.out).mono ?_
    rintro e w7 ⟨rfl, hb7⟩
    have g0 := cell_call hb7 (p := ⟨w.heap.size + 1, 0, none⟩) (v := .int .i64 y) (by simp; omega) (by simp [go_sem, *])
    have g1 := cell_call hb7 (p := ⟨w.heap.size + 1, 1, none⟩) (v := .int .i64 m) (by simp; omega) (by simp [go_sem, *])
    have g2 := cell_call hb7 (p := ⟨w.heap.size + 1, 2, none⟩) (v := .int .i64 (d + 1)) (by simp; omega) (by simp [go_sem, *])
    have j0 := cell_call hb7 (p := ⟨w.heap.size + 1 + 1, 0, none⟩) (v := .int .i64 0) (by simp; omega) (by simpa [go_sem] using k0)
    have j1 := cell_call hb7 (p := ⟨w.heap.size + 1 + 1, 1, none⟩) (v := .int .i64 0) (by simp; omega) (by simpa [go_sem] using k1)
    have j2 := cell_call hb7 (p := ⟨w.heap.size + 1 + 1, 2, none⟩) (v := .int .i64 0) (by simp; omega) (by simpa [go_sem] using k2)
    have q0 := fro_call hb7 (p := ⟨w.heap.size + 1, 0, none⟩) (by simp; omega) (by simpa [go_sem] using u0)
    have q1 := fro_call hb7 (p := ⟨w.heap.size + 1, 1, none⟩) (by simp; omega) (by simpa [go_sem] using u1)
    have q2 := fro_call hb7 (p := ⟨w.heap.size + 1, 2, none⟩) (by simp; omega) (by simpa [go_sem] using u2)
    have q3 := fro_call hb7 (p := ⟨w.heap.size + 1 + 1, 0, none⟩) (by simp; omega) (by simpa [go_sem] using t0)
    have q4 := fro_call hb7 (p := ⟨w.heap.size + 1 + 1, 1, none⟩) (by simp; omega) (by simpa [go_sem] using t1)
    have q5 := fro_call hb7 (p := ⟨w.heap.size + 1 + 1, 2, none⟩) (by simp; omega) (by simpa [go_sem] using t2)
    go_wp2
    refine bodyPost_ret (v := .agg #[.int .i64 (y), .int .i64 (m), .int .i64 (d + 1)]) ?_ rfl ⟨rfl, ?_⟩
    · simp [results, Try.results46, go_sem, g0, g1, g2, j0, j1, j2, q0, q1, q2, q3, q4, q5]
    · (repeat (first | with_reducible exact Below.refl _ _ | with_reducible refine below_alloc ?_ _ | with_reducible refine below_drewN ?_ _ | with_reducible refine Below.drew ?_ | ((with_reducible refine below_set ?_ ?_ _); rotate_left; (focus (first | (simp; done) | (simp; omega) | omega))) | with_reducible refine below_call ?_ (by assumption)))
end Go.Proofs.Ythjldjbblaioaaa
