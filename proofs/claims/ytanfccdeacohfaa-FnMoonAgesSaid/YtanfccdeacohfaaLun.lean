/- Contracts of the two functions LunationsApart. No conditions. -/
import Derived.Test.YtanfccdeacohfaaMake2
import Derived.Test.YtanfccdeacohfaaMoonAge
import Derived.Deep.RegionHeld3
namespace Go.Proofs.Ytanfccdeacohfaa
open Go.RowKit
set_option linter.unusedVariables false
set_option linter.unusedSimpArgs false
/-- the difference of two ratios, not yet reduced -/
def dN (n d n' d' : Int) : Int := n * d' - n' * d
theorem ratio_same {n d n' d' : Int} (hv : vRatio n d = true) (hv' : vRatio n' d' = true) (h : dN n d n' d' = 0) : n = n' ∧ d = d' := by
  obtain ⟨h1, _, _, _, h2⟩ := vRatio_yes hv
  obtain ⟨h1', _, _, _, h2'⟩ := vRatio_yes hv'
  unfold dN at h
  have e : n * d' = n' * d := by omega
  have k1 : d ∣ d' := by
    have hd : d ∣ n * d' := ⟨n', by rw [e, Int.mul_comm]⟩
    exact Int.natAbs_dvd_natAbs.mp (Nat.Coprime.dvd_of_dvd_mul_left (k := d.natAbs) (m := n.natAbs) (show Nat.gcd d.natAbs n.natAbs = 1 by rw [Nat.gcd_comm]; exact h2) (by rw [← Int.natAbs_mul]; exact Int.natAbs_dvd_natAbs.mpr hd))
  have k2 : d' ∣ d := by
    have hd : d' ∣ n' * d := ⟨n, by rw [← e, Int.mul_comm]⟩
    exact Int.natAbs_dvd_natAbs.mp (Nat.Coprime.dvd_of_dvd_mul_left (k := d'.natAbs) (m := n'.natAbs) (show Nat.gcd d'.natAbs n'.natAbs = 1 by rw [Nat.gcd_comm]; exact h2') (by rw [← Int.natAbs_mul]; exact Int.natAbs_dvd_natAbs.mpr hd))
  have ed : d = d' := Int.dvd_antisymm (by omega) (by omega) k1 k2
  subst ed
  exact ⟨Int.eq_of_mul_eq_mul_right (by omega) e, rfl⟩
theorem redB_bd {x y : Int} (hx : x ≠ 0) (hy : 1 ≤ y) (h : redB x y = true) : 1 ≤ rD x y ∧ rD x y ≤ 1000000000 ∧ rN x y ≠ 0 ∧ -1000000000 ≤ rN x y ∧ rN x y ≤ 1000000000 := by
  have hg := gI_pos (n := x) (d := y) (by omega)
  have d1 : gI x y ∣ (x.natAbs : Int) := by unfold gI; exact Int.natCast_dvd_natCast.mpr (Nat.gcd_dvd_left _ _)
  have d2 : gI x y ∣ (y.natAbs : Int) := by unfold gI; exact Int.natCast_dvd_natCast.mpr (Nat.gcd_dvd_right _ _)
  have p1 : 1 ≤ (x.natAbs : Int) / gI x y := Int.le_ediv_of_mul_le hg (by have := Int.le_of_dvd (by omega) d1; omega)
  have p2 : 1 ≤ (y.natAbs : Int) / gI x y := Int.le_ediv_of_mul_le hg (by have := Int.le_of_dvd (by omega) d2; omega)
  have hb := h
  simp only [redB, Bool.and_eq_true, decide_eq_true_eq] at hb
  have e1 : rD x y = (y.natAbs : Int) / gI x y := by simp [rD, h, redD]
  have e2 : rN x y = redN x y := by simp [rN, h]
  rw [e1, e2]
  unfold redN
  split <;> omega
theorem ceil_eq {x y : Int} (hy : 1 ≤ y) : -(-x / y) = (x + y - 1) / y := by
  have h1 := Int.mul_ediv_add_emod (-x) y
  have h2 := Int.emod_nonneg (-x) (show y ≠ 0 by omega)
  have h3 := Int.emod_lt_of_pos (-x) (show 0 < y by omega)
  generalize -x / y = q at *
  generalize -x % y = r at *
  have h4 : x + y - 1 = (y - 1 - r) + (-q) * y := by
    have : y * q = q * y := Int.mul_comm _ _
    rw [Int.neg_mul]; omega
  rw [h4, Int.add_mul_ediv_right _ _ (by omega), Int.ediv_eq_zero_of_lt (by omega) (by omega)]
  omega
def lunT (n d n' d' : Int) : Value :=
  if vRatio n d && vRatio n' d' then if n = n' ∧ d = d' then .tuple #[.int .i64 0, .int .i64 3] else if redB (dN n d n' d') (d * d') then .tuple #[.int .i64 ((rD (dN n d n' d') (d * d') + ((rN (dN n d n' d') (d * d')).natAbs : Int) - 1) / ((rN (dN n d n' d') (d * d')).natAbs : Int)), .int .i64 0] else .tuple #[.int .i64 0, .int .i64 2] else .tuple #[.int .i64 0, .int .i64 1]
theorem lunT_form (n d n' d' : Int) : ∃ a b : Int, lunT n d n' d' = .tuple #[.int .i64 a, .int .i64 b] := by
  unfold lunT; repeat' split
  all_goals exact ⟨_, _, rfl⟩
theorem lun_bad {n d n' d' : Int} (h : (vRatio n d && vRatio n' d') = false) : lunT n d n' d' = .tuple #[.int .i64 0, .int .i64 1] := by unfold lunT; rw [h]; rfl
theorem lun_eq {n d n' d' : Int} (h : (vRatio n d && vRatio n' d') = true) (h' : n = n' ∧ d = d') : lunT n d n' d' = .tuple #[.int .i64 0, .int .i64 3] := by unfold lunT; rw [h, if_pos rfl, if_pos h']
theorem lun_far {n d n' d' : Int} (h : (vRatio n d && vRatio n' d') = true) (h' : ¬ (n = n' ∧ d = d')) (h2 : redB (dN n d n' d') (d * d') = false) : lunT n d n' d' = .tuple #[.int .i64 0, .int .i64 2] := by unfold lunT; rw [h, if_pos rfl, if_neg h', h2]; rfl
theorem lun_ok {n d n' d' : Int} (h : (vRatio n d && vRatio n' d') = true) (h' : ¬ (n = n' ∧ d = d')) (h2 : redB (dN n d n' d') (d * d') = true) : lunT n d n' d' = .tuple #[.int .i64 ((rD (dN n d n' d') (d * d') + ((rN (dN n d n' d') (d * d')).natAbs : Int) - 1) / ((rN (dN n d n' d') (d * d')).natAbs : Int)), .int .i64 0] := by unfold lunT; rw [h, if_pos rfl, if_neg h', h2, if_pos rfl]
set_option maxHeartbeats 400000 in
theorem ceilDiv_any (x y : Int) (w : World) (h1 : 0 ≤ x) (h2 : x ≤ 1000000000000) (h3 : 1 ≤ y) (h4 : y ≤ 1000000000000) :
    Calls Try.prog 68 #[.int .i64 x, .int .i64 y] w fun e w' => e = .returned (.int .i64 ((x + y - 1) / y)) ∧ w = w' := by
  have e := ceil_eq (x := x) h3
  have b1 : -1000000000000 ≤ -x / y := Int.le_ediv_of_mul_le (by omega) (by have := Int.mul_le_mul_of_nonneg_left h3 (show (0:Int) ≤ 1000000000000 by omega); rw [Int.neg_mul]; omega)
  have b2 : -x / y ≤ 0 := Int.ediv_nonpos_of_nonpos_of_neg (by omega) (by omega)
  generalize (x + y - 1) / y = v at *
  have hf := fun w => floorDiv_any (-x) y w (by omega) (by omega) (by omega) (by omega)
  generalize -x / y = q at *
  have HF := Lib.hid hf
  clear hf
  go_enter Try.func68, Try.ntmps68
  go_wp2_with (go_at_call 76; refine (HF.out _).mono ?_; rintro e w' ⟨rfl, rfl⟩)
  go_ret
  exact ⟨ret_int (by omega), rfl⟩
set_option maxHeartbeats 400000 in
theorem l02Neg_any (n d : Int) (w : World) (h1 : -1000000000 ≤ n) (h2 : n ≤ 1000000000) :
    Calls Try.prog 66 #[.agg #[.int .i64 n, .int .i64 d]] w fun e w' => e = .returned (.agg #[.int .i64 (-n), .int .i64 d]) ∧ Below w.heap.size w w' := by
  go_enter Try.func66, Try.ntmps66
  go_wp2
  refine bodyPost_ret (v := .agg #[.int .i64 (-n), .int .i64 d]) (by simp [results, Try.results66, go_sem]) rfl ⟨rfl, ?_⟩
  (repeat (first | with_reducible exact Below.refl _ _ | with_reducible refine below_alloc ?_ _ | with_reducible refine below_drewN ?_ _ | with_reducible refine Below.drew ?_ | ((with_reducible refine below_set ?_ ?_ _); rotate_left; (focus (first | (simp; done) | (simp; omega) | omega))) | with_reducible refine below_call ?_ (by assumption)))
theorem sub_bd {n d n' d' : Int} (hv : vRatio n d = true) (hv' : vRatio n' d' = true) : (-1000000000000000000 ≤ n * d' ∧ n * d' ≤ 1000000000000000000) ∧ (-1000000000000000000 ≤ n' * d ∧ n' * d ≤ 1000000000000000000) ∧ 1 ≤ d * d' ∧ d * d' ≤ 1000000000000000000 := by
  obtain ⟨a1, a2, a3, a4, _⟩ := vRatio_yes hv
  obtain ⟨b1, b2, b3, b4, _⟩ := vRatio_yes hv'
  have m1 := mul_bd (a := n) (b := d') (A := 1000000000) (B := 1000000000) (by omega) (by omega) (by omega) (by omega)
  have m2 := mul_bd (a := n') (b := d) (A := 1000000000) (B := 1000000000) (by omega) (by omega) (by omega) (by omega)
  have m3 := mul_bd (a := d) (b := d') (A := 1000000000) (B := 1000000000) (by omega) (by omega) (by omega) (by omega)
  have m4 : 0 < d * d' := Int.mul_pos (by omega) (by omega)
  omega
set_option maxHeartbeats 2000000 in
theorem SubRatio_any (n d n' d' : Int) (w : World) (hv : vRatio n d = true) (hv' : vRatio n' d' = true) :
    Calls Try.prog 38 #[.agg #[.int .i64 n, .int .i64 d], .agg #[.int .i64 n', .int .i64 d']] w fun e w' => e = .returned (.tuple #[.agg #[.int .i64 (rN (dN n d n' d') (d * d')), .int .i64 (rD (dN n d n' d') (d * d'))], .int .i64 (rC (dN n d n' d') (d * d'))]) ∧ Below w.heap.size w w' := by
  obtain ⟨⟨a1, a2⟩, ⟨b1, b2⟩, c1, c2⟩ := sub_bd hv hv'
  have v1 := fun w => ValidRatio_any n d w
  have v2 := fun w => ValidRatio_any n' d' w
  rw [hv] at v1
  rw [hv'] at v2
  have hr := fun w => MakeRatio_any (dN n d n' d') (d * d') w (by unfold dN; omega) (by unfold dN; omega) (by omega) (by omega) (by omega)
  have w1 : IntKind.i64.wrap (n * d') = n * d' := IntWalk.i64_in _ (by omega)
  have w2 : IntKind.i64.wrap (n' * d) = n' * d := IntWalk.i64_in _ (by omega)
  have w3 : IntKind.i64.wrap (d * d') = d * d' := IntWalk.i64_in _ (by omega)
  have w4 : IntKind.i64.wrap (n * d' - n' * d) = dN n d n' d' := IntWalk.i64_in _ (by omega)
  generalize rN (dN n d n' d') (d * d') = rn at *
  generalize rD (dN n d n' d') (d * d') = rd at *
  generalize rC (dN n d n' d') (d * d') = rc at *
  have V1 := Lib.hid v1
  have V2 := Lib.hid v2
  have HR := Lib.hid hr
  clear v1 v2 hr hv hv'
  go_enter Try.func38, Try.ntmps38
  go_wp2_with fail
  refine (V1.out _).mono ?_
  rintro e w5 ⟨rfl, hb5⟩
  obtain ⟨hc5, hf5, hs5⟩ := bcell hb5
  (try (refine cut_ (p := w.heap.size < w5.heap.size) ?_ ?_; (focus (refine hs5 _ ?_; first | assumption | omega | (simp [go_sem]; done) | (simp [go_sem]; omega))); intro hl5a))
  (try (refine cut_ (p := w.heap.size + 1 < w5.heap.size) ?_ ?_; (focus (refine hs5 _ ?_; first | assumption | omega | (simp [go_sem]; done) | (simp [go_sem]; omega))); intro hl5b))
  (try (refine cut_ (p := w.heap.size + 1 + 1 < w5.heap.size) ?_ ?_; (focus (refine hs5 _ ?_; first | assumption | omega | (simp [go_sem]; done) | (simp [go_sem]; omega))); intro hl5c))
  go_wp2_with fail
  refine (V2.out _).mono ?_
  rintro e w6 ⟨rfl, hb6⟩
  obtain ⟨hc6, hf6, hs6⟩ := bcell hb6
  (try (refine cut_ (p := w.heap.size < w6.heap.size) ?_ ?_; (focus (refine hs6 _ ?_; first | assumption | omega | (simp [go_sem]; done) | (simp [go_sem]; omega))); intro hl6a))
  (try (refine cut_ (p := w.heap.size + 1 < w6.heap.size) ?_ ?_; (focus (refine hs6 _ ?_; first | assumption | omega | (simp [go_sem]; done) | (simp [go_sem]; omega))); intro hl6b))
  (try (refine cut_ (p := w.heap.size + 1 + 1 < w6.heap.size) ?_ ?_; (focus (refine hs6 _ ?_; first | assumption | omega | (simp [go_sem]; done) | (simp [go_sem]; omega))); intro hl6c))
  have g6 : w.heap.size + 1 < w6.heap.size := by first | assumption | omega | exact hs6 _ (hs5 _ (by simp [go_sem]))
  have g7 : w.heap.size + 1 + 1 < w6.heap.size := by first | assumption | omega | exact hs6 _ (hs5 _ (by simp [go_sem]))
  go_wp2_with fail
  refine (HR.out _).mono ?_
  rintro e w7 ⟨rfl, hb7⟩
  obtain ⟨hc7, hf7, hs7⟩ := bcell hb7
  (try (refine cut_ (p := w.heap.size < w7.heap.size) ?_ ?_; (focus (refine hs7 _ ?_; first | assumption | omega | (simp [go_sem]; done) | (simp [go_sem]; omega))); intro hl7a))
  (try (refine cut_ (p := w.heap.size + 1 < w7.heap.size) ?_ ?_; (focus (refine hs7 _ ?_; first | assumption | omega | (simp [go_sem]; done) | (simp [go_sem]; omega))); intro hl7b))
  (try (refine cut_ (p := w.heap.size + 1 + 1 < w7.heap.size) ?_ ?_; (focus (refine hs7 _ ?_; first | assumption | omega | (simp [go_sem]; done) | (simp [go_sem]; omega))); intro hl7c))
  have r0 : w7.cell? ⟨w.heap.size + 1 + 1, 0, none⟩ = some (.int .i64 0) := by simp [go_sem, hc7, hc6, hc5, *]
  have r1 : w7.cell? ⟨w.heap.size + 1 + 1, 1, none⟩ = some (.int .i64 0) := by simp [go_sem, hc7, hc6, hc5, *]
  have r2 : w7.frozen? ⟨w.heap.size + 1 + 1, 0, none⟩ = false := by simp [go_sem, hf7, hf6, hf5, *]
  have r3 : w7.frozen? ⟨w.heap.size + 1 + 1, 1, none⟩ = false := by simp [go_sem, hf7, hf6, hf5, *]
  go_wp2
  refine bodyPost_ret (v := .tuple #[.agg #[.int .i64 rn, .int .i64 rd], .int .i64 rc]) ?_ rfl ⟨rfl, ?_⟩
  · simp [results, Try.results38, go_sem, r0, r1]
  · (repeat (first | with_reducible exact Below.refl _ _ | with_reducible refine below_alloc ?_ _ | with_reducible refine below_drewN ?_ _ | with_reducible refine Below.drew ?_ | ((with_reducible refine below_set ?_ ?_ _); rotate_left; (focus (first | (simp; done) | (simp; omega) | omega))) | with_reducible refine below_call ?_ (by assumption)))
end Go.Proofs.Ytanfccdeacohfaa
