/- The program's SetPerpetual: a work that shows a day. No conditions but that there are at most 2^20 months, rules and levels. -/
import Derived.Test.YtbmiamfgdjiodaaAsk
import Derived.Test.YtbmiamfgdjiodaaPush
namespace Go.Proofs.Ytbmiamfgdjiodaa
open Go.RowKit
set_option linter.unusedVariables false
set_option linter.unusedSimpArgs false
/-- the greatest of t and of the days of the first k months -/
def teK (ms : List Mth) (t : Int) : Nat → Int
  | 0 => t
  | k + 1 => max (max (teK ms t k) (ms.getD k m0).dy) (ms.getD k m0).lp
theorem teK_bd {ms : List Mth} {t : Int} {n : Nat} (h1 : 1 ≤ t) (h2 : t ≤ 60) (h : ∀ j, j < n → mOk (ms.getD j m0) = true) : ∀ k, k ≤ n → 1 ≤ teK ms t k ∧ teK ms t k ≤ 60
  | 0, _ => ⟨h1, h2⟩
  | k + 1, hk => by
    have ih := teK_bd h1 h2 h k (by omega)
    have := mOk_yes (h k (by omega))
    simp only [teK]
    omega
/-- the greatest of 0 and the first k levels -/
def cgK (zs : List Int) : Nat → Int
  | 0 => 0
  | k + 1 => max (cgK zs k) (zs.getD k 0)
theorem cgK_max {zs : List Int} (h : 0 ≤ zs.getD 0 0) : ∀ k, cgK zs (k + 1) = maxK zs k
  | 0 => by simp only [cgK, maxK]; omega
  | k + 1 => by
    have ih := cgK_max h k
    have e : cgK zs (k + 1 + 1) = max (cgK zs (k + 1)) (zs.getD (k + 1) 0) := rfl
    rw [e, ih]
    simp only [maxK]
    split <;> omega
/-- the place of a day's month on the cam -/
def setIx (l n : Nat) (y m : Int) : Int := y % ((l / n : Nat) : Int) * (n : Int) + m - 1
def rSet (nm : ByteArray) (n n' : Nat) (ms : List Mth) (rs : List Rul) (cw : Int) (zs : List Int) (l : Nat) (y m d wk : Int) : PR :=
  if askV nm n n' ms rs cw zs l = 0 then
    if dOk ms rs n n' y m d && inB wk 1 cw then okP zs l n (teK ms (maxK zs (l - 1)) n) (setIx l n y m) d cw wk else badP 2
  else badP (askV nm n n' ms rs cw zs l)
theorem rSet_len (nm : ByteArray) (n n' : Nat) (ms : List Mth) (rs : List Rul) (cw : Int) (zs : List Int) (l : Nat) (y m d wk : Int) (hl : l ≤ 1048576) : (rSet nm n n' ms rs cw zs l y m d wk).1 ≤ 1048576 := by
  unfold rSet; split
  · split <;> simp [okP, badP, hl]
  · simp [badP]
section
variable {nm : ByteArray} {n n' : Nat} {ms : List Mth} {rs : List Rul} {cw : Int} {zs : List Int} {l : Nat} {y m d wk : Int}
theorem rSet_bad {v : Int} (h : askV nm n n' ms rs cw zs l = v) (h0 : v ≠ 0) : rSet nm n n' ms rs cw zs l y m d wk = badP v := by rw [rSet, h, if_neg h0]
theorem rSet_far (h : askV nm n n' ms rs cw zs l = 0) (h2 : (dOk ms rs n n' y m d && inB wk 1 cw) = false) : rSet nm n n' ms rs cw zs l y m d wk = badP 2 := by rw [rSet, h, if_pos rfl, h2]; rfl
theorem rSet_ok (h : askV nm n n' ms rs cw zs l = 0) (h2 : (dOk ms rs n n' y m d && inB wk 1 cw) = true) : rSet nm n n' ms rs cw zs l y m d wk = okP zs l n (teK ms (maxK zs (l - 1)) n) (setIx l n y m) d cw wk := by rw [rSet, h, if_pos rfl, h2]; rfl
end
theorem setIx_bd {l n : Nat} {y m : Int} (h0 : l % n = 0) (hl : 1 ≤ l) (hl2 : l ≤ 260) (hn : 1 ≤ n) (hy0 : 0 ≤ y) (hm1 : 1 ≤ m) (hm2 : m ≤ n) :
    1 ≤ ((l / n : Nat) : Int) ∧ ((l / n : Nat) : Int) ≤ 260 ∧ 0 ≤ y % ((l / n : Nat) : Int) ∧ y % ((l / n : Nat) : Int) < ((l / n : Nat) : Int) ∧ 0 ≤ y % ((l / n : Nat) : Int) * (n : Int) ∧ y % ((l / n : Nat) : Int) * (n : Int) + n ≤ l := by
  have h1 := Nat.div_add_mod l n
  rw [h0, Nat.add_zero] at h1
  have h2 : 1 ≤ l / n := by
    rcases Nat.eq_zero_or_pos (l / n) with h | h
    · rw [h, Nat.mul_zero] at h1; omega
    · exact h
  have h3 : l / n ≤ l := Nat.div_le_self l n
  have hq : (1 : Int) ≤ ((l / n : Nat) : Int) := by omega
  have a0 := Int.emod_nonneg y (show ((l / n : Nat) : Int) ≠ 0 by omega)
  have a1 := Int.emod_lt_of_pos y (show (0 : Int) < ((l / n : Nat) : Int) by omega)
  refine ⟨hq, by omega, a0, a1, Int.mul_nonneg a0 (by omega), ?_⟩
  have h4 : (y % ((l / n : Nat) : Int) + 1) * (n : Int) ≤ ((l / n : Nat) : Int) * (n : Int) := Int.mul_le_mul_of_nonneg_right (by omega) (by omega)
  have h5 : ((l / n : Nat) : Int) * (n : Int) = (l : Int) := by rw [← Int.natCast_mul, Nat.mul_comm, h1]
  rw [Int.add_mul, Int.one_mul] at h4
  omega
/-- the calendar and the date of the call, and the place of the result -/
structure SW (w W : World) (nm : ByteArray) (A A' : Option Addr) (n n' c c' : Nat) (cw y m d : Int) : Prop where
  cal : CalAt W w.heap.size nm A A' n n' c c' cw
  dt : DatAt W (w.heap.size + 1) y m d
  rs : Work W (w.heap.size + 1 + 1) (.slice none 0 0) 0 0 0 0 0 0
  bl : Below w.heap.size w W
section
variable {w W W' : World} {nm : ByteArray} {A A' : Option Addr} {n n' c c' : Nat} {cw y m d : Int}
theorem SW.call (h : SW w W nm A A' n n' c c' cw y m d) (hb : Below W.heap.size W W') : SW w W' nm A A' n n' c c' cw y m d := ⟨h.cal.call hb, h.dt.call hb, h.rs.call hb, h.bl.trans (hb.mono h.bl.size)⟩
theorem SW.start (w : World) (t t2 t3 : TypeId) (nm : ByteArray) (A A' : Option Addr) (n n' c c' : Nat) (cw y m d : Int) :
    SW w (((w.alloc (.cells #[.string nm, .slice A n c, .slice A' n' c', .int .i64 cw] t)).alloc (.cells #[.int .i64 y, .int .i64 m, .int .i64 d] t2)).alloc (.cells #[.slice none 0 0, .int .i64 0, .int .i64 0, .int .i64 0, .int .i64 0, .int .i64 0, .int .i64 0] t3)) nm A A' n n' c c' cw y m d := by
  have hd := dat_new (w.alloc (.cells #[.string nm, .slice A n c, .slice A' n' c', .int .i64 cw] t)) t2 y m d
  have hw := work_new ((w.alloc (.cells #[.string nm, .slice A n c, .slice A' n' c', .int .i64 cw] t)).alloc (.cells #[.int .i64 y, .int .i64 m, .int .i64 d] t2)) t3 (.slice none 0 0) 0 0 0 0 0 0
  exact ⟨(cal_new w t nm A A' n n' c c' cw).below (B := w.heap.size + 1) (by omega) (((Below.refl (w.heap.size + 1) (w.alloc (.cells #[.string nm, .slice A n c, .slice A' n' c', .int .i64 cw] t))).alloc (by simp) _).alloc (by simp) _), DatAt.alloc (by simpa using hd) _, by simpa using hw, (((Below.refl w.heap.size w).alloc (Nat.le_refl _) _).alloc (by simp) _).alloc (by simp; omega) _⟩
end
theorem set7_heap {g b : Nat} {v0 v1 v2 v3 v4 v5 v6 : Value} (W : World) (h : b ≠ g) : (((((((W.setCell ⟨g, 0, none⟩ v0).setCell ⟨g, 1, none⟩ v1).setCell ⟨g, 2, none⟩ v2).setCell ⟨g, 3, none⟩ v3).setCell ⟨g, 4, none⟩ v4).setCell ⟨g, 5, none⟩ v5).setCell ⟨g, 6, none⟩ v6).heap[b]? = W.heap[b]? := by
  rw [Below.heap_setCell _ _ _ _ h, Below.heap_setCell _ _ _ _ h, Below.heap_setCell _ _ _ _ h, Below.heap_setCell _ _ _ _ h, Below.heap_setCell _ _ _ _ h, Below.heap_setCell _ _ _ _ h, Below.heap_setCell _ _ _ _ h]
theorem below_set7 {B g : Nat} {a W : World} {v0 v1 v2 v3 v4 v5 v6 : Value} (hb : Below B a W) (h : B ≤ g) : Below B a (((((((W.setCell ⟨g, 0, none⟩ v0).setCell ⟨g, 1, none⟩ v1).setCell ⟨g, 2, none⟩ v2).setCell ⟨g, 3, none⟩ v3).setCell ⟨g, 4, none⟩ v4).setCell ⟨g, 5, none⟩ v5).setCell ⟨g, 6, none⟩ v6) :=
  ((((((hb.setCell h _).setCell h _).setCell h _).setCell h _).setCell h _).setCell h _).setCell h _
set_option maxHeartbeats 4000000 in
theorem SetPerpetual_any (nm : ByteArray) (A A' L : Option Addr) (n n' c c' l e B : Nat) (ms : List Mth) (rs : List Rul) (cw : Int) (zs : List Int) (y m d wk : Int) (w : World) (h : Months w B A n ms) (h' : Rules w B A' n' rs) (hI : Ints w B L l zs) (hB : B ≤ w.heap.size) (hn : n ≤ c) (hc : c ≤ 1048576) (hn' : n' ≤ 1048576) (hl : l ≤ 1048576) :
    Calls Try.prog 24 #[.agg #[.string nm, .slice A n c, .slice A' n' c', .int .i64 cw], .slice L l e, .agg #[.int .i64 y, .int .i64 m, .int .i64 d], .int .i64 wk] w (NewPerp w (rSet nm n n' ms rs cw zs l y m d wk)) := by
  have H := Lib.hid (Tri.more h hB)
  have H' := Lib.hid (Tri.more h' hB)
  have HI := Lib.hid (hI.more hB)
  have F0 := Lib.hid (SW.start w 33 53 50 nm A A' n n' c c' cw y m d)
  clear h h' hI
  have cA := fun (W : World) (hb : Below w.heap.size w W) => askedCam_any nm A A' L n n' c c' l e w.heap.size ms rs cw zs W (Tri.below H.out hb) (Tri.below H'.out hb) (Ints.below HI.out hb) hb.size hn hc hn' hl
  obtain ⟨v, hv⟩ : ∃ v, askV nm n n' ms rs cw zs l = v := ⟨_, rfl⟩
  rw [hv] at cA
  have CA := Lib.hid cA
  clear cA
  by_cases h0 : v = 0
  · subst h0
    obtain ⟨k1, k2, k3⟩ := ask_yes hv
    have cD := fun (W : World) (hb : Below w.heap.size w W) => ValidDate_any nm A A' n n' c c' w.heap.size ms rs cw y m d W (Tri.below H.out hb) (Tri.below H'.out hb) hb.size hn (by omega) (by omega) k1
    cases v3 : dOk ms rs n n' y m d
    · rw [rSet_far hv (by rw [v3]; rfl)]
      rw [v3] at cD
      have CD := Lib.hid cD
      clear cD v3 hv k1 k2 k3
      go_enter Try.func24, Try.ntmps24
      go_wp2_with fail
      go_at_call 54
      refine (CA.out _ F0.out.bl).mono ?_
      rintro e1 w1 ⟨rfl, hb1⟩
      have F1 := Lib.hid (F0.out.call hb1)
      clear hb1
      obtain ⟨-, u0, u1, u2, u3⟩ := F1.out.cal
      obtain ⟨t0, t1, t2, -⟩ := F1.out.dt
      obtain ⟨p0, p1, p2, p3, p4, p5, p6, pf⟩ := F1.out.rs
      have f0 := pf 0
      have f1 := pf 1
      have f2 := pf 2
      have f3 := pf 3
      have f4 := pf 4
      have f5 := pf 5
      have f6 := pf 6
      clear pf
      go_wp2_with fail
      go_at_call 62
      refine (CD.out _ F1.out.bl).mono ?_
      rintro e1 w2 ⟨rfl, hb2⟩
      have F2 := Lib.hid (F1.out.call hb2)
      clear hb2 u0 u1 u2 u3 t0 t1 t2 p0 p1 p2 p3 p4 p5 p6 f0 f1 f2 f3 f4 f5 f6
      obtain ⟨-, u0, u1, u2, u3⟩ := F2.out.cal
      obtain ⟨t0, t1, t2, -⟩ := F2.out.dt
      obtain ⟨p0, p1, p2, p3, p4, p5, p6, pf⟩ := F2.out.rs
      have f0 := pf 0
      have f1 := pf 1
      have f2 := pf 2
      have f3 := pf 3
      have f4 := pf 4
      have f5 := pf 5
      have f6 := pf 6
      clear pf
      go_wp2
      refine bodyPost_ret (v := badV 2) ?_ rfl (newPerp_bad ?_)
      · simp [results, Try.results24, go_sem, badV, *]
      · have := F2.out.bl
        (repeat (first | with_reducible exact Below.refl _ _ | with_reducible refine below_alloc ?_ _ | with_reducible refine below_drewN ?_ _ | with_reducible refine Below.drew ?_ | ((with_reducible refine below_set ?_ ?_ _); rotate_left; (focus (first | (simp; done) | (simp; omega) | omega))) | with_reducible refine below_call ?_ (by assumption)))
    rw [v3] at cD
    have CD := Lib.hid cD
    cases v4 : inB wk 1 cw
    · rw [rSet_far hv (by rw [v3, v4]; rfl)]
      have Y := Lib.hid v4
      clear cD v3 hv k1 k2 k3 v4
      go_enter Try.func24, Try.ntmps24
      go_wp2_with fail
      go_at_call 54
      refine (CA.out _ F0.out.bl).mono ?_
      rintro e1 w1 ⟨rfl, hb1⟩
      have F1 := Lib.hid (F0.out.call hb1)
      clear hb1
      obtain ⟨-, u0, u1, u2, u3⟩ := F1.out.cal
      obtain ⟨t0, t1, t2, -⟩ := F1.out.dt
      obtain ⟨p0, p1, p2, p3, p4, p5, p6, pf⟩ := F1.out.rs
      have f0 := pf 0
      have f1 := pf 1
      have f2 := pf 2
      have f3 := pf 3
      have f4 := pf 4
      have f5 := pf 5
      have f6 := pf 6
      clear pf
      go_wp2_with fail
      go_at_call 62
      refine (CD.out _ F1.out.bl).mono ?_
      rintro e1 w2 ⟨rfl, hb2⟩
      have F2 := Lib.hid (F1.out.call hb2)
      clear hb2 u0 u1 u2 u3 t0 t1 t2 p0 p1 p2 p3 p4 p5 p6 f0 f1 f2 f3 f4 f5 f6
      obtain ⟨-, u0, u1, u2, u3⟩ := F2.out.cal
      obtain ⟨t0, t1, t2, -⟩ := F2.out.dt
      obtain ⟨p0, p1, p2, p3, p4, p5, p6, pf⟩ := F2.out.rs
      have f0 := pf 0
      have f1 := pf 1
      have f2 := pf 2
      have f3 := pf 3
      have f4 := pf 4
      have f5 := pf 5
      have f6 := pf 6
      clear pf
      go_wp2_with (go_at_call 63; refine (within_val _ _ _ _ _ Y.out).mono ?_; rintro e w' ⟨rfl, rfl⟩)
      refine bodyPost_ret (v := badV 2) ?_ rfl (newPerp_bad ?_)
      · simp [results, Try.results24, go_sem, badV, *]
      · have := F2.out.bl
        (repeat (first | with_reducible exact Below.refl _ _ | with_reducible refine below_alloc ?_ _ | with_reducible refine below_drewN ?_ _ | with_reducible refine Below.drew ?_ | ((with_reducible refine below_set ?_ ?_ _); rotate_left; (focus (first | (simp; done) | (simp; omega) | omega))) | with_reducible refine below_call ?_ (by assumption)))
    rw [rSet_ok hv (by rw [v3, v4]; rfl)]
    have Y := Lib.hid v4
    obtain ⟨⟨y0, y1⟩, ⟨m1, m2⟩, d1, d2⟩ := dOk_yes v3
    obtain ⟨-, -, -, hmo, ⟨n1, n2⟩, -, -⟩ := vCal_yes k1
    obtain ⟨z1, z2, z3⟩ := vCam_yes k2
    rw [HI.out.len] at z1 z2 z3
    have hT1 : 1 ≤ maxK zs (l - 1) := by have h1 := (maxK_le zs (maxK zs (l - 1)) (l - 1)).mp (Int.le_refl _) 0 (Nat.zero_le _); have h2 := (z1 0 (by omega)).1; omega
    have hT2 : maxK zs (l - 1) ≤ 60 := (maxK_le zs 60 (l - 1)).mpr (fun j hj => (z1 j (by omega)).2)
    obtain ⟨q1, q2, a0, a1, b0, b1⟩ := setIx_bd k3 z2 z3 n1 y0 m1 m2
    have hsi : setIx l n y m = y % ((l / n : Nat) : Int) * (n : Int) + m - 1 := rfl
    have cM := fun (W : World) (hb : Below w.heap.size w W) => Max_any L l e w.heap.size zs W (Ints.below HI.out hb) z2 hl
    have cB := fun (W : World) => belongs_any nm A A' L n n' c c' l e cw W n1 (by omega) hl
    have cC := fun (W : World) (hb : Below w.heap.size w W) => Clone_any L l e w.heap.size zs W (Ints.below HI.out hb) hb.size z2 hl
    rw [belV_yes k3] at cB
    have t1 : y.tmod ((l / n : Nat) : Int) = y % ((l / n : Nat) : Int) := Int.tmod_eq_emod_of_nonneg y0
    rw [hsi]
    generalize ((l / n : Nat) : Int) = Q at *
    generalize y % Q = R at *
    obtain ⟨P, hP⟩ : ∃ P, R * (n : Int) = P := ⟨_, rfl⟩
    rw [hP] at b0 b1 ⊢
    generalize maxK zs (l - 1) = T0 at *
    have HTB := Lib.hid (teK_bd hT1 hT2 hmo)
    have CM := Lib.hid cM
    have CB := Lib.hid cB
    have CC := Lib.hid cC
    have HZ1 := Lib.hid z1
    have HMO := Lib.hid hmo
    have CD := Lib.hid cD
    have e0 : ¬ (Q = 0) := by omega
    have e1 : (Q == 0) = false := by simpa using e0
    have s1 : IntKind.i64.wrap R = R := IntWalk.i64_in _ (by omega)
    have s2 : IntKind.i64.wrap (R * (n : Int)) = P := by rw [hP]; exact IntWalk.i64_in _ (by omega)
    have s3 : IntKind.i64.wrap (P + m) = P + m := IntWalk.i64_in _ (by omega)
    have s4 : IntKind.i64.wrap (P + m - 1) = P + m - 1 := IntWalk.i64_in _ (by omega)
    have s5 : IntKind.i64.wrap P = P := IntWalk.i64_in _ (by omega)
    clear cD v3 hv k1 k2 k3 v4 cM cB cC hsi z1 hmo
    go_enter Try.func24, Try.ntmps24
    go_wp2_with fail
    go_at_call 54
    refine (CA.out _ F0.out.bl).mono ?_
    rintro e1 w1 ⟨rfl, hb1⟩
    have F1 := Lib.hid (F0.out.call hb1)
    clear hb1
    obtain ⟨-, u0, u1, u2, u3⟩ := F1.out.cal
    obtain ⟨t0, t1, t2, -⟩ := F1.out.dt
    obtain ⟨p0, p1, p2, p3, p4, p5, p6, pf⟩ := F1.out.rs
    have f0 := pf 0
    have f1 := pf 1
    have f2 := pf 2
    have f3 := pf 3
    have f4 := pf 4
    have f5 := pf 5
    have f6 := pf 6
    clear pf
    go_wp2_with fail
    go_at_call 62
    refine (CD.out _ F1.out.bl).mono ?_
    rintro e1 w2 ⟨rfl, hb2⟩
    have F2 := Lib.hid (F1.out.call hb2)
    clear hb2 u0 u1 u2 u3 t0 t1 t2 p0 p1 p2 p3 p4 p5 p6 f0 f1 f2 f3 f4 f5 f6
    obtain ⟨-, u0, u1, u2, u3⟩ := F2.out.cal
    obtain ⟨t0, t1, t2, -⟩ := F2.out.dt
    obtain ⟨p0, p1, p2, p3, p4, p5, p6, pf⟩ := F2.out.rs
    have f0 := pf 0
    have f1 := pf 1
    have f2 := pf 2
    have f3 := pf 3
    have f4 := pf 4
    have f5 := pf 5
    have f6 := pf 6
    clear pf
    go_wp2_with (first | (go_at_call 63; refine (within_val _ _ _ _ _ Y.out).mono ?_; rintro e w' ⟨rfl, rfl⟩) | (go_at_call 64; refine (CM.out _ F2.out.bl).mono ?_; rintro e w' ⟨rfl, rfl⟩) | fail)
    clear u0 u1 u2 u3 t0 t1 t2 p0 p1 p2 p3 p4 p5 p6 f0 f1 f2 f3 f4 f5 f6
    go_loopw [11, 13, 39] (fun a _ t wr => ∃ k : Nat, t = .int .i64 k ∧ k ≤ n ∧ a = .int .i64 (teK ms T0 k) ∧ Hid (SW w wr nm A A' n n' c c' cw y m d)) (fun _ _ t _ => n - (intOf t).toNat)
    case atStart => exact ⟨0, rfl, Nat.zero_le _, rfl, F2⟩
    case round =>
      obtain ⟨k, rfl, hk, rfl, F⟩ := hrel
      have i0 : (0 : Int) ≤ (k : Int) := Int.natCast_nonneg _
      by_cases hlt : k < n
      · have i1 : (k : Int) < (n : Int) := by omega
        obtain ⟨b, off, rfl, hbl, c1, c2, c3⟩ := Months.at_ (Tri.below H.out F.out.bl) hlt
        have hst : teK ms T0 (k + 1) = max (max (teK ms T0 k) (ms.getD k m0).dy) (ms.getD k m0).lp := rfl
        generalize ms.getD k m0 = x at *
        generalize teK ms T0 k = T at *
        have HST := Lib.hid hst
        clear hst
        go_wp2
        go_roundw
        case rel => exact ⟨k + 1, by go_num, by omega, by rw [HST.out]; congr 1; (by_cases h1 : T < x.dy <;> simp only [h1, if_true, if_false] <;> split <;> omega), Lib.hid (F.out.call (by (repeat (first | with_reducible exact Below.refl _ _ | with_reducible refine below_alloc ?_ _ | with_reducible refine below_drewN ?_ _ | with_reducible refine Below.drew ?_ | ((with_reducible refine below_set ?_ ?_ _); rotate_left; (focus (first | (simp; done) | (simp; omega) | omega))) | with_reducible refine below_call ?_ (by assumption)))))⟩
        case measure => simp [intOf]; omega
      · obtain rfl : k = n := by omega
        have hte := HTB.out k (Nat.le_refl _)
        obtain ⟨-, u0, u1, u2, u3⟩ := F.out.cal
        generalize teK ms T0 k = TE at *
        obtain ⟨t0, t2, t3, -⟩ := F.out.dt
        have x2 := F.out.rs.lt
        have x0 : w.heap.size < wr.heap.size := by omega
        have x1 : w.heap.size + 1 < wr.heap.size := by omega
        have BL := F.out.bl
        have RS := Lib.hid (show Work wr.drew (w.heap.size + 1 + 1) (.slice none 0 0) 0 0 0 0 0 0 from F.out.rs)
        clear F HTB HMO HZ1
        go_wp2
        refine wp_region_held_drew (S := (fun w' => w'.cell? ⟨w.heap.size, 0, none⟩ = some (.string nm) ∧ w'.cell? ⟨w.heap.size, 1, none⟩ = some (.slice A k c) ∧ w'.cell? ⟨w.heap.size, 2, none⟩ = some (.slice A' n' c') ∧ w'.cell? ⟨w.heap.size, 3, none⟩ = some (.int .i64 cw) ∧ w'.cell? ⟨w.heap.size + 1, 0, none⟩ = some (.int .i64 y) ∧ w'.cell? ⟨w.heap.size + 1, 1, none⟩ = some (.int .i64 m) ∧ w'.cell? ⟨w.heap.size + 1, 2, none⟩ = some (.int .i64 d) ∧ w.heap.size < w'.heap.size ∧ w.heap.size + 1 < w'.heap.size ∧ w.heap.size + 1 + 1 < w'.heap.size ∧ Below w.heap.size w w')) (by kernel_rfl) ?_ (fun hHeld => ?_)
        · (try dsimp only); (first | ((try go_split_ands); (try dsimp only); refine ⟨?_, ?_, ?_, ?_, ?_, ?_, ?_, ?_, ?_, ?_, ?_⟩ <;> first | (exact cell_call (by assumption) (by assumption) (by assumption)) | (exact lt_call (by assumption) (by assumption)) | (exact below_call' (by assumption) (by assumption)) | (exact Below.drew (by assumption)) | (with_reducible assumption) | (simp; done) | (simp [*]; done) | ((repeat (first | with_reducible exact Below.refl _ _ | with_reducible refine below_alloc ?_ _ | with_reducible refine below_drewN ?_ _ | with_reducible refine Below.drew ?_ | ((with_reducible refine below_set ?_ ?_ _); rotate_left; (focus (first | (simp; done) | (simp; omega) | omega))) | with_reducible refine below_call ?_ (by assumption))); done) | omega | (simp; omega) | (simp [go_sem]; done) | (simp [go_sem, *]; done)))
        (refine wpAnyH_take (i := 0) (v := ?_) rfl (by kernel_rfl) (by kernel_rfl) (by kernel_rfl) (fun _ _ _ h => h) (Or.inl ⟨by kernel_rfl, ?_⟩) (by assumption) ?_; rotate_left; (focus (intro w hSw; (try dsimp only at hSw); go_simp; (try with_reducible rfl))); (try simp only [Act.put, List.getElem_toArray, List.getElem_cons_zero, List.getElem_cons_succ, List.setIfInBounds_toArray, List.set_cons_zero, List.set_cons_succ]))
        (refine wpAnyH_take (i := 2) (v := ?_) rfl (by kernel_rfl) (by kernel_rfl) (by kernel_rfl) (fun _ _ _ h => h) (Or.inl ⟨by kernel_rfl, ?_⟩) (by assumption) ?_; rotate_left; (focus (intro w hSw; (try dsimp only at hSw); go_simp; (try with_reducible rfl))); (try simp only [Act.put, List.getElem_toArray, List.getElem_cons_zero, List.getElem_cons_succ, List.setIfInBounds_toArray, List.set_cons_zero, List.set_cons_succ]))
        (refine wpAnyH_take (i := 3) (v := ?_) rfl (by kernel_rfl) (by kernel_rfl) (by kernel_rfl) (fun _ _ _ h => h) (Or.inl ⟨by kernel_rfl, ?_⟩) (by assumption) ?_; rotate_left; (focus (intro w hSw; (try dsimp only at hSw); go_simp; (try with_reducible rfl))); (try simp only [Act.put, List.getElem_toArray, List.getElem_cons_zero, List.getElem_cons_succ, List.setIfInBounds_toArray, List.set_cons_zero, List.set_cons_succ]))
        (refine wpAnyH_take (i := 4) (v := ?_) rfl (by kernel_rfl) (by kernel_rfl) (by kernel_rfl) (fun _ _ _ h => h) (Or.inl ⟨by kernel_rfl, ?_⟩) (by assumption) ?_; rotate_left; (focus (intro w hSw; (try dsimp only at hSw); go_simp; (try with_reducible rfl))); (try simp only [Act.put, List.getElem_toArray, List.getElem_cons_zero, List.getElem_cons_succ, List.setIfInBounds_toArray, List.set_cons_zero, List.set_cons_succ]))
        (refine wpAnyH_take (i := 5) (v := ?_) rfl (by kernel_rfl) (by kernel_rfl) (by kernel_rfl) (fun _ _ _ h => h) (Or.inl ⟨by kernel_rfl, ?_⟩) (by assumption) ?_; rotate_left; (focus (intro w hSw; (try dsimp only at hSw); go_simp; (try with_reducible rfl))); (try simp only [Act.put, List.getElem_toArray, List.getElem_cons_zero, List.getElem_cons_succ, List.setIfInBounds_toArray, List.set_cons_zero, List.set_cons_succ]))
        (refine wpAnyH_take (i := 6) (v := ?_) rfl (by kernel_rfl) (by kernel_rfl) (by kernel_rfl) (fun _ _ _ h => h) (Or.inl ⟨by kernel_rfl, ?_⟩) (by assumption) ?_; rotate_left; (focus (intro w hSw; (try dsimp only at hSw); go_simp; (try with_reducible rfl))); (try simp only [Act.put, List.getElem_toArray, List.getElem_cons_zero, List.getElem_cons_succ, List.setIfInBounds_toArray, List.set_cons_zero, List.set_cons_succ]))
        (refine wpAnyH_take (i := 7) (v := ?_) rfl (by kernel_rfl) (by kernel_rfl) (by kernel_rfl) (fun _ _ _ h => h) (Or.inl ⟨by kernel_rfl, ?_⟩) (by assumption) ?_; rotate_left; (focus (intro w hSw; (try dsimp only at hSw); go_simp; (try with_reducible rfl))); (try simp only [Act.put, List.getElem_toArray, List.getElem_cons_zero, List.getElem_cons_succ, List.setIfInBounds_toArray, List.set_cons_zero, List.set_cons_succ]))
        (refine wpAnyH_take (i := 10) (v := ?_) rfl (by kernel_rfl) (by kernel_rfl) (by kernel_rfl) (fun _ _ _ h => h) (Or.inl ⟨by kernel_rfl, ?_⟩) (by assumption) ?_; rotate_left; (focus (intro w hSw; (try dsimp only at hSw); go_simp; (try with_reducible rfl))); (try simp only [Act.put, List.getElem_toArray, List.getElem_cons_zero, List.getElem_cons_succ, List.setIfInBounds_toArray, List.set_cons_zero, List.set_cons_succ]))
        (refine wpAnyH_take (i := 12) (v := ?_) rfl (by kernel_rfl) (by kernel_rfl) (by kernel_rfl) (fun _ _ _ h => h) (Or.inl ⟨by kernel_rfl, ?_⟩) (by assumption) ?_; rotate_left; (focus (intro w hSw; (try dsimp only at hSw); go_simp; (try with_reducible rfl))); (try simp only [Act.put, List.getElem_toArray, List.getElem_cons_zero, List.getElem_cons_succ, List.setIfInBounds_toArray, List.set_cons_zero, List.set_cons_succ]))
        (refine wpAnyH_take (i := 13) (v := ?_) rfl (by kernel_rfl) (by kernel_rfl) (by kernel_rfl) (fun _ _ _ h => h) (Or.inl ⟨by kernel_rfl, ?_⟩) (by assumption) ?_; rotate_left; (focus (intro w hSw; (try dsimp only at hSw); go_simp; (try with_reducible rfl))); (try simp only [Act.put, List.getElem_toArray, List.getElem_cons_zero, List.getElem_cons_succ, List.setIfInBounds_toArray, List.set_cons_zero, List.set_cons_succ]))
        (refine wpAnyH_take (i := 16) (v := ?_) rfl (by kernel_rfl) (by kernel_rfl) (by kernel_rfl) (fun _ _ _ h => h) (Or.inl ⟨by kernel_rfl, ?_⟩) (by assumption) ?_; rotate_left; (focus (intro w hSw; (try dsimp only at hSw); go_simp; (try with_reducible rfl))); (try simp only [Act.put, List.getElem_toArray, List.getElem_cons_zero, List.getElem_cons_succ, List.setIfInBounds_toArray, List.set_cons_zero, List.set_cons_succ]))
        (refine wpAnyH_take (i := 17) (v := ?_) rfl (by kernel_rfl) (by kernel_rfl) (by kernel_rfl) (fun _ _ _ h => h) (Or.inl ⟨by kernel_rfl, ?_⟩) (by assumption) ?_; rotate_left; (focus (intro w hSw; (try dsimp only at hSw); go_simp; (try with_reducible rfl))); (try simp only [Act.put, List.getElem_toArray, List.getElem_cons_zero, List.getElem_cons_succ, List.setIfInBounds_toArray, List.set_cons_zero, List.set_cons_succ]))
        (refine wpAnyH_take (i := 18) (v := ?_) rfl (by kernel_rfl) (by kernel_rfl) (by kernel_rfl) (fun _ _ _ h => h) (Or.inl ⟨by kernel_rfl, ?_⟩) (by assumption) ?_; rotate_left; (focus (intro w hSw; (try dsimp only at hSw); go_simp; (try with_reducible rfl))); (try simp only [Act.put, List.getElem_toArray, List.getElem_cons_zero, List.getElem_cons_succ, List.setIfInBounds_toArray, List.set_cons_zero, List.set_cons_succ]))
        (refine wpAnyH_take (i := 19) (v := ?_) rfl (by kernel_rfl) (by kernel_rfl) (by kernel_rfl) (fun _ _ _ h => h) (Or.inl ⟨by kernel_rfl, ?_⟩) (by assumption) ?_; rotate_left; (focus (intro w hSw; (try dsimp only at hSw); go_simp; (try with_reducible rfl))); (try simp only [Act.put, List.getElem_toArray, List.getElem_cons_zero, List.getElem_cons_succ, List.setIfInBounds_toArray, List.set_cons_zero, List.set_cons_succ]))
        (refine wpAnyH_take (i := 20) (v := ?_) rfl (by kernel_rfl) (by kernel_rfl) (by kernel_rfl) (fun _ _ _ h => h) (Or.inl ⟨by kernel_rfl, ?_⟩) (by assumption) ?_; rotate_left; (focus (intro w hSw; (try dsimp only at hSw); go_simp; (try with_reducible rfl))); (try simp only [Act.put, List.getElem_toArray, List.getElem_cons_zero, List.getElem_cons_succ, List.setIfInBounds_toArray, List.set_cons_zero, List.set_cons_succ]))
        refine wpAnyH_ready (rs := [1]) (by kernel_rfl) (by simp) ?_
        refine AllReadyH.cons rfl (fun K hK => ?_) (AllReadyH.nil)
        ((try simp only [List.getElem_toArray, List.getElem_cons_zero, List.getElem_cons_succ]); (try rw [if_pos (by kernel_rfl)]); go_simp; (go_at_call 65; refine (CC.out _ (by go_split_ands; assumption)).mono ?_; rintro e1 w4 ⟨L4, c4, rfl, ho4, hb4⟩; have HO4 := Lib.hid ho4; clear ho4); (try dsimp only); refine hK.out _ _ ?_ (fun hHeld => ?_); (focus ((try dsimp only); (first | ((try go_split_ands); (try dsimp only); refine ⟨?_, ?_, ?_, ?_, ?_, ?_, ?_, ?_, ?_, ?_, ?_⟩ <;> first | (exact cell_call (by assumption) (by assumption) (by assumption)) | (exact lt_call (by assumption) (by assumption)) | (exact below_call' (by assumption) (by assumption)) | (exact Below.drew (by assumption)) | (with_reducible assumption) | (simp; done) | (simp [*]; done) | ((repeat (first | with_reducible exact Below.refl _ _ | with_reducible refine below_alloc ?_ _ | with_reducible refine below_drewN ?_ _ | with_reducible refine Below.drew ?_ | ((with_reducible refine below_set ?_ ?_ _); rotate_left; (focus (first | (simp; done) | (simp; omega) | omega))) | with_reducible refine below_call ?_ (by assumption))); done) | omega | (simp; omega) | (simp [go_sem]; done) | (simp [go_sem, *]; done))))); clear hK K; (try simp only [Act.put, List.getElem_toArray, List.getElem_cons_zero, List.getElem_cons_succ, List.setIfInBounds_toArray, List.set_cons_zero, List.set_cons_succ]))
        refine wpAnyH_ready (rs := [8]) (by kernel_rfl) (by simp) ?_
        refine AllReadyH.cons rfl (fun K hK => ?_) (AllReadyH.nil)
        ((try simp only [List.getElem_toArray, List.getElem_cons_zero, List.getElem_cons_succ]); (try rw [if_pos (by kernel_rfl)]); go_simp; (go_at_call 66; refine (CB.out _).mono ?_; rintro e1 w5 ⟨rfl, hb5⟩); (try dsimp only); refine hK.out _ _ ?_ (fun hHeld => ?_); (focus ((try dsimp only); (first | ((try go_split_ands); (try dsimp only); refine ⟨?_, ?_, ?_, ?_, ?_, ?_, ?_, ?_, ?_, ?_, ?_⟩ <;> first | (exact cell_call (by assumption) (by assumption) (by assumption)) | (exact lt_call (by assumption) (by assumption)) | (exact below_call' (by assumption) (by assumption)) | (exact Below.drew (by assumption)) | (with_reducible assumption) | (simp; done) | (simp [*]; done) | ((repeat (first | with_reducible exact Below.refl _ _ | with_reducible refine below_alloc ?_ _ | with_reducible refine below_drewN ?_ _ | with_reducible refine Below.drew ?_ | ((with_reducible refine below_set ?_ ?_ _); rotate_left; (focus (first | (simp; done) | (simp; omega) | omega))) | with_reducible refine below_call ?_ (by assumption))); done) | omega | (simp; omega) | (simp [go_sem]; done) | (simp [go_sem, *]; done))))); clear hK K; (try simp only [Act.put, List.getElem_toArray, List.getElem_cons_zero, List.getElem_cons_succ, List.setIfInBounds_toArray, List.set_cons_zero, List.set_cons_succ]))
        have RS2 := (RS.out.call hb4).call hb5
        have HO2 := Lib.hid (Own.call HO4.out hb5)
        have B2 : Below w.heap.size w w5 := by go_split_ands; assumption
        (refine wpAnyH_take (i := 9) (v := ?_) rfl (by kernel_rfl) (by kernel_rfl) (by kernel_rfl) (fun _ _ _ h => h) (Or.inl ⟨by kernel_rfl, ?_⟩) (by assumption) ?_; rotate_left; (focus (intro w hSw; (try dsimp only at hSw); go_simp; (try with_reducible rfl))); (try simp only [Act.put, List.getElem_toArray, List.getElem_cons_zero, List.getElem_cons_succ, List.setIfInBounds_toArray, List.set_cons_zero, List.set_cons_succ]))
        (refine wpAnyH_take (i := 11) (v := ?_) rfl (by kernel_rfl) (by kernel_rfl) (by kernel_rfl) (fun _ _ _ h => h) (Or.inl ⟨by kernel_rfl, ?_⟩) (by assumption) ?_; rotate_left; (focus (intro w hSw; (try dsimp only at hSw); go_simp; (try with_reducible rfl))); (try simp only [Act.put, List.getElem_toArray, List.getElem_cons_zero, List.getElem_cons_succ, List.setIfInBounds_toArray, List.set_cons_zero, List.set_cons_succ]))
        (refine wpAnyH_take (i := 14) (v := ?_) rfl (by kernel_rfl) (by kernel_rfl) (by kernel_rfl) (fun _ _ _ h => h) (Or.inl ⟨by kernel_rfl, ?_⟩) (by assumption) ?_; rotate_left; (focus (intro w hSw; (try dsimp only at hSw); go_simp; (try with_reducible rfl))); (try simp only [Act.put, List.getElem_toArray, List.getElem_cons_zero, List.getElem_cons_succ, List.setIfInBounds_toArray, List.set_cons_zero, List.set_cons_succ]))
        (refine wpAnyH_take (i := 15) (v := ?_) rfl (by kernel_rfl) (by kernel_rfl) (by kernel_rfl) (fun _ _ _ h => h) (Or.inl ⟨by kernel_rfl, ?_⟩) (by assumption) ?_; rotate_left; (focus (intro w hSw; (try dsimp only at hSw); go_simp; (try with_reducible rfl))); (try simp only [Act.put, List.getElem_toArray, List.getElem_cons_zero, List.getElem_cons_succ, List.setIfInBounds_toArray, List.set_cons_zero, List.set_cons_succ]))
        (refine wpAnyH_take (i := 21) (v := ?_) rfl (by kernel_rfl) (by kernel_rfl) (by kernel_rfl) (fun _ _ _ h => h) (Or.inl ⟨by kernel_rfl, ?_⟩) (by assumption) ?_; rotate_left; (focus (intro w hSw; (try dsimp only at hSw); go_simp; (try with_reducible rfl))); (try simp only [Act.put, List.getElem_toArray, List.getElem_cons_zero, List.getElem_cons_succ, List.setIfInBounds_toArray, List.set_cons_zero, List.set_cons_succ]))
        obtain ⟨p0, p1, p2, p3, p4, p5, p6, pf⟩ := RS2
        have f0 := pf 0
        have f1 := pf 1
        have f2 := pf 2
        have f3 := pf 3
        have f4 := pf 4
        have f5 := pf 5
        have f6 := pf 6
        clear pf
        refine wpAnyH_ready (rs := [22]) (by kernel_rfl) (by simp) ?_
        refine AllReadyH.cons rfl (fun K hK => ?_) (AllReadyH.nil)
        (try simp only [List.getElem_toArray, List.getElem_cons_zero, List.getElem_cons_succ])
        (try rw [if_pos (by kernel_rfl)])
        go_simp
        refine hK.out _ _ ?_ (fun hHeld => ?_)
        · go_split_ands
          refine ⟨?_, ?_, ?_, ?_, ?_, ?_, ?_, ?_, ?_, ?_, ?_⟩ <;> first | (refine Eq.trans (World.cell?_of_block (set7_heap _ ?_)) ?_ <;> first | assumption | (dsimp only; omega)) | exact below_set7 (by assumption) (by omega) | (simp; assumption)
        clear hK K
        (try simp only [Act.put, List.getElem_toArray, List.getElem_cons_zero, List.getElem_cons_succ, List.setIfInBounds_toArray, List.set_cons_zero, List.set_cons_succ])
        (refine wpAnyH_take (i := 23) (v := ?_) rfl (by kernel_rfl) (by kernel_rfl) (by kernel_rfl) (fun _ _ _ h => h) (Or.inl ⟨by kernel_rfl, ?_⟩) (by assumption) ?_; rotate_left; (focus (intro w hSw; (try dsimp only at hSw); go_simp; (try with_reducible rfl))); (try simp only [Act.put, List.getElem_toArray, List.getElem_cons_zero, List.getElem_cons_succ, List.setIfInBounds_toArray, List.set_cons_zero, List.set_cons_succ]))
        refine wpAnyH_done (by kernel_rfl) ?_ _
        go_wp2
        refine bodyPost_ret (v := .tuple #[.agg #[.slice L4 l c4, .int .i64 k, .int .i64 TE, .int .i64 (P + m - 1), .int .i64 d, .int .i64 cw, .int .i64 wk], .int .i64 0]) ?_ rfl ⟨L4, c4, rfl, Own.low (OwnIn.keep (OwnIn.of HO2.out) (fun b h1 h2 => set7_heap _ (by omega))).1 (by omega), below_set7 B2 (by omega)⟩
        simp [results, Try.results24, go_sem, p0, p1, p2, p3, p4, p5, p6]
  · rw [rSet_bad hv h0]
    have e0 : (v != 0) = true := by simpa using h0
    clear hv
    go_enter Try.func24, Try.ntmps24
    go_wp2_with fail
    go_at_call 54
    refine (CA.out _ F0.out.bl).mono ?_
    rintro e1 w1 ⟨rfl, hb1⟩
    have F1 := Lib.hid (F0.out.call hb1)
    clear hb1
    obtain ⟨-, u0, u1, u2, u3⟩ := F1.out.cal
    obtain ⟨t0, t1, t2, -⟩ := F1.out.dt
    obtain ⟨p0, p1, p2, p3, p4, p5, p6, pf⟩ := F1.out.rs
    have f0 := pf 0
    have f1 := pf 1
    have f2 := pf 2
    have f3 := pf 3
    have f4 := pf 4
    have f5 := pf 5
    have f6 := pf 6
    clear pf
    go_wp2
    refine bodyPost_ret (v := badV v) ?_ rfl (newPerp_bad ?_)
    · simp [results, Try.results24, go_sem, badV, *]
    · have := F1.out.bl
      (repeat (first | with_reducible exact Below.refl _ _ | with_reducible refine below_alloc ?_ _ | with_reducible refine below_drewN ?_ _ | with_reducible refine Below.drew ?_ | ((with_reducible refine below_set ?_ ?_ _); rotate_left; (focus (first | (simp; done) | (simp; omega) | omega))) | with_reducible refine below_call ?_ (by assumption)))
end Go.Proofs.Ytbmiamfgdjiodaa
