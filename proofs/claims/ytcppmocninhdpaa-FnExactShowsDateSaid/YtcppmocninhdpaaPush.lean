/- The functions that push a perpetual work by one tooth: each gives a work with a new cam, and a code. No conditions but that a cam has at most 2^20 levels. -/
import Derived.Test.YtcppmocninhdpaaNight
namespace Go.Proofs.Ytcppmocninhdpaa
open Go.RowKit
set_option linter.unusedVariables false
set_option linter.unusedSimpArgs false
/-- a result: the number of levels, the levels, the numbers, the code -/
def PR := Nat × List Int × Int × Int × Int × Int × Int × Int × Int
def okP (zs : List Int) (n : Nat) (mo te ix da we wd : Int) : PR := (n, zs, mo, te, ix, da, we, wd, 0)
def badP (cd : Int) : PR := (0, [], 0, 0, 0, 0, 0, 0, cd)
def NewPerp (w : World) : PR → Ending → World → Prop
  | (n, zs, mo, te, ix, da, we, wd, cd), e, w' => ∃ A c, e = .returned (.tuple #[.agg #[.slice A n c, .int .i64 mo, .int .i64 te, .int .i64 ix, .int .i64 da, .int .i64 we, .int .i64 wd], .int .i64 cd]) ∧ Own w' w.heap.size A n c zs ∧ Below w.heap.size w w'
def badV (cd : Int) : Value := .tuple #[.agg #[.slice none 0 0, .int .i64 0, .int .i64 0, .int .i64 0, .int .i64 0, .int .i64 0, .int .i64 0], .int .i64 cd]
theorem newPerp_bad {w w' : World} {cd : Int} (h : Below w.heap.size w w') : NewPerp w (badP cd) (.returned (badV cd)) w' := ⟨none, 0, rfl, Own.nil_, h⟩
theorem Work.far {w w' : World} {g g' : Nat} {S : Value} {mo te ix da we wd : Int} (h : Work w g' S mo te ix da we wd) (hg : w.grownBy w' (some g)) (hne : g' ≠ g) : Work w' g' S mo te ix da we wd :=
  h.keep (hg.block g' h.lt (by intro e; exact hne (by injection e)))

def rPushMonth (zs : List Int) (n : Nat) (mo te ix da we wd : Int) : PR := if vPerp zs n mo te ix da we wd then okP zs n mo te ((((ix.toNat + 1) % n : Nat) : Int)) (da) we (wd) else badP 1
set_option maxHeartbeats 2000000 in
theorem PushMonth_any (A : Option Addr) (n c B : Nat) (zs : List Int) (mo te ix da we wd : Int) (w : World) (h : Ints w B A n zs) (hB : B ≤ w.heap.size) (hn : n ≤ 1048576) :
    Calls Try.prog 27 #[.agg #[.slice A n c, .int .i64 mo, .int .i64 te, .int .i64 ix, .int .i64 da, .int .i64 we, .int .i64 wd]] w (NewPerp w (rPushMonth zs n mo te ix da we wd)) := by
  have H := Lib.hid (h.more hB)
  clear h
  have cV := fun (W : World) (h : Ints W w.heap.size A n zs) (h2 : w.heap.size ≤ W.heap.size) => ValidPerpetual_any A n c w.heap.size zs mo te ix da we wd W h h2 hn
  unfold rPushMonth
  cases hv : vPerp zs n mo te ix da we wd
  · simp only [hv, if_false, Bool.false_eq_true] at cV ⊢
    have CV := Lib.hid cV
    clear cV hv
    go_enter Try.func27, Try.ntmps27
    go_wp2_with fail
    go_at_call 20
    refine (CV.out _ (by exact Ints.below (H.out) (by (repeat (first | with_reducible exact Below.refl _ _ | with_reducible refine below_alloc ?_ _ | with_reducible refine below_drewN ?_ _ | with_reducible refine Below.drew ?_ | ((with_reducible refine below_set ?_ ?_ _); rotate_left; (focus (first | (simp; done) | (simp; omega) | omega))) | with_reducible refine below_call ?_ (by assumption))))) (by exact Below.size (B := w.heap.size) (w := w) (by (repeat (first | with_reducible exact Below.refl _ _ | with_reducible refine below_alloc ?_ _ | with_reducible refine below_drewN ?_ _ | with_reducible refine Below.drew ?_ | ((with_reducible refine below_set ?_ ?_ _); rotate_left; (focus (first | (simp; done) | (simp; omega) | omega))) | with_reducible refine below_call ?_ (by assumption)))))).mono ?_
    rintro e w1 ⟨rfl, hb1⟩
    obtain ⟨hc1, hf1, hs1⟩ := bcell hb1
    (try (refine cut_ (p := w.heap.size < w1.heap.size) ?_ ?_; (focus (refine hs1 _ ?_; first | assumption | omega | (simp [go_sem]; done) | (simp [go_sem]; omega))); intro hl1a))
    (try (refine cut_ (p := w.heap.size + 1 < w1.heap.size) ?_ ?_; (focus (refine hs1 _ ?_; first | assumption | omega | (simp [go_sem]; done) | (simp [go_sem]; omega))); intro hl1b))
    (try (refine cut_ (p := w.heap.size + 1 + 1 < w1.heap.size) ?_ ?_; (focus (refine hs1 _ ?_; first | assumption | omega | (simp [go_sem]; done) | (simp [go_sem]; omega))); intro hl1c))
    go_wp2
    refine bodyPost_ret (v := badV 1) ?_ rfl (newPerp_bad (by (repeat (first | with_reducible exact Below.refl _ _ | with_reducible refine below_alloc ?_ _ | with_reducible refine below_drewN ?_ _ | with_reducible refine Below.drew ?_ | ((with_reducible refine below_set ?_ ?_ _); rotate_left; (focus (first | (simp; done) | (simp; omega) | omega))) | with_reducible refine below_call ?_ (by assumption)))))
    simp [results, Try.results27, go_sem, badV, hc1, hf1, hs1]
  · simp only [hv, if_true] at cV ⊢
    have CV := Lib.hid cV
    obtain ⟨_, v1, v2, hte, hix, hda, hwe, hwd1, hwd2⟩ := vPerp_yes hv
    obtain ⟨k, rfl⟩ := Int.eq_ofNat_of_zero_le hix.1
    rw [Int.toNat_natCast]
    have hk : k < n := by omega
    have cM := fun (W : World) (A : Option Addr) (c g : Nat) (h : Work W g (.slice A n c) mo te (k : Int) da we wd) => moveMonth_any A n c g k mo te da we wd W h hk hn
    have cO := fun (W : World) (h : Ints W w.heap.size A n zs) (h2 : w.heap.size ≤ W.heap.size) => own_any A n c w.heap.size zs mo te (k : Int) da we wd W h h2 (by omega) hn
    generalize (k + 1) % n = J at *
    have CM := Lib.hid cM
    have CO := Lib.hid cO
    clear cV hv cM cO
    go_enter Try.func27, Try.ntmps27
    go_wp2_with fail
    go_at_call 20
    refine (CV.out _ (by exact Ints.below (H.out) (by (repeat (first | with_reducible exact Below.refl _ _ | with_reducible refine below_alloc ?_ _ | with_reducible refine below_drewN ?_ _ | with_reducible refine Below.drew ?_ | ((with_reducible refine below_set ?_ ?_ _); rotate_left; (focus (first | (simp; done) | (simp; omega) | omega))) | with_reducible refine below_call ?_ (by assumption))))) (by exact Below.size (B := w.heap.size) (w := w) (by (repeat (first | with_reducible exact Below.refl _ _ | with_reducible refine below_alloc ?_ _ | with_reducible refine below_drewN ?_ _ | with_reducible refine Below.drew ?_ | ((with_reducible refine below_set ?_ ?_ _); rotate_left; (focus (first | (simp; done) | (simp; omega) | omega))) | with_reducible refine below_call ?_ (by assumption)))))).mono ?_
    rintro e w1 ⟨rfl, hb1⟩
    have B1 : Below w.heap.size w w1 := by (repeat (first | with_reducible exact Below.refl _ _ | with_reducible refine below_alloc ?_ _ | with_reducible refine below_drewN ?_ _ | with_reducible refine Below.drew ?_ | ((with_reducible refine below_set ?_ ?_ _); rotate_left; (focus (first | (simp; done) | (simp; omega) | omega))) | with_reducible refine below_call ?_ (by assumption)))
    have z1 : w.heap.size + 1 + 1 ≤ w1.heap.size := by have := hb1.size; simpa using this
    have W0 := ((work_new w 27 (.slice A n c) mo te (k : Int) da we wd).alloc _).call hb1
    have W1 : Work w1 (w.heap.size + 1) (.slice none 0 0) 0 0 0 0 0 0 := by have := (work_new (w.alloc (.cells #[.slice A n c, .int .i64 mo, .int .i64 te, .int .i64 (k : Int), .int .i64 da, .int .i64 we, .int .i64 wd] 27)) 27 (.slice none 0 0) 0 0 0 0 0 0).call hb1; simpa using this
    have HW0 := Lib.hid W0
    have HW1 := Lib.hid W1
    obtain ⟨p0, p1, p2, p3, p4, p5, p6, pf⟩ := W0
    clear W1 hb1
    go_wp2_with fail
    go_at_call 58
    refine (CO.out _ (Ints.below H.out B1) B1.size).mono ?_
    rintro e w2 ⟨L, c2, rfl, ho2, hb2⟩
    have HO := Lib.hid (OwnIn.of ho2)
    have B2 : Below w.heap.size w w2 := B1.trans (hb2.mono B1.size)
    have z2 := hb2.size
    have hW1 := Lib.hid (HW1.out.call hb2)
    have W0 := HW0.out.call hb2
    clear HW0 HW1 ho2 p0 p1 p2 p3 p4 p5 p6 pf
    obtain ⟨p0, p1, p2, p3, p4, p5, p6, pf⟩ := W0
    have Q7 := Lib.hid pf
    go_wp2_with fail
    go_at_call 59
    refine (CM.out _ L c2 w.heap.size ⟨by simp [go_sem, *], by simp [go_sem, *], by simp [go_sem, *], by simp [go_sem, *], by simp [go_sem, *], by simp [go_sem, *], by simp [go_sem, *], fun o => by simp [go_sem, Q7.out o]⟩).mono ?_
    rintro e w3 ⟨rfl, hW3, hg3⟩
    have hgo : w2.grownBy w3 (some w.heap.size) := by (repeat (first | with_reducible exact World.grownBy.refl _ _ | with_reducible refine only_alloc ?_ _ | with_reducible refine only_drewN ?_ _ | with_reducible refine only_drew ?_ | ((with_reducible refine only_setCell ?_ ?_ _); rotate_left; (focus (first | exact .inl rfl | (left; simp; done) | (right; simp; done) | (right; simp; omega)))) | with_reducible refine World.grownBy.trans ?_ (by assumption) | with_reducible refine only_below ?_ (by assumption)))
    have B3 : Below w.heap.size w w3 := below_only B2 hgo B2.size (Nat.le_refl _)
    have z3 := hgo.size
    have O3 := Lib.hid (OwnIn.grown HO.out hgo (fun g hg => by cases hg; left; omega) (by omega))
    have hR := hW1.out.far hgo (by omega)
    have Q3 := Lib.hid hW3
    obtain ⟨q0, q1, q2, q3, q4, q5, q6, qf⟩ := hW3
    obtain ⟨r0, r1, r2, r3, r4, r5, r6, rf⟩ := hR
    clear p0 p1 p2 p3 p4 p5 p6 pf Q7 hg3 hgo hb2 hW1
    go_wp2
    refine bodyPost_ret (v := .tuple #[.agg #[.slice L n c2, .int .i64 mo, .int .i64 te, .int .i64 (J : Int), .int .i64 (da), .int .i64 we, .int .i64 (wd)], .int .i64 0]) ?_ rfl ⟨L, c2, rfl, ?_, ?_⟩
    · simp [results, Try.results27, go_sem, *]
    · refine Own.low (b0 := w.heap.size) (base := w1.heap.size) ?_ (by omega)
      have hfar : Own _ _ _ _ _ _ := O3.out.1
      repeat (first | with_reducible exact hfar | ((with_reducible refine Own.far ?_ ?_ _); rotate_left; (focus (first | (simp; done) | (simp; omega)))) | with_reducible refine Own.drewN ?_ _ | ((with_reducible refine Own.alloc ?_ _)))
    · (repeat (first | with_reducible exact B3 | with_reducible refine below_alloc ?_ _ | with_reducible refine below_drewN ?_ _ | with_reducible refine Below.drew ?_ | ((with_reducible refine below_set ?_ ?_ _); rotate_left; (focus (first | (simp; done) | (simp; omega) | omega)))))
set_option maxHeartbeats 2000000 in
theorem specPushMonth_any (A : Option Addr) (n c B : Nat) (zs : List Int) (mo te ix da we wd : Int) (w : World) (h : Ints w B A n zs) (hB : B ≤ w.heap.size) (hn : n ≤ 1048576) :
    Calls Try.prog 26 #[.agg #[.slice A n c, .int .i64 mo, .int .i64 te, .int .i64 ix, .int .i64 da, .int .i64 we, .int .i64 wd]] w (NewPerp w (rPushMonth zs n mo te ix da we wd)) := by
  have H := Lib.hid (h.more hB)
  clear h
  have cV := fun (W : World) (h : Ints W w.heap.size A n zs) (h2 : w.heap.size ≤ W.heap.size) => l18Ok_any A n c w.heap.size w.heap.size zs mo te ix da we wd W h h2 hn
  unfold rPushMonth
  cases hv : vPerp zs n mo te ix da we wd
  · simp only [hv, if_false, Bool.false_eq_true] at cV ⊢
    have CV := Lib.hid cV
    clear cV hv
    go_enter Try.func26, Try.ntmps26
    go_wp2_with fail
    go_at_call 49
    refine (CV.out _ ((H.out.alloc (Nat.le_refl _) _).alloc (by simp) _) (by simp; omega) (by simp [go_sem]) (by simp [go_sem]) (by simp [go_sem]) (by simp [go_sem]) (by simp [go_sem]) (by simp [go_sem]) (by simp [go_sem])).mono ?_
    rintro e w1 ⟨rfl, m1, rfl⟩
    go_wp2
    refine bodyPost_ret (v := badV 1) ?_ rfl (newPerp_bad (by (repeat (first | with_reducible exact Below.refl _ _ | with_reducible refine below_alloc ?_ _ | with_reducible refine below_drewN ?_ _ | with_reducible refine Below.drew ?_ | ((with_reducible refine below_set ?_ ?_ _); rotate_left; (focus (first | (simp; done) | (simp; omega) | omega))) | with_reducible refine below_call ?_ (by assumption)))))
    simp [results, Try.results26, go_sem, badV]
  · simp only [hv, if_true] at cV ⊢
    have CV := Lib.hid cV
    obtain ⟨_, v1, v2, hte, hix, hda, hwe, hwd1, hwd2⟩ := vPerp_yes hv
    obtain ⟨k, rfl⟩ := Int.eq_ofNat_of_zero_le hix.1
    rw [Int.toNat_natCast]
    have hk : k < n := by omega
    have qr : ((k : Int) + 1).tmod (n : Int) = (((k + 1) % n : Nat) : Int) := mod_i64 (k + 1) n
    have qw : IntKind.i64.wrap ((k : Int) + 1) = (k : Int) + 1 := IntWalk.i64_in _ (by omega)
    have n0 : ((n : Int) == 0) = false := by rw [beq_eq_false_iff_ne]; omega
    have n2 : ¬ ((n : Int) = 0) := by omega
    have n3 : ¬ (n = 0) := by omega
    have cO := fun (W : World) (h : Ints W w.heap.size A n zs) (h2 : w.heap.size ≤ W.heap.size) (hw : Work W w.heap.size (.slice A n c) mo te (k : Int) da we wd) => l18Own_any A n c w.heap.size w.heap.size zs mo te (k : Int) da we wd W h h2 (by omega) hn hw
    generalize (k + 1) % n = J at *
    have CO := Lib.hid cO
    clear cV hv cO
    go_enter Try.func26, Try.ntmps26
    go_wp2_with fail
    go_at_call 49
    refine (CV.out _ ((H.out.alloc (Nat.le_refl _) _).alloc (by simp) _) (by simp; omega) (by simp [go_sem]) (by simp [go_sem]) (by simp [go_sem]) (by simp [go_sem]) (by simp [go_sem]) (by simp [go_sem]) (by simp [go_sem])).mono ?_
    rintro e w1 ⟨rfl, m1, rfl⟩
    go_wp2_with fail
    go_at_call 57
    refine (CO.out _ (Ints.drewN ((H.out.alloc (Nat.le_refl _) _).alloc (by simp) _) _) (by simp; omega) (Work.drewN ((work_new w 27 (.slice A n c) mo te (k : Int) da we wd).alloc _) _)).mono ?_
    rintro e w2 ⟨L, c2, rfl, ho2, hb2⟩
    have HO := Lib.hid (OwnIn.of ho2)
    have B2 : Below w.heap.size w w2 := by (repeat (first | with_reducible exact Below.refl _ _ | with_reducible refine below_alloc ?_ _ | with_reducible refine below_drewN ?_ _ | with_reducible refine Below.drew ?_ | ((with_reducible refine below_set ?_ ?_ _); rotate_left; (focus (first | (simp; done) | (simp; omega) | omega))) | with_reducible refine below_call ?_ (by assumption)))
    have z2 : w.heap.size + 1 + 1 ≤ w2.heap.size := by have := hb2.size; simpa using this
    have z2' : w.heap.size + 1 < w2.heap.size := by omega
    have W1 : Work w2 (w.heap.size + 1) (.slice none 0 0) 0 0 0 0 0 0 := by have := (Work.drewN (work_new (w.alloc (.cells #[.slice A n c, .int .i64 mo, .int .i64 te, .int .i64 (k : Int), .int .i64 da, .int .i64 we, .int .i64 wd] 27)) 27 (.slice none 0 0) 0 0 0 0 0 0) m1).call hb2; simpa using this
    have HW1 := Lib.hid W1
    obtain ⟨r0, r1, r2, r3, r4, r5, r6, rf⟩ := W1
    clear ho2
    go_wp2
    refine bodyPost_ret (v := .tuple #[.agg #[.slice L n c2, .int .i64 mo, .int .i64 te, .int .i64 ((J : Int)), .int .i64 (da), .int .i64 we, .int .i64 (wd)], .int .i64 0]) ?_ rfl ⟨L, c2, rfl, ?_, ?_⟩
    · simp [results, Try.results26, go_sem, *]
    · refine Own.low (b0 := w.heap.size) (base := w.heap.size + 1 + 1) ?_ (by omega)
      have hown : Own w2 (w.heap.size + 1 + 1) L n c2 zs := by have := HO.out.1; simpa using this
      have hfar : Own _ _ _ _ _ _ := hown
      repeat (first | with_reducible exact hfar | ((with_reducible refine Own.far ?_ ?_ _); rotate_left; (focus (first | (simp; done) | (simp; omega)))) | with_reducible refine Own.drewN ?_ _ | ((with_reducible refine Own.alloc ?_ _)))
    · (repeat (first | with_reducible exact B2 | with_reducible refine below_alloc ?_ _ | with_reducible refine below_drewN ?_ _ | with_reducible refine Below.drew ?_ | ((with_reducible refine below_set ?_ ?_ _); rotate_left; (focus (first | (simp; done) | (simp; omega) | omega)))))

def rPushWeekday (zs : List Int) (n : Nat) (mo te ix da we wd : Int) : PR := if vPerp zs n mo te ix da we wd then okP zs n mo te ((ix.toNat : Int)) (da) we (mvW we wd) else badP 1
set_option maxHeartbeats 2000000 in
theorem PushWeekday_any (A : Option Addr) (n c B : Nat) (zs : List Int) (mo te ix da we wd : Int) (w : World) (h : Ints w B A n zs) (hB : B ≤ w.heap.size) (hn : n ≤ 1048576) :
    Calls Try.prog 31 #[.agg #[.slice A n c, .int .i64 mo, .int .i64 te, .int .i64 ix, .int .i64 da, .int .i64 we, .int .i64 wd]] w (NewPerp w (rPushWeekday zs n mo te ix da we wd)) := by
  have H := Lib.hid (h.more hB)
  clear h
  have cV := fun (W : World) (h : Ints W w.heap.size A n zs) (h2 : w.heap.size ≤ W.heap.size) => ValidPerpetual_any A n c w.heap.size zs mo te ix da we wd W h h2 hn
  unfold rPushWeekday
  cases hv : vPerp zs n mo te ix da we wd
  · simp only [hv, if_false, Bool.false_eq_true] at cV ⊢
    have CV := Lib.hid cV
    clear cV hv
    go_enter Try.func31, Try.ntmps31
    go_wp2_with fail
    go_at_call 20
    refine (CV.out _ (by exact Ints.below (H.out) (by (repeat (first | with_reducible exact Below.refl _ _ | with_reducible refine below_alloc ?_ _ | with_reducible refine below_drewN ?_ _ | with_reducible refine Below.drew ?_ | ((with_reducible refine below_set ?_ ?_ _); rotate_left; (focus (first | (simp; done) | (simp; omega) | omega))) | with_reducible refine below_call ?_ (by assumption))))) (by exact Below.size (B := w.heap.size) (w := w) (by (repeat (first | with_reducible exact Below.refl _ _ | with_reducible refine below_alloc ?_ _ | with_reducible refine below_drewN ?_ _ | with_reducible refine Below.drew ?_ | ((with_reducible refine below_set ?_ ?_ _); rotate_left; (focus (first | (simp; done) | (simp; omega) | omega))) | with_reducible refine below_call ?_ (by assumption)))))).mono ?_
    rintro e w1 ⟨rfl, hb1⟩
    obtain ⟨hc1, hf1, hs1⟩ := bcell hb1
    (try (refine cut_ (p := w.heap.size < w1.heap.size) ?_ ?_; (focus (refine hs1 _ ?_; first | assumption | omega | (simp [go_sem]; done) | (simp [go_sem]; omega))); intro hl1a))
    (try (refine cut_ (p := w.heap.size + 1 < w1.heap.size) ?_ ?_; (focus (refine hs1 _ ?_; first | assumption | omega | (simp [go_sem]; done) | (simp [go_sem]; omega))); intro hl1b))
    (try (refine cut_ (p := w.heap.size + 1 + 1 < w1.heap.size) ?_ ?_; (focus (refine hs1 _ ?_; first | assumption | omega | (simp [go_sem]; done) | (simp [go_sem]; omega))); intro hl1c))
    go_wp2
    refine bodyPost_ret (v := badV 1) ?_ rfl (newPerp_bad (by (repeat (first | with_reducible exact Below.refl _ _ | with_reducible refine below_alloc ?_ _ | with_reducible refine below_drewN ?_ _ | with_reducible refine Below.drew ?_ | ((with_reducible refine below_set ?_ ?_ _); rotate_left; (focus (first | (simp; done) | (simp; omega) | omega))) | with_reducible refine below_call ?_ (by assumption)))))
    simp [results, Try.results31, go_sem, badV, hc1, hf1, hs1]
  · simp only [hv, if_true] at cV ⊢
    have CV := Lib.hid cV
    obtain ⟨_, v1, v2, hte, hix, hda, hwe, hwd1, hwd2⟩ := vPerp_yes hv
    obtain ⟨k, rfl⟩ := Int.eq_ofNat_of_zero_le hix.1
    rw [Int.toNat_natCast]
    have hk : k < n := by omega
    have cM := fun (W : World) (A : Option Addr) (c g : Nat) (h : Work W g (.slice A n c) mo te (k : Int) da we wd) => moveWeekday_any g (.slice A n c) mo te (k : Int) da we wd W h hwe.1 hwe.2 hwd1 hwd2
    have cO := fun (W : World) (h : Ints W w.heap.size A n zs) (h2 : w.heap.size ≤ W.heap.size) => own_any A n c w.heap.size zs mo te (k : Int) da we wd W h h2 (by omega) hn
    have CM := Lib.hid cM
    have CO := Lib.hid cO
    clear cV hv cM cO
    go_enter Try.func31, Try.ntmps31
    go_wp2_with fail
    go_at_call 20
    refine (CV.out _ (by exact Ints.below (H.out) (by (repeat (first | with_reducible exact Below.refl _ _ | with_reducible refine below_alloc ?_ _ | with_reducible refine below_drewN ?_ _ | with_reducible refine Below.drew ?_ | ((with_reducible refine below_set ?_ ?_ _); rotate_left; (focus (first | (simp; done) | (simp; omega) | omega))) | with_reducible refine below_call ?_ (by assumption))))) (by exact Below.size (B := w.heap.size) (w := w) (by (repeat (first | with_reducible exact Below.refl _ _ | with_reducible refine below_alloc ?_ _ | with_reducible refine below_drewN ?_ _ | with_reducible refine Below.drew ?_ | ((with_reducible refine below_set ?_ ?_ _); rotate_left; (focus (first | (simp; done) | (simp; omega) | omega))) | with_reducible refine below_call ?_ (by assumption)))))).mono ?_
    rintro e w1 ⟨rfl, hb1⟩
    have B1 : Below w.heap.size w w1 := by (repeat (first | with_reducible exact Below.refl _ _ | with_reducible refine below_alloc ?_ _ | with_reducible refine below_drewN ?_ _ | with_reducible refine Below.drew ?_ | ((with_reducible refine below_set ?_ ?_ _); rotate_left; (focus (first | (simp; done) | (simp; omega) | omega))) | with_reducible refine below_call ?_ (by assumption)))
    have z1 : w.heap.size + 1 + 1 ≤ w1.heap.size := by have := hb1.size; simpa using this
    have W0 := ((work_new w 27 (.slice A n c) mo te (k : Int) da we wd).alloc _).call hb1
    have W1 : Work w1 (w.heap.size + 1) (.slice none 0 0) 0 0 0 0 0 0 := by have := (work_new (w.alloc (.cells #[.slice A n c, .int .i64 mo, .int .i64 te, .int .i64 (k : Int), .int .i64 da, .int .i64 we, .int .i64 wd] 27)) 27 (.slice none 0 0) 0 0 0 0 0 0).call hb1; simpa using this
    have HW0 := Lib.hid W0
    have HW1 := Lib.hid W1
    obtain ⟨p0, p1, p2, p3, p4, p5, p6, pf⟩ := W0
    clear W1 hb1
    go_wp2_with fail
    go_at_call 58
    refine (CO.out _ (Ints.below H.out B1) B1.size).mono ?_
    rintro e w2 ⟨L, c2, rfl, ho2, hb2⟩
    have HO := Lib.hid (OwnIn.of ho2)
    have B2 : Below w.heap.size w w2 := B1.trans (hb2.mono B1.size)
    have z2 := hb2.size
    have hW1 := Lib.hid (HW1.out.call hb2)
    have W0 := HW0.out.call hb2
    clear HW0 HW1 ho2 p0 p1 p2 p3 p4 p5 p6 pf
    obtain ⟨p0, p1, p2, p3, p4, p5, p6, pf⟩ := W0
    have Q7 := Lib.hid pf
    go_wp2_with fail
    go_at_call 60
    refine (CM.out _ L c2 w.heap.size ⟨by simp [go_sem, *], by simp [go_sem, *], by simp [go_sem, *], by simp [go_sem, *], by simp [go_sem, *], by simp [go_sem, *], by simp [go_sem, *], fun o => by simp [go_sem, Q7.out o]⟩).mono ?_
    rintro e w3 ⟨rfl, hW3, hg3⟩
    have hgo : w2.grownBy w3 (some w.heap.size) := by (repeat (first | with_reducible exact World.grownBy.refl _ _ | with_reducible refine only_alloc ?_ _ | with_reducible refine only_drewN ?_ _ | with_reducible refine only_drew ?_ | ((with_reducible refine only_setCell ?_ ?_ _); rotate_left; (focus (first | exact .inl rfl | (left; simp; done) | (right; simp; done) | (right; simp; omega)))) | with_reducible refine World.grownBy.trans ?_ (by assumption) | with_reducible refine only_below ?_ (by assumption)))
    have B3 : Below w.heap.size w w3 := below_only B2 hgo B2.size (Nat.le_refl _)
    have z3 := hgo.size
    have O3 := Lib.hid (OwnIn.grown HO.out hgo (fun g hg => by cases hg; left; omega) (by omega))
    have hR := hW1.out.far hgo (by omega)
    have Q3 := Lib.hid hW3
    obtain ⟨q0, q1, q2, q3, q4, q5, q6, qf⟩ := hW3
    obtain ⟨r0, r1, r2, r3, r4, r5, r6, rf⟩ := hR
    clear p0 p1 p2 p3 p4 p5 p6 pf Q7 hg3 hgo hb2 hW1
    go_wp2
    refine bodyPost_ret (v := .tuple #[.agg #[.slice L n c2, .int .i64 mo, .int .i64 te, .int .i64 ((k : Int)), .int .i64 (da), .int .i64 we, .int .i64 (mvW we wd)], .int .i64 0]) ?_ rfl ⟨L, c2, rfl, ?_, ?_⟩
    · simp [results, Try.results31, go_sem, *]
    · refine Own.low (b0 := w.heap.size) (base := w1.heap.size) ?_ (by omega)
      have hfar : Own _ _ _ _ _ _ := O3.out.1
      repeat (first | with_reducible exact hfar | ((with_reducible refine Own.far ?_ ?_ _); rotate_left; (focus (first | (simp; done) | (simp; omega)))) | with_reducible refine Own.drewN ?_ _ | ((with_reducible refine Own.alloc ?_ _)))
    · (repeat (first | with_reducible exact B3 | with_reducible refine below_alloc ?_ _ | with_reducible refine below_drewN ?_ _ | with_reducible refine Below.drew ?_ | ((with_reducible refine below_set ?_ ?_ _); rotate_left; (focus (first | (simp; done) | (simp; omega) | omega)))))
set_option maxHeartbeats 2000000 in
theorem specPushWeekday_any (A : Option Addr) (n c B : Nat) (zs : List Int) (mo te ix da we wd : Int) (w : World) (h : Ints w B A n zs) (hB : B ≤ w.heap.size) (hn : n ≤ 1048576) :
    Calls Try.prog 30 #[.agg #[.slice A n c, .int .i64 mo, .int .i64 te, .int .i64 ix, .int .i64 da, .int .i64 we, .int .i64 wd]] w (NewPerp w (rPushWeekday zs n mo te ix da we wd)) := by
  have H := Lib.hid (h.more hB)
  clear h
  have cV := fun (W : World) (h : Ints W w.heap.size A n zs) (h2 : w.heap.size ≤ W.heap.size) => l18Ok_any A n c w.heap.size w.heap.size zs mo te ix da we wd W h h2 hn
  unfold rPushWeekday
  cases hv : vPerp zs n mo te ix da we wd
  · simp only [hv, if_false, Bool.false_eq_true] at cV ⊢
    have CV := Lib.hid cV
    clear cV hv
    go_enter Try.func30, Try.ntmps30
    go_wp2_with fail
    go_at_call 49
    refine (CV.out _ ((H.out.alloc (Nat.le_refl _) _).alloc (by simp) _) (by simp; omega) (by simp [go_sem]) (by simp [go_sem]) (by simp [go_sem]) (by simp [go_sem]) (by simp [go_sem]) (by simp [go_sem]) (by simp [go_sem])).mono ?_
    rintro e w1 ⟨rfl, m1, rfl⟩
    go_wp2
    refine bodyPost_ret (v := badV 1) ?_ rfl (newPerp_bad (by (repeat (first | with_reducible exact Below.refl _ _ | with_reducible refine below_alloc ?_ _ | with_reducible refine below_drewN ?_ _ | with_reducible refine Below.drew ?_ | ((with_reducible refine below_set ?_ ?_ _); rotate_left; (focus (first | (simp; done) | (simp; omega) | omega))) | with_reducible refine below_call ?_ (by assumption)))))
    simp [results, Try.results30, go_sem, badV]
  · simp only [hv, if_true] at cV ⊢
    have CV := Lib.hid cV
    obtain ⟨_, v1, v2, hte, hix, hda, hwe, hwd1, hwd2⟩ := vPerp_yes hv
    obtain ⟨k, rfl⟩ := Int.eq_ofNat_of_zero_le hix.1
    rw [Int.toNat_natCast]
    have hk : k < n := by omega
    have t1 : wd.tmod we = wd % we := Int.tmod_eq_emod_of_nonneg (by omega)
    have t2 : wd % we + 1 = mvW we wd := rfl
    have r0 := Int.emod_nonneg wd (show we ≠ 0 by omega)
    have r1 := Int.emod_lt_of_pos wd (show 0 < we by omega)
    have n0 : (we == 0) = false := by rw [beq_eq_false_iff_ne]; omega
    have n2 : ¬ (we = 0) := by omega
    rw [← t2]
    clear t2
    generalize wd % we = r at *
    have cO := fun (W : World) (h : Ints W w.heap.size A n zs) (h2 : w.heap.size ≤ W.heap.size) (hw : Work W w.heap.size (.slice A n c) mo te (k : Int) da we wd) => l18Own_any A n c w.heap.size w.heap.size zs mo te (k : Int) da we wd W h h2 (by omega) hn hw
    have CO := Lib.hid cO
    clear cV hv cO
    go_enter Try.func30, Try.ntmps30
    go_wp2_with fail
    go_at_call 49
    refine (CV.out _ ((H.out.alloc (Nat.le_refl _) _).alloc (by simp) _) (by simp; omega) (by simp [go_sem]) (by simp [go_sem]) (by simp [go_sem]) (by simp [go_sem]) (by simp [go_sem]) (by simp [go_sem]) (by simp [go_sem])).mono ?_
    rintro e w1 ⟨rfl, m1, rfl⟩
    go_wp2_with fail
    go_at_call 57
    refine (CO.out _ (Ints.drewN ((H.out.alloc (Nat.le_refl _) _).alloc (by simp) _) _) (by simp; omega) (Work.drewN ((work_new w 27 (.slice A n c) mo te (k : Int) da we wd).alloc _) _)).mono ?_
    rintro e w2 ⟨L, c2, rfl, ho2, hb2⟩
    have HO := Lib.hid (OwnIn.of ho2)
    have B2 : Below w.heap.size w w2 := by (repeat (first | with_reducible exact Below.refl _ _ | with_reducible refine below_alloc ?_ _ | with_reducible refine below_drewN ?_ _ | with_reducible refine Below.drew ?_ | ((with_reducible refine below_set ?_ ?_ _); rotate_left; (focus (first | (simp; done) | (simp; omega) | omega))) | with_reducible refine below_call ?_ (by assumption)))
    have z2 : w.heap.size + 1 + 1 ≤ w2.heap.size := by have := hb2.size; simpa using this
    have z2' : w.heap.size + 1 < w2.heap.size := by omega
    have W1 : Work w2 (w.heap.size + 1) (.slice none 0 0) 0 0 0 0 0 0 := by have := (Work.drewN (work_new (w.alloc (.cells #[.slice A n c, .int .i64 mo, .int .i64 te, .int .i64 (k : Int), .int .i64 da, .int .i64 we, .int .i64 wd] 27)) 27 (.slice none 0 0) 0 0 0 0 0 0) m1).call hb2; simpa using this
    have HW1 := Lib.hid W1
    obtain ⟨r0, r1, r2, r3, r4, r5, r6, rf⟩ := W1
    clear ho2
    go_wp2
    refine bodyPost_ret (v := .tuple #[.agg #[.slice L n c2, .int .i64 mo, .int .i64 te, .int .i64 ((k : Int)), .int .i64 (da), .int .i64 we, .int .i64 (r + 1)], .int .i64 0]) ?_ rfl ⟨L, c2, rfl, ?_, ?_⟩
    · simp [results, Try.results30, go_sem, *]
    · refine Own.low (b0 := w.heap.size) (base := w.heap.size + 1 + 1) ?_ (by omega)
      have hown : Own w2 (w.heap.size + 1 + 1) L n c2 zs := by have := HO.out.1; simpa using this
      have hfar : Own _ _ _ _ _ _ := hown
      repeat (first | with_reducible exact hfar | ((with_reducible refine Own.far ?_ ?_ _); rotate_left; (focus (first | (simp; done) | (simp; omega)))) | with_reducible refine Own.drewN ?_ _ | ((with_reducible refine Own.alloc ?_ _)))
    · (repeat (first | with_reducible exact B2 | with_reducible refine below_alloc ?_ _ | with_reducible refine below_drewN ?_ _ | with_reducible refine Below.drew ?_ | ((with_reducible refine below_set ?_ ?_ _); rotate_left; (focus (first | (simp; done) | (simp; omega) | omega)))))

def rPushDate (zs : List Int) (n : Nat) (mo te ix da we wd : Int) : PR := if vPerp zs n mo te ix da we wd then okP zs n mo te ((mvK n te ix.toNat da 1 : Int)) (mvD te da 1) we (wd) else badP 1
set_option maxHeartbeats 2000000 in
theorem PushDate_any (A : Option Addr) (n c B : Nat) (zs : List Int) (mo te ix da we wd : Int) (w : World) (h : Ints w B A n zs) (hB : B ≤ w.heap.size) (hn : n ≤ 1048576) :
    Calls Try.prog 33 #[.agg #[.slice A n c, .int .i64 mo, .int .i64 te, .int .i64 ix, .int .i64 da, .int .i64 we, .int .i64 wd]] w (NewPerp w (rPushDate zs n mo te ix da we wd)) := by
  have H := Lib.hid (h.more hB)
  clear h
  have cV := fun (W : World) (h : Ints W w.heap.size A n zs) (h2 : w.heap.size ≤ W.heap.size) => ValidPerpetual_any A n c w.heap.size zs mo te ix da we wd W h h2 hn
  unfold rPushDate
  cases hv : vPerp zs n mo te ix da we wd
  · simp only [hv, if_false, Bool.false_eq_true] at cV ⊢
    have CV := Lib.hid cV
    clear cV hv
    go_enter Try.func33, Try.ntmps33
    go_wp2_with fail
    go_at_call 20
    refine (CV.out _ (by exact Ints.below (H.out) (by (repeat (first | with_reducible exact Below.refl _ _ | with_reducible refine below_alloc ?_ _ | with_reducible refine below_drewN ?_ _ | with_reducible refine Below.drew ?_ | ((with_reducible refine below_set ?_ ?_ _); rotate_left; (focus (first | (simp; done) | (simp; omega) | omega))) | with_reducible refine below_call ?_ (by assumption))))) (by exact Below.size (B := w.heap.size) (w := w) (by (repeat (first | with_reducible exact Below.refl _ _ | with_reducible refine below_alloc ?_ _ | with_reducible refine below_drewN ?_ _ | with_reducible refine Below.drew ?_ | ((with_reducible refine below_set ?_ ?_ _); rotate_left; (focus (first | (simp; done) | (simp; omega) | omega))) | with_reducible refine below_call ?_ (by assumption)))))).mono ?_
    rintro e w1 ⟨rfl, hb1⟩
    obtain ⟨hc1, hf1, hs1⟩ := bcell hb1
    (try (refine cut_ (p := w.heap.size < w1.heap.size) ?_ ?_; (focus (refine hs1 _ ?_; first | assumption | omega | (simp [go_sem]; done) | (simp [go_sem]; omega))); intro hl1a))
    (try (refine cut_ (p := w.heap.size + 1 < w1.heap.size) ?_ ?_; (focus (refine hs1 _ ?_; first | assumption | omega | (simp [go_sem]; done) | (simp [go_sem]; omega))); intro hl1b))
    (try (refine cut_ (p := w.heap.size + 1 + 1 < w1.heap.size) ?_ ?_; (focus (refine hs1 _ ?_; first | assumption | omega | (simp [go_sem]; done) | (simp [go_sem]; omega))); intro hl1c))
    go_wp2
    refine bodyPost_ret (v := badV 1) ?_ rfl (newPerp_bad (by (repeat (first | with_reducible exact Below.refl _ _ | with_reducible refine below_alloc ?_ _ | with_reducible refine below_drewN ?_ _ | with_reducible refine Below.drew ?_ | ((with_reducible refine below_set ?_ ?_ _); rotate_left; (focus (first | (simp; done) | (simp; omega) | omega))) | with_reducible refine below_call ?_ (by assumption)))))
    simp [results, Try.results33, go_sem, badV, hc1, hf1, hs1]
  · simp only [hv, if_true] at cV ⊢
    have CV := Lib.hid cV
    obtain ⟨_, v1, v2, hte, hix, hda, hwe, hwd1, hwd2⟩ := vPerp_yes hv
    obtain ⟨k, rfl⟩ := Int.eq_ofNat_of_zero_le hix.1
    rw [Int.toNat_natCast]
    have hk : k < n := by omega
    have cM := fun (W : World) (A : Option Addr) (c g : Nat) (h : Work W g (.slice A n c) mo te (k : Int) da we wd) => moveDate_any A n c g k mo te da we wd 1 W h hk hn hte.1 hte.2 hda.1 hda.2 (by omega) (by omega)
    have cO := fun (W : World) (h : Ints W w.heap.size A n zs) (h2 : w.heap.size ≤ W.heap.size) => own_any A n c w.heap.size zs mo te (k : Int) da we wd W h h2 (by omega) hn
    generalize mvK n te k da 1 = K at *
    generalize mvD te da 1 = D at *
    have CM := Lib.hid cM
    have CO := Lib.hid cO
    clear cV hv cM cO
    go_enter Try.func33, Try.ntmps33
    go_wp2_with fail
    go_at_call 20
    refine (CV.out _ (by exact Ints.below (H.out) (by (repeat (first | with_reducible exact Below.refl _ _ | with_reducible refine below_alloc ?_ _ | with_reducible refine below_drewN ?_ _ | with_reducible refine Below.drew ?_ | ((with_reducible refine below_set ?_ ?_ _); rotate_left; (focus (first | (simp; done) | (simp; omega) | omega))) | with_reducible refine below_call ?_ (by assumption))))) (by exact Below.size (B := w.heap.size) (w := w) (by (repeat (first | with_reducible exact Below.refl _ _ | with_reducible refine below_alloc ?_ _ | with_reducible refine below_drewN ?_ _ | with_reducible refine Below.drew ?_ | ((with_reducible refine below_set ?_ ?_ _); rotate_left; (focus (first | (simp; done) | (simp; omega) | omega))) | with_reducible refine below_call ?_ (by assumption)))))).mono ?_
    rintro e w1 ⟨rfl, hb1⟩
    have B1 : Below w.heap.size w w1 := by (repeat (first | with_reducible exact Below.refl _ _ | with_reducible refine below_alloc ?_ _ | with_reducible refine below_drewN ?_ _ | with_reducible refine Below.drew ?_ | ((with_reducible refine below_set ?_ ?_ _); rotate_left; (focus (first | (simp; done) | (simp; omega) | omega))) | with_reducible refine below_call ?_ (by assumption)))
    have z1 : w.heap.size + 1 + 1 ≤ w1.heap.size := by have := hb1.size; simpa using this
    have W0 := ((work_new w 27 (.slice A n c) mo te (k : Int) da we wd).alloc _).call hb1
    have W1 : Work w1 (w.heap.size + 1) (.slice none 0 0) 0 0 0 0 0 0 := by have := (work_new (w.alloc (.cells #[.slice A n c, .int .i64 mo, .int .i64 te, .int .i64 (k : Int), .int .i64 da, .int .i64 we, .int .i64 wd] 27)) 27 (.slice none 0 0) 0 0 0 0 0 0).call hb1; simpa using this
    have HW0 := Lib.hid W0
    have HW1 := Lib.hid W1
    obtain ⟨p0, p1, p2, p3, p4, p5, p6, pf⟩ := W0
    clear W1 hb1
    go_wp2_with fail
    go_at_call 58
    refine (CO.out _ (Ints.below H.out B1) B1.size).mono ?_
    rintro e w2 ⟨L, c2, rfl, ho2, hb2⟩
    have HO := Lib.hid (OwnIn.of ho2)
    have B2 : Below w.heap.size w w2 := B1.trans (hb2.mono B1.size)
    have z2 := hb2.size
    have hW1 := Lib.hid (HW1.out.call hb2)
    have W0 := HW0.out.call hb2
    clear HW0 HW1 ho2 p0 p1 p2 p3 p4 p5 p6 pf
    obtain ⟨p0, p1, p2, p3, p4, p5, p6, pf⟩ := W0
    have Q7 := Lib.hid pf
    go_wp2_with fail
    go_at_call 62
    refine (CM.out _ L c2 w.heap.size ⟨by simp [go_sem, *], by simp [go_sem, *], by simp [go_sem, *], by simp [go_sem, *], by simp [go_sem, *], by simp [go_sem, *], by simp [go_sem, *], fun o => by simp [go_sem, Q7.out o]⟩).mono ?_
    rintro e w3 ⟨rfl, hW3, hg3⟩
    have hgo : w2.grownBy w3 (some w.heap.size) := by (repeat (first | with_reducible exact World.grownBy.refl _ _ | with_reducible refine only_alloc ?_ _ | with_reducible refine only_drewN ?_ _ | with_reducible refine only_drew ?_ | ((with_reducible refine only_setCell ?_ ?_ _); rotate_left; (focus (first | exact .inl rfl | (left; simp; done) | (right; simp; done) | (right; simp; omega)))) | with_reducible refine World.grownBy.trans ?_ (by assumption) | with_reducible refine only_below ?_ (by assumption)))
    have B3 : Below w.heap.size w w3 := below_only B2 hgo B2.size (Nat.le_refl _)
    have z3 := hgo.size
    have O3 := Lib.hid (OwnIn.grown HO.out hgo (fun g hg => by cases hg; left; omega) (by omega))
    have hR := hW1.out.far hgo (by omega)
    have Q3 := Lib.hid hW3
    obtain ⟨q0, q1, q2, q3, q4, q5, q6, qf⟩ := hW3
    obtain ⟨r0, r1, r2, r3, r4, r5, r6, rf⟩ := hR
    clear p0 p1 p2 p3 p4 p5 p6 pf Q7 hg3 hgo hb2 hW1
    go_wp2
    refine bodyPost_ret (v := .tuple #[.agg #[.slice L n c2, .int .i64 mo, .int .i64 te, .int .i64 (K : Int), .int .i64 D, .int .i64 we, .int .i64 (wd)], .int .i64 0]) ?_ rfl ⟨L, c2, rfl, ?_, ?_⟩
    · simp [results, Try.results33, go_sem, *]
    · refine Own.low (b0 := w.heap.size) (base := w1.heap.size) ?_ (by omega)
      have hfar : Own _ _ _ _ _ _ := O3.out.1
      repeat (first | with_reducible exact hfar | ((with_reducible refine Own.far ?_ ?_ _); rotate_left; (focus (first | (simp; done) | (simp; omega)))) | with_reducible refine Own.drewN ?_ _ | ((with_reducible refine Own.alloc ?_ _)))
    · (repeat (first | with_reducible exact B3 | with_reducible refine below_alloc ?_ _ | with_reducible refine below_drewN ?_ _ | with_reducible refine Below.drew ?_ | ((with_reducible refine below_set ?_ ?_ _); rotate_left; (focus (first | (simp; done) | (simp; omega) | omega)))))
set_option maxHeartbeats 2000000 in
theorem specPushDate_any (A : Option Addr) (n c B : Nat) (zs : List Int) (mo te ix da we wd : Int) (w : World) (h : Ints w B A n zs) (hB : B ≤ w.heap.size) (hn : n ≤ 1048576) :
    Calls Try.prog 32 #[.agg #[.slice A n c, .int .i64 mo, .int .i64 te, .int .i64 ix, .int .i64 da, .int .i64 we, .int .i64 wd]] w (NewPerp w (rPushDate zs n mo te ix da we wd)) := by
  have H := Lib.hid (h.more hB)
  clear h
  have cV := fun (W : World) (h : Ints W w.heap.size A n zs) (h2 : w.heap.size ≤ W.heap.size) => l18Ok_any A n c w.heap.size w.heap.size zs mo te ix da we wd W h h2 hn
  unfold rPushDate
  cases hv : vPerp zs n mo te ix da we wd
  · simp only [hv, if_false, Bool.false_eq_true] at cV ⊢
    have CV := Lib.hid cV
    clear cV hv
    go_enter Try.func32, Try.ntmps32
    go_wp2_with fail
    go_at_call 49
    refine (CV.out _ ((H.out.alloc (Nat.le_refl _) _).alloc (by simp) _) (by simp; omega) (by simp [go_sem]) (by simp [go_sem]) (by simp [go_sem]) (by simp [go_sem]) (by simp [go_sem]) (by simp [go_sem]) (by simp [go_sem])).mono ?_
    rintro e w1 ⟨rfl, m1, rfl⟩
    go_wp2
    refine bodyPost_ret (v := badV 1) ?_ rfl (newPerp_bad (by (repeat (first | with_reducible exact Below.refl _ _ | with_reducible refine below_alloc ?_ _ | with_reducible refine below_drewN ?_ _ | with_reducible refine Below.drew ?_ | ((with_reducible refine below_set ?_ ?_ _); rotate_left; (focus (first | (simp; done) | (simp; omega) | omega))) | with_reducible refine below_call ?_ (by assumption)))))
    simp [results, Try.results32, go_sem, badV]
  · simp only [hv, if_true] at cV ⊢
    have CV := Lib.hid cV
    obtain ⟨_, v1, v2, hte, hix, hda, hwe, hwd1, hwd2⟩ := vPerp_yes hv
    obtain ⟨k, rfl⟩ := Int.eq_ofNat_of_zero_le hix.1
    rw [Int.toNat_natCast]
    have hk : k < n := by omega
    have cM := fun (W : World) (A : Option Addr) (c g : Nat) (h : Work W g (.slice A n c) mo te (k : Int) da we wd) => l18Move_any A n c g k mo te da we wd 1 W h hk hn hte.1 hte.2 hda.1 hda.2 (by omega) (by omega)
    have cO := fun (W : World) (h : Ints W w.heap.size A n zs) (h2 : w.heap.size ≤ W.heap.size) (hw : Work W w.heap.size (.slice A n c) mo te (k : Int) da we wd) => l18Own_any A n c w.heap.size w.heap.size zs mo te (k : Int) da we wd W h h2 (by omega) hn hw
    generalize mvK n te k da 1 = K at *
    generalize mvD te da 1 = D at *
    have CO := Lib.hid cO
    have CM := Lib.hid cM
    clear cV hv cO cM
    go_enter Try.func32, Try.ntmps32
    go_wp2_with fail
    go_at_call 49
    refine (CV.out _ ((H.out.alloc (Nat.le_refl _) _).alloc (by simp) _) (by simp; omega) (by simp [go_sem]) (by simp [go_sem]) (by simp [go_sem]) (by simp [go_sem]) (by simp [go_sem]) (by simp [go_sem]) (by simp [go_sem])).mono ?_
    rintro e w1 ⟨rfl, m1, rfl⟩
    go_wp2_with fail
    go_at_call 57
    refine (CO.out _ (Ints.drewN ((H.out.alloc (Nat.le_refl _) _).alloc (by simp) _) _) (by simp; omega) (Work.drewN ((work_new w 27 (.slice A n c) mo te (k : Int) da we wd).alloc _) _)).mono ?_
    rintro e w2 ⟨L, c2, rfl, ho2, hb2⟩
    have HO := Lib.hid (OwnIn.of ho2)
    have B2 : Below w.heap.size w w2 := by (repeat (first | with_reducible exact Below.refl _ _ | with_reducible refine below_alloc ?_ _ | with_reducible refine below_drewN ?_ _ | with_reducible refine Below.drew ?_ | ((with_reducible refine below_set ?_ ?_ _); rotate_left; (focus (first | (simp; done) | (simp; omega) | omega))) | with_reducible refine below_call ?_ (by assumption)))
    have z2 : w.heap.size + 1 + 1 ≤ w2.heap.size := by have := hb2.size; simpa using this
    have z2' : w.heap.size + 1 < w2.heap.size := by omega
    have W1 : Work w2 (w.heap.size + 1) (.slice none 0 0) 0 0 0 0 0 0 := by have := (Work.drewN (work_new (w.alloc (.cells #[.slice A n c, .int .i64 mo, .int .i64 te, .int .i64 (k : Int), .int .i64 da, .int .i64 we, .int .i64 wd] 27)) 27 (.slice none 0 0) 0 0 0 0 0 0) m1).call hb2; simpa using this
    have HW1 := Lib.hid W1
    obtain ⟨r0, r1, r2, r3, r4, r5, r6, rf⟩ := W1
    clear ho2
    go_wp2_with fail
    go_at_call 61
    refine (CM.out _ L c2 w2.heap.size (work_new _ _ _ _ _ _ _ _ _)).mono ?_
    rintro e w3 ⟨rfl, hW3, hg3⟩
    have b3 : Below w2.heap.size w2 w3 := below_only ((Below.refl _ _).alloc (Nat.le_refl _) _) hg3 (by simp) (Nat.le_refl _)
    have B3 : Below w.heap.size w w3 := B2.trans (b3.mono B2.size)
    have O3 : Hid (OwnIn w3 (w.heap.size + 1 + 1) w2.heap.size L n c2 zs) := Lib.hid (by have := HO.out.call b3 (Nat.le_refl _); simpa using this)
    have hR := HW1.out.call b3
    have hz3 : w2.heap.size < w3.heap.size := hW3.lt
    clear r0 r1 r2 r3 r4 r5 r6 rf
    obtain ⟨q0, q1, q2, q3, q4, q5, q6, qf⟩ := hW3
    obtain ⟨r0, r1, r2, r3, r4, r5, r6, rf⟩ := hR
    clear hg3 b3
    go_wp2
    refine bodyPost_ret (v := .tuple #[.agg #[.slice L n c2, .int .i64 mo, .int .i64 te, .int .i64 ((K : Int)), .int .i64 (D), .int .i64 we, .int .i64 (wd)], .int .i64 0]) ?_ rfl ⟨L, c2, rfl, ?_, ?_⟩
    · simp [results, Try.results32, go_sem, *]
    · refine Own.low (b0 := w.heap.size) (base := w.heap.size + 1 + 1) ?_ (by omega)
      have hfar : Own _ _ _ _ _ _ := O3.out.1
      repeat (first | with_reducible exact hfar | ((with_reducible refine Own.far ?_ ?_ _); rotate_left; (focus (first | (simp; done) | (simp; omega)))) | with_reducible refine Own.drewN ?_ _ | ((with_reducible refine Own.alloc ?_ _)))
    · (repeat (first | with_reducible exact B3 | with_reducible refine below_alloc ?_ _ | with_reducible refine below_drewN ?_ _ | with_reducible refine Below.drew ?_ | ((with_reducible refine below_set ?_ ?_ _); rotate_left; (focus (first | (simp; done) | (simp; omega) | omega)))))
end Go.Proofs.Ytcppmocninhdpaa
