/- The functions that push a perpetual work by one tooth: each gives a work with a new cam, and a code. No conditions but that a cam has at most 2^20 levels. -/
import Derived.Test.YtmbdedkelckedaaCore5
namespace Go.Proofs.Ytmbdedkelckedaa
open Go.RowKit
set_option linter.unusedVariables false
set_option linter.unusedSimpArgs false
/-- a result: the number of levels, the levels, the numbers, the code -/
def PR := Nat × List Int × Int × Int × Int × Int × Int × Int × Int
def okP (zs : List Int) (n : Nat) (mo te ix da we wd : Int) : PR := (n, zs, mo, te, ix, da, we, wd, 0)
def badP (cd : Int) : PR := (0, [], 0, 0, 0, 0, 0, 0, cd)
def NewPerp (w : World) : PR → Ending → World → Prop
  | (n, zs, mo, te, ix, da, we, wd, cd), e, w' => ∃ A c, e = .returned (.tuple #[.agg #[.slice A n c, .int .i64 mo, .int .i64 te, .int .i64 ix, .int .i64 da, .int .i64 we, .int .i64 wd], .int .i64 cd]) ∧ Own w' w.heap.size A n c zs ∧ Below w.heap.size w w'
def badV (cd : Int) : Value := .tuple #[.agg #[.slice none 0 0, .int .i64 0, .int .i64 0, .int .i64 0, .int .i64 0, .int .i64 0, .int .i64 0], .int .i64 cd]
theorem newPerp_bad {w w' : World} {cd : Int} (h : Below w.heap.size w w') : NewPerp w (badP cd) (.returned (badV cd)) w' := ⟨none, 0, rfl, Own.nil_, h⟩
theorem Work.far {w w' : World} {g g' : Nat} {S : Value} {mo te ix da we wd : Int} (h : Work w g' S mo te ix da we wd) (hg : w.grownBy w' (some g)) (hne : g' ≠ g) : Work w' g' S mo te ix da we wd :=
  h.keep (hg.block g' h.lt (by intro e; exact hne (by injection e)))

def rPushMonth (zs : List Int) (n : Nat) (mo te ix da we wd : Int) : PR := if vPerp zs n mo te ix da we wd then okP zs n mo te ((((ix.toNat + 1) % n : Nat) : Int)) (da) we (wd) else badP 1

def rPushWeekday (zs : List Int) (n : Nat) (mo te ix da we wd : Int) : PR := if vPerp zs n mo te ix da we wd then okP zs n mo te ((ix.toNat : Int)) (da) we (mvW we wd) else badP 1
set_option maxHeartbeats 2000000 in
theorem PushWeekday_any (A : Option Addr) (n c B : Nat) (zs : List Int) (mo te ix da we wd : Int) (w : World) (h : Ints w B A n zs) (hB : B ≤ w.heap.size) (hn : n ≤ 1048576) :
    Calls Try.prog 19 #[.agg #[.slice A n c, .int .i64 mo, .int .i64 te, .int .i64 ix, .int .i64 da, .int .i64 we, .int .i64 wd]] w (NewPerp w (rPushWeekday zs n mo te ix da we wd)) := by
  have H := Lib.hid (h.more hB)
  clear h
  have cV := fun (W : World) (h : Ints W w.heap.size A n zs) (h2 : w.heap.size ≤ W.heap.size) => ValidPerpetual_any A n c w.heap.size zs mo te ix da we wd W h h2 hn
  unfold rPushWeekday
  cases hv : vPerp zs n mo te ix da we wd
  · simp only [hv, if_false, Bool.false_eq_true] at cV ⊢
    have CV := Lib.hid cV
    clear cV hv
    go_enter Try.func19, Try.ntmps19
    go_wp2_with fail
    go_at_call 31
    refine (CV.out _ (by exact Ints.below (H.out) (by (repeat (first | with_reducible exact Below.refl _ _ | with_reducible refine below_alloc ?_ _ | with_reducible refine below_drewN ?_ _ | with_reducible refine Below.drew ?_ | ((with_reducible refine below_set ?_ ?_ _); rotate_left; (focus (first | (simp; done) | (simp; omega) | omega))) | with_reducible refine below_call ?_ (by assumption))))) (by exact Below.size (B := w.heap.size) (w := w) (by (repeat (first | with_reducible exact Below.refl _ _ | with_reducible refine below_alloc ?_ _ | with_reducible refine below_drewN ?_ _ | with_reducible refine Below.drew ?_ | ((with_reducible refine below_set ?_ ?_ _); rotate_left; (focus (first | (simp; done) | (simp; omega) | omega))) | with_reducible refine below_call ?_ (by assumption)))))).mono ?_
    rintro e w1 ⟨rfl, hb1⟩
    obtain ⟨hc1, hf1, hs1⟩ := bcell hb1
    (try (refine cut_ (p := w.heap.size < w1.heap.size) ?_ ?_; (focus (refine hs1 _ ?_; first | assumption | omega | (simp [go_sem]; done) | (simp [go_sem]; omega))); intro hl1a))
    (try (refine cut_ (p := w.heap.size + 1 < w1.heap.size) ?_ ?_; (focus (refine hs1 _ ?_; first | assumption | omega | (simp [go_sem]; done) | (simp [go_sem]; omega))); intro hl1b))
    (try (refine cut_ (p := w.heap.size + 1 + 1 < w1.heap.size) ?_ ?_; (focus (refine hs1 _ ?_; first | assumption | omega | (simp [go_sem]; done) | (simp [go_sem]; omega))); intro hl1c))
    go_wp2
    refine bodyPost_ret (v := badV 1) ?_ rfl (newPerp_bad (by (repeat (first | with_reducible exact Below.refl _ _ | with_reducible refine below_alloc ?_ _ | with_reducible refine below_drewN ?_ _ | with_reducible refine Below.drew ?_ | ((with_reducible refine below_set ?_ ?_ _); rotate_left; (focus (first | (simp; done) | (simp; omega) | omega))) | with_reducible refine below_call ?_ (by assumption)))))
    simp [results, Try.results19, go_sem, badV, hc1, hf1, hs1]
  · simp only [hv, if_true] at cV ⊢
    have CV := Lib.hid cV
    obtain ⟨_, v1, v2, hte, hix, hda, hwe, hwd1, hwd2⟩ := vPerp_yes hv
    obtain ⟨k, rfl⟩ := Int.eq_ofNat_of_zero_le hix.1
    rw [Int.toNat_natCast]
    have hk : k < n := by omega
    have cM := fun (W : World) (A : Option Addr) (c g : Nat) (h : Work W g (.slice A n c) mo te (k : Int) da we wd) => moveWeekday_any g (.slice A n c) mo te (k : Int) da we wd W h hwe.1 hwe.2 hwd1 hwd2
    have cO := fun (W : World) (h : Ints W w.heap.size A n zs) (h2 : w.heap.size ≤ W.heap.size) => own_any A n c w.heap.size zs mo te (k : Int) da we wd W h h2 (by omega) hn
    have CM := Lib.hid cM
    have CO := Lib.hid cO
    clear cV hv cM cO
    go_enter Try.func19, Try.ntmps19
    go_wp2_with fail
    go_at_call 31
    refine (CV.out _ (by exact Ints.below (H.out) (by (repeat (first | with_reducible exact Below.refl _ _ | with_reducible refine below_alloc ?_ _ | with_reducible refine below_drewN ?_ _ | with_reducible refine Below.drew ?_ | ((with_reducible refine below_set ?_ ?_ _); rotate_left; (focus (first | (simp; done) | (simp; omega) | omega))) | with_reducible refine below_call ?_ (by assumption))))) (by exact Below.size (B := w.heap.size) (w := w) (by (repeat (first | with_reducible exact Below.refl _ _ | with_reducible refine below_alloc ?_ _ | with_reducible refine below_drewN ?_ _ | with_reducible refine Below.drew ?_ | ((with_reducible refine below_set ?_ ?_ _); rotate_left; (focus (first | (simp; done) | (simp; omega) | omega))) | with_reducible refine below_call ?_ (by assumption)))))).mono ?_
    rintro e w1 ⟨rfl, hb1⟩
    have B1 : Below w.heap.size w w1 := by (repeat (first | with_reducible exact Below.refl _ _ | with_reducible refine below_alloc ?_ _ | with_reducible refine below_drewN ?_ _ | with_reducible refine Below.drew ?_ | ((with_reducible refine below_set ?_ ?_ _); rotate_left; (focus (first | (simp; done) | (simp; omega) | omega))) | with_reducible refine below_call ?_ (by assumption)))
    have z1 : w.heap.size + 1 + 1 ≤ w1.heap.size := by have := hb1.size; simpa using this
    have W0 := ((work_new w 32 (.slice A n c) mo te (k : Int) da we wd).alloc _).call hb1
    have W1 : Work w1 (w.heap.size + 1) (.slice none 0 0) 0 0 0 0 0 0 := by have := (work_new (w.alloc (.cells #[.slice A n c, .int .i64 mo, .int .i64 te, .int .i64 (k : Int), .int .i64 da, .int .i64 we, .int .i64 wd] 32)) 32 (.slice none 0 0) 0 0 0 0 0 0).call hb1; simpa using this
    have HW0 := Lib.hid W0
    have HW1 := Lib.hid W1
    obtain ⟨p0, p1, p2, p3, p4, p5, p6, pf⟩ := W0
    clear W1 hb1
    go_wp2_with fail
    go_at_call 38
    refine (CO.out _ (Ints.below H.out B1) B1.size).mono ?_
    rintro e w2 ⟨L, c2, rfl, ho2, hb2⟩
    have HO := Lib.hid (OwnIn.of ho2)
    have B2 : Below w.heap.size w w2 := B1.trans (hb2.mono B1.size)
    have z2 := hb2.size
    have hW1 := Lib.hid (HW1.out.call hb2)
    have W0 := HW0.out.call hb2
    clear HW0 HW1 ho2 p0 p1 p2 p3 p4 p5 p6 pf
    obtain ⟨p0, p1, p2, p3, p4, p5, p6, pf⟩ := W0
    have Q7 := Lib.hid pf
    go_wp2_with fail
    go_at_call 48
    refine (CM.out _ L c2 w.heap.size ⟨by simp [go_sem, *], by simp [go_sem, *], by simp [go_sem, *], by simp [go_sem, *], by simp [go_sem, *], by simp [go_sem, *], by simp [go_sem, *], fun o => by simp [go_sem, Q7.out o]⟩).mono ?_
    rintro e w3 ⟨rfl, hW3, hg3⟩
    have hgo : w2.grownBy w3 (some w.heap.size) := by (repeat (first | with_reducible exact World.grownBy.refl _ _ | with_reducible refine only_alloc ?_ _ | with_reducible refine only_drewN ?_ _ | with_reducible refine only_drew ?_ | ((with_reducible refine only_setCell ?_ ?_ _); rotate_left; (focus (first | exact .inl rfl | (left; simp; done) | (right; simp; done) | (right; simp; omega)))) | with_reducible refine World.grownBy.trans ?_ (by assumption) | with_reducible refine only_below ?_ (by assumption)))
    have B3 : Below w.heap.size w w3 := below_only B2 hgo B2.size (Nat.le_refl _)
    have z3 := hgo.size
    have O3 := Lib.hid (OwnIn.grown HO.out hgo (fun g hg => by cases hg; left; omega) (by omega))
    have hR := hW1.out.far hgo (by omega)
    have Q3 := Lib.hid hW3
    obtain ⟨q0, q1, q2, q3, q4, q5, q6, qf⟩ := hW3
    obtain ⟨r0, r1, r2, r3, r4, r5, r6, rf⟩ := hR
    clear p0 p1 p2 p3 p4 p5 p6 pf Q7 hg3 hgo hb2 hW1
    go_wp2
    refine bodyPost_ret (v := .tuple #[.agg #[.slice L n c2, .int .i64 mo, .int .i64 te, .int .i64 ((k : Int)), .int .i64 (da), .int .i64 we, .int .i64 (mvW we wd)], .int .i64 0]) ?_ rfl ⟨L, c2, rfl, ?_, ?_⟩
    · simp [results, Try.results19, go_sem, *]
    · refine Own.low (b0 := w.heap.size) (base := w1.heap.size) ?_ (by omega)
      have hfar : Own _ _ _ _ _ _ := O3.out.1
      repeat (first | with_reducible exact hfar | ((with_reducible refine Own.far ?_ ?_ _); rotate_left; (focus (first | (simp; done) | (simp; omega)))) | with_reducible refine Own.drewN ?_ _ | ((with_reducible refine Own.alloc ?_ _)))
    · (repeat (first | with_reducible exact B3 | with_reducible refine below_alloc ?_ _ | with_reducible refine below_drewN ?_ _ | with_reducible refine Below.drew ?_ | ((with_reducible refine below_set ?_ ?_ _); rotate_left; (focus (first | (simp; done) | (simp; omega) | omega)))))

def rPushDate (zs : List Int) (n : Nat) (mo te ix da we wd : Int) : PR := if vPerp zs n mo te ix da we wd then okP zs n mo te ((mvK n te ix.toNat da 1 : Int)) (mvD te da 1) we (wd) else badP 1
set_option maxHeartbeats 2000000 in
theorem PushDate_any (A : Option Addr) (n c B : Nat) (zs : List Int) (mo te ix da we wd : Int) (w : World) (h : Ints w B A n zs) (hB : B ≤ w.heap.size) (hn : n ≤ 1048576) :
    Calls Try.prog 18 #[.agg #[.slice A n c, .int .i64 mo, .int .i64 te, .int .i64 ix, .int .i64 da, .int .i64 we, .int .i64 wd]] w (NewPerp w (rPushDate zs n mo te ix da we wd)) := by
  have H := Lib.hid (h.more hB)
  clear h
  have cV := fun (W : World) (h : Ints W w.heap.size A n zs) (h2 : w.heap.size ≤ W.heap.size) => ValidPerpetual_any A n c w.heap.size zs mo te ix da we wd W h h2 hn
  unfold rPushDate
  cases hv : vPerp zs n mo te ix da we wd
  · simp only [hv, if_false, Bool.false_eq_true] at cV ⊢
    have CV := Lib.hid cV
    clear cV hv
    go_enter Try.func18, Try.ntmps18
    go_wp2_with fail
    go_at_call 31
    refine (CV.out _ (by exact Ints.below (H.out) (by (repeat (first | with_reducible exact Below.refl _ _ | with_reducible refine below_alloc ?_ _ | with_reducible refine below_drewN ?_ _ | with_reducible refine Below.drew ?_ | ((with_reducible refine below_set ?_ ?_ _); rotate_left; (focus (first | (simp; done) | (simp; omega) | omega))) | with_reducible refine below_call ?_ (by assumption))))) (by exact Below.size (B := w.heap.size) (w := w) (by (repeat (first | with_reducible exact Below.refl _ _ | with_reducible refine below_alloc ?_ _ | with_reducible refine below_drewN ?_ _ | with_reducible refine Below.drew ?_ | ((with_reducible refine below_set ?_ ?_ _); rotate_left; (focus (first | (simp; done) | (simp; omega) | omega))) | with_reducible refine below_call ?_ (by assumption)))))).mono ?_
    rintro e w1 ⟨rfl, hb1⟩
    obtain ⟨hc1, hf1, hs1⟩ := bcell hb1
    (try (refine cut_ (p := w.heap.size < w1.heap.size) ?_ ?_; (focus (refine hs1 _ ?_; first | assumption | omega | (simp [go_sem]; done) | (simp [go_sem]; omega))); intro hl1a))
    (try (refine cut_ (p := w.heap.size + 1 < w1.heap.size) ?_ ?_; (focus (refine hs1 _ ?_; first | assumption | omega | (simp [go_sem]; done) | (simp [go_sem]; omega))); intro hl1b))
    (try (refine cut_ (p := w.heap.size + 1 + 1 < w1.heap.size) ?_ ?_; (focus (refine hs1 _ ?_; first | assumption | omega | (simp [go_sem]; done) | (simp [go_sem]; omega))); intro hl1c))
    go_wp2
    refine bodyPost_ret (v := badV 1) ?_ rfl (newPerp_bad (by (repeat (first | with_reducible exact Below.refl _ _ | with_reducible refine below_alloc ?_ _ | with_reducible refine below_drewN ?_ _ | with_reducible refine Below.drew ?_ | ((with_reducible refine below_set ?_ ?_ _); rotate_left; (focus (first | (simp; done) | (simp; omega) | omega))) | with_reducible refine below_call ?_ (by assumption)))))
    simp [results, Try.results18, go_sem, badV, hc1, hf1, hs1]
  · simp only [hv, if_true] at cV ⊢
    have CV := Lib.hid cV
    obtain ⟨_, v1, v2, hte, hix, hda, hwe, hwd1, hwd2⟩ := vPerp_yes hv
    obtain ⟨k, rfl⟩ := Int.eq_ofNat_of_zero_le hix.1
    rw [Int.toNat_natCast]
    have hk : k < n := by omega
    have cM := fun (W : World) (A : Option Addr) (c g : Nat) (h : Work W g (.slice A n c) mo te (k : Int) da we wd) => moveDate_any A n c g k mo te da we wd 1 W h hk hn hte.1 hte.2 hda.1 hda.2 (by omega) (by omega)
    have cO := fun (W : World) (h : Ints W w.heap.size A n zs) (h2 : w.heap.size ≤ W.heap.size) => own_any A n c w.heap.size zs mo te (k : Int) da we wd W h h2 (by omega) hn
    generalize mvK n te k da 1 = K at *
    generalize mvD te da 1 = D at *
    have CM := Lib.hid cM
    have CO := Lib.hid cO
    clear cV hv cM cO
    go_enter Try.func18, Try.ntmps18
    go_wp2_with fail
    go_at_call 31
    refine (CV.out _ (by exact Ints.below (H.out) (by (repeat (first | with_reducible exact Below.refl _ _ | with_reducible refine below_alloc ?_ _ | with_reducible refine below_drewN ?_ _ | with_reducible refine Below.drew ?_ | ((with_reducible refine below_set ?_ ?_ _); rotate_left; (focus (first | (simp; done) | (simp; omega) | omega))) | with_reducible refine below_call ?_ (by assumption))))) (by exact Below.size (B := w.heap.size) (w := w) (by (repeat (first | with_reducible exact Below.refl _ _ | with_reducible refine below_alloc ?_ _ | with_reducible refine below_drewN ?_ _ | with_reducible refine Below.drew ?_ | ((with_reducible refine below_set ?_ ?_ _); rotate_left; (focus (first | (simp; done) | (simp; omega) | omega))) | with_reducible refine below_call ?_ (by assumption)))))).mono ?_
    rintro e w1 ⟨rfl, hb1⟩
    have B1 : Below w.heap.size w w1 := by (repeat (first | with_reducible exact Below.refl _ _ | with_reducible refine below_alloc ?_ _ | with_reducible refine below_drewN ?_ _ | with_reducible refine Below.drew ?_ | ((with_reducible refine below_set ?_ ?_ _); rotate_left; (focus (first | (simp; done) | (simp; omega) | omega))) | with_reducible refine below_call ?_ (by assumption)))
    have z1 : w.heap.size + 1 + 1 ≤ w1.heap.size := by have := hb1.size; simpa using this
    have W0 := ((work_new w 32 (.slice A n c) mo te (k : Int) da we wd).alloc _).call hb1
    have W1 : Work w1 (w.heap.size + 1) (.slice none 0 0) 0 0 0 0 0 0 := by have := (work_new (w.alloc (.cells #[.slice A n c, .int .i64 mo, .int .i64 te, .int .i64 (k : Int), .int .i64 da, .int .i64 we, .int .i64 wd] 32)) 32 (.slice none 0 0) 0 0 0 0 0 0).call hb1; simpa using this
    have HW0 := Lib.hid W0
    have HW1 := Lib.hid W1
    obtain ⟨p0, p1, p2, p3, p4, p5, p6, pf⟩ := W0
    clear W1 hb1
    go_wp2_with fail
    go_at_call 38
    refine (CO.out _ (Ints.below H.out B1) B1.size).mono ?_
    rintro e w2 ⟨L, c2, rfl, ho2, hb2⟩
    have HO := Lib.hid (OwnIn.of ho2)
    have B2 : Below w.heap.size w w2 := B1.trans (hb2.mono B1.size)
    have z2 := hb2.size
    have hW1 := Lib.hid (HW1.out.call hb2)
    have W0 := HW0.out.call hb2
    clear HW0 HW1 ho2 p0 p1 p2 p3 p4 p5 p6 pf
    obtain ⟨p0, p1, p2, p3, p4, p5, p6, pf⟩ := W0
    have Q7 := Lib.hid pf
    go_wp2_with fail
    go_at_call 47
    refine (CM.out _ L c2 w.heap.size ⟨by simp [go_sem, *], by simp [go_sem, *], by simp [go_sem, *], by simp [go_sem, *], by simp [go_sem, *], by simp [go_sem, *], by simp [go_sem, *], fun o => by simp [go_sem, Q7.out o]⟩).mono ?_
    rintro e w3 ⟨rfl, hW3, hg3⟩
    have hgo : w2.grownBy w3 (some w.heap.size) := by (repeat (first | with_reducible exact World.grownBy.refl _ _ | with_reducible refine only_alloc ?_ _ | with_reducible refine only_drewN ?_ _ | with_reducible refine only_drew ?_ | ((with_reducible refine only_setCell ?_ ?_ _); rotate_left; (focus (first | exact .inl rfl | (left; simp; done) | (right; simp; done) | (right; simp; omega)))) | with_reducible refine World.grownBy.trans ?_ (by assumption) | with_reducible refine only_below ?_ (by assumption)))
    have B3 : Below w.heap.size w w3 := below_only B2 hgo B2.size (Nat.le_refl _)
    have z3 := hgo.size
    have O3 := Lib.hid (OwnIn.grown HO.out hgo (fun g hg => by cases hg; left; omega) (by omega))
    have hR := hW1.out.far hgo (by omega)
    have Q3 := Lib.hid hW3
    obtain ⟨q0, q1, q2, q3, q4, q5, q6, qf⟩ := hW3
    obtain ⟨r0, r1, r2, r3, r4, r5, r6, rf⟩ := hR
    clear p0 p1 p2 p3 p4 p5 p6 pf Q7 hg3 hgo hb2 hW1
    go_wp2
    refine bodyPost_ret (v := .tuple #[.agg #[.slice L n c2, .int .i64 mo, .int .i64 te, .int .i64 (K : Int), .int .i64 D, .int .i64 we, .int .i64 (wd)], .int .i64 0]) ?_ rfl ⟨L, c2, rfl, ?_, ?_⟩
    · simp [results, Try.results18, go_sem, *]
    · refine Own.low (b0 := w.heap.size) (base := w1.heap.size) ?_ (by omega)
      have hfar : Own _ _ _ _ _ _ := O3.out.1
      repeat (first | with_reducible exact hfar | ((with_reducible refine Own.far ?_ ?_ _); rotate_left; (focus (first | (simp; done) | (simp; omega)))) | with_reducible refine Own.drewN ?_ _ | ((with_reducible refine Own.alloc ?_ _)))
    · (repeat (first | with_reducible exact B3 | with_reducible refine below_alloc ?_ _ | with_reducible refine below_drewN ?_ _ | with_reducible refine Below.drew ?_ | ((with_reducible refine below_set ?_ ?_ _); rotate_left; (focus (first | (simp; done) | (simp; omega) | omega)))))
end Go.Proofs.Ytmbdedkelckedaa
