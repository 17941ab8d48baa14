/- The two functions RunPerpetual and the two functions StepPerpetual: each gives a work with a new cam, and a code. No conditions but that a cam has at most 2^20 levels. -/
import Derived.Test.YtmbdedkelckedaaPush
namespace Go.Proofs.Ytmbdedkelckedaa
open Go.RowKit
set_option linter.unusedVariables false
set_option linter.unusedSimpArgs false
def runS (zs : List Int) (n : Nat) (mo te we : Int) (s : Nat × Int × Int) : PR := okP zs n mo te (s.1 : Int) s.2.1 we s.2.2
def rRunPerpetual (zs : List Int) (n : Nat) (mo te ix da we wd : Int) (ni : Int) : PR := if vPerp zs n mo te ix da we wd then if inB ni 0 200000 then runS zs n mo te we (nightsS zs n te we ni.toNat (ix.toNat, da, wd)) else badP 2 else badP 1
theorem rRunPerpetual_len (zs : List Int) (n : Nat) (mo te ix da we wd ni : Int) (hn : n ≤ 1048576) : (rRunPerpetual zs n mo te ix da we wd ni).1 ≤ 1048576 := by
  unfold rRunPerpetual; split
  · split <;> simp [runS, okP, badP, hn]
  · simp [badP]
theorem runs_ok {w w' : World} {zs : List Int} {n : Nat} {mo te we : Int} {s : Nat × Int × Int} {K : Nat} {D V : Int} {e : Ending} (hs : (K, D, V) = s)
    (h : NewPerp w (okP zs n mo te (K : Int) D we V) e w') : NewPerp w (runS zs n mo te we s) e w' := by subst hs; exact h
set_option maxHeartbeats 4000000 in
theorem RunPerpetual_any (A : Option Addr) (n c B : Nat) (zs : List Int) (mo te ix da we wd : Int) (ni : Int) (w : World) (h : Ints w B A n zs) (hB : B ≤ w.heap.size) (hn : n ≤ 1048576) :
    Calls Try.prog 10 #[.agg #[.slice A n c, .int .i64 mo, .int .i64 te, .int .i64 ix, .int .i64 da, .int .i64 we, .int .i64 wd], .int .i64 ni] w (NewPerp w (rRunPerpetual zs n mo te ix da we wd ni)) := by
  have H := Lib.hid (h.more hB)
  clear h
  have cV := fun (W : World) (h : Ints W w.heap.size A n zs) (h2 : w.heap.size ≤ W.heap.size) => ValidPerpetual_any A n c w.heap.size zs mo te ix da we wd W h h2 hn
  unfold rRunPerpetual
  cases hv : vPerp zs n mo te ix da we wd
  · simp only [hv, if_false, Bool.false_eq_true] at cV ⊢
    have CV := Lib.hid cV
    clear cV hv
    go_enter Try.func10, Try.ntmps10
    go_wp2_with fail
    go_at_call 31
    refine (CV.out _ (by exact Ints.below (H.out) (by (repeat (first | with_reducible exact Below.refl _ _ | with_reducible refine below_alloc ?_ _ | with_reducible refine below_drewN ?_ _ | with_reducible refine Below.drew ?_ | ((with_reducible refine below_set ?_ ?_ _); rotate_left; (focus (first | (simp; done) | (simp; omega) | omega))) | with_reducible refine below_call ?_ (by assumption))))) (by exact Below.size (B := w.heap.size) (w := w) (by (repeat (first | with_reducible exact Below.refl _ _ | with_reducible refine below_alloc ?_ _ | with_reducible refine below_drewN ?_ _ | with_reducible refine Below.drew ?_ | ((with_reducible refine below_set ?_ ?_ _); rotate_left; (focus (first | (simp; done) | (simp; omega) | omega))) | with_reducible refine below_call ?_ (by assumption)))))).mono ?_
    rintro e w1 ⟨rfl, hb1⟩
    obtain ⟨hc1, hf1, hs1⟩ := bcell hb1
    (try (refine cut_ (p := w.heap.size < w1.heap.size) ?_ ?_; (focus (refine hs1 _ ?_; first | assumption | omega | (simp [go_sem]; done) | (simp [go_sem]; omega))); intro hl1a))
    (try (refine cut_ (p := w.heap.size + 1 < w1.heap.size) ?_ ?_; (focus (refine hs1 _ ?_; first | assumption | omega | (simp [go_sem]; done) | (simp [go_sem]; omega))); intro hl1b))
    (try (refine cut_ (p := w.heap.size + 1 + 1 < w1.heap.size) ?_ ?_; (focus (refine hs1 _ ?_; first | assumption | omega | (simp [go_sem]; done) | (simp [go_sem]; omega))); intro hl1c))
    go_wp2
    refine bodyPost_ret (v := badV 1) ?_ rfl (newPerp_bad (by (repeat (first | with_reducible exact Below.refl _ _ | with_reducible refine below_alloc ?_ _ | with_reducible refine below_drewN ?_ _ | with_reducible refine Below.drew ?_ | ((with_reducible refine below_set ?_ ?_ _); rotate_left; (focus (first | (simp; done) | (simp; omega) | omega))) | with_reducible refine below_call ?_ (by assumption)))))
    simp [results, Try.results10, go_sem, badV, hc1, hf1, hs1]
  · cases hi : inB ni 0 200000
    · simp only [hv, if_true, if_false, Bool.false_eq_true] at cV ⊢
      have CV := Lib.hid cV
      clear cV hv
      go_enter Try.func10, Try.ntmps10
      go_wp2_with fail
      go_at_call 31
      refine (CV.out _ (by exact Ints.below (H.out) (by (repeat (first | with_reducible exact Below.refl _ _ | with_reducible refine below_alloc ?_ _ | with_reducible refine below_drewN ?_ _ | with_reducible refine Below.drew ?_ | ((with_reducible refine below_set ?_ ?_ _); rotate_left; (focus (first | (simp; done) | (simp; omega) | omega))) | with_reducible refine below_call ?_ (by assumption))))) (by exact Below.size (B := w.heap.size) (w := w) (by (repeat (first | with_reducible exact Below.refl _ _ | with_reducible refine below_alloc ?_ _ | with_reducible refine below_drewN ?_ _ | with_reducible refine Below.drew ?_ | ((with_reducible refine below_set ?_ ?_ _); rotate_left; (focus (first | (simp; done) | (simp; omega) | omega))) | with_reducible refine below_call ?_ (by assumption)))))).mono ?_
      rintro e w1 ⟨rfl, hb1⟩
      obtain ⟨hc1, hf1, hs1⟩ := bcell hb1
      (try (refine cut_ (p := w.heap.size < w1.heap.size) ?_ ?_; (focus (refine hs1 _ ?_; first | assumption | omega | (simp [go_sem]; done) | (simp [go_sem]; omega))); intro hl1a))
      (try (refine cut_ (p := w.heap.size + 1 < w1.heap.size) ?_ ?_; (focus (refine hs1 _ ?_; first | assumption | omega | (simp [go_sem]; done) | (simp [go_sem]; omega))); intro hl1b))
      (try (refine cut_ (p := w.heap.size + 1 + 1 < w1.heap.size) ?_ ?_; (focus (refine hs1 _ ?_; first | assumption | omega | (simp [go_sem]; done) | (simp [go_sem]; omega))); intro hl1c))
      go_wp2_with (go_at_call 33; refine (within_any _ _ _ _).mono ?_; rintro e w' ⟨rfl, rfl⟩)
      refine bodyPost_ret (v := badV 2) ?_ rfl (newPerp_bad (by (repeat (first | with_reducible exact Below.refl _ _ | with_reducible refine below_alloc ?_ _ | with_reducible refine below_drewN ?_ _ | with_reducible refine Below.drew ?_ | ((with_reducible refine below_set ?_ ?_ _); rotate_left; (focus (first | (simp; done) | (simp; omega) | omega))) | with_reducible refine below_call ?_ (by assumption)))))
      simp [results, Try.results10, go_sem, badV, hc1, hf1, hs1]
    simp only [hv, if_true] at cV ⊢
    have CV := Lib.hid cV
    have hni := inB_yes hi
    obtain ⟨M, rfl⟩ := Int.eq_ofNat_of_zero_le hni.1
    obtain ⟨_, v1, v2, hte, hix, hda, hwe, hwd1, hwd2⟩ := vPerp_yes hv
    obtain ⟨k, rfl⟩ := Int.eq_ofNat_of_zero_le hix.1
    rw [Int.toNat_natCast, Int.toNat_natCast]
    have hk : k < n := by omega
    have HG0 : Hid (goodS n te we (k, da, wd)) := Lib.hid ⟨hk, hda.1, hda.2, hwd1, hwd2⟩
    have HN := Lib.hid (fun (W : World) (A : Option Addr) (c g k : Nat) (da wd : Int) (h : Ints W W.heap.size A n zs) (hW : Work W g (.slice A n c) mo te (k : Int) da we wd) (hs : goodS n te we (k, da, wd)) => midnight_any A n c W.heap.size g k zs mo te da we wd W h (Nat.le_refl _) hW hs hn hte.1 hte.2 hwe.1 hwe.2)
    have cO := fun (W : World) (h : Ints W w.heap.size A n zs) (h2 : w.heap.size ≤ W.heap.size) => own_any A n c w.heap.size zs mo te (k : Int) da we wd W h h2 (by omega) hn
    have CO := Lib.hid cO
    have wi := fun W => within_any (M : Int) 0 200000 W
    rw [hi] at wi
    have WI := Lib.hid wi
    clear cV hv cO wi hi
    go_enter Try.func10, Try.ntmps10
    go_wp2_with fail
    go_at_call 31
    refine (CV.out _ (by exact Ints.below (H.out) (by (repeat (first | with_reducible exact Below.refl _ _ | with_reducible refine below_alloc ?_ _ | with_reducible refine below_drewN ?_ _ | with_reducible refine Below.drew ?_ | ((with_reducible refine below_set ?_ ?_ _); rotate_left; (focus (first | (simp; done) | (simp; omega) | omega))) | with_reducible refine below_call ?_ (by assumption))))) (by exact Below.size (B := w.heap.size) (w := w) (by (repeat (first | with_reducible exact Below.refl _ _ | with_reducible refine below_alloc ?_ _ | with_reducible refine below_drewN ?_ _ | with_reducible refine Below.drew ?_ | ((with_reducible refine below_set ?_ ?_ _); rotate_left; (focus (first | (simp; done) | (simp; omega) | omega))) | with_reducible refine below_call ?_ (by assumption)))))).mono ?_
    rintro e w1 ⟨rfl, hb1⟩
    have B1 : Below w.heap.size w w1 := by (repeat (first | with_reducible exact Below.refl _ _ | with_reducible refine below_alloc ?_ _ | with_reducible refine below_drewN ?_ _ | with_reducible refine Below.drew ?_ | ((with_reducible refine below_set ?_ ?_ _); rotate_left; (focus (first | (simp; done) | (simp; omega) | omega))) | with_reducible refine below_call ?_ (by assumption)))
    have z1 : w.heap.size + 1 + 1 ≤ w1.heap.size := by have := hb1.size; simpa using this
    have W0 := ((work_new w 32 (.slice A n c) mo te (k : Int) da we wd).alloc _).call hb1
    have W1 : Work w1 (w.heap.size + 1) (.slice none 0 0) 0 0 0 0 0 0 := by have := (work_new (w.alloc (.cells #[.slice A n c, .int .i64 mo, .int .i64 te, .int .i64 (k : Int), .int .i64 da, .int .i64 we, .int .i64 wd] 32)) 32 (.slice none 0 0) 0 0 0 0 0 0).call hb1; simpa using this
    have HW0 := Lib.hid W0
    have HW1 := Lib.hid W1
    obtain ⟨p0, p1, p2, p3, p4, p5, p6, pf⟩ := W0
    clear W1 hb1
    go_wp2_with fail
    go_at_call 33
    refine (WI.out _).mono ?_
    rintro e w' ⟨rfl, rfl⟩
    go_wp2_with fail
    go_at_call 38
    refine (CO.out _ (Ints.below H.out B1) B1.size).mono ?_
    rintro e w2 ⟨L, c2, rfl, ho2, hb2⟩
    have z2 := hb2.size
    have hW1 := HW1.out.call hb2
    have W0 := HW0.out.call hb2
    have HO := Lib.hid (OwnIn.of ho2)
    have B2 : Below w.heap.size w w2 := B1.trans (hb2.mono B1.size)
    have zl := W0.lt
    clear HW0 HW1 ho2 p0 p1 p2 p3 p4 p5 p6 pf hb2
    have HW1 := Lib.hid hW1
    obtain ⟨p0, p1, p2, p3, p4, p5, p6, pf⟩ := W0
    have Q7 := Lib.hid pf
    clear hW1
    go_wp2
    go_loopw [1] (fun t wr => ∃ (j : Nat) (K : Nat) (D V : Int), t = .int .i64 ((M - j : Nat) : Int) ∧ j ≤ M ∧ (K, D, V) = nightsS zs n te we j (k, da, wd) ∧ Hid (Work wr w.heap.size (.slice L n c2) mo te (K : Int) D we V) ∧ w2.grownBy wr (some w.heap.size)) (fun t _ => (intOf t).toNat)
    case atStart => exact ⟨0, k, da, wd, rfl, Nat.zero_le _, rfl, Lib.hid ⟨by simp [go_sem, *], by simp [go_sem, *], by simp [go_sem, *], by simp [go_sem, *], by simp [go_sem, *], by simp [go_sem, *], by simp [go_sem, *], fun o => by simp [go_sem, Q7.out o]⟩, by (repeat (first | with_reducible exact World.grownBy.refl _ _ | with_reducible refine only_alloc ?_ _ | with_reducible refine only_drewN ?_ _ | with_reducible refine only_drew ?_ | ((with_reducible refine only_setCell ?_ ?_ _); rotate_left; (focus (first | exact .inl rfl | (left; simp; done) | (right; simp; done) | (right; simp; omega)))) | with_reducible refine World.grownBy.trans ?_ (by assumption) | with_reducible refine only_below ?_ (by assumption)))⟩
    case round =>
      obtain ⟨j, K, D, V, rfl, hj, hS, hW, hg⟩ := hrel
      have hgood : goodS n te we (K, D, V) := by rw [hS]; exact good_nights HG0.out j
      have HS := Lib.hid hS
      have z3 := hg.size
      have HR := Lib.hid (HW1.out.far hg (by omega))
      have HO3 := Lib.hid (OwnIn.grown HO.out hg (fun g hg => by cases hg; left; omega) (by omega))
      have B3 : Below w.heap.size w wr := below_only B2 hg B2.size (by omega)
      clear hS
      by_cases hlt : j < M
      · have hm : (0 : Int) < ((M - j : Nat) : Int) := by omega
        go_wp2_with fail
        go_at_call 35
        refine (HN.out _ L c2 w.heap.size K D V (OwnIn.ints HO3.out (by omega)) hW.out hgood).mono ?_
        rintro e w4 ⟨rfl, hW4, hg4⟩
        have H4 := Lib.hid hW4
        have hg5 := hg.trans hg4
        clear hW4 hg4 hg
        go_wp2
        go_roundw
        case rel =>
          refine ⟨j + 1, _, _, _, by rw [show ((M - (j + 1) : Nat) : Int) = ((M - j : Nat) : Int) - 1 by omega], by omega, ?_, H4, hg5⟩
          show _ = nightS zs n te we (nightsS zs n te we j (k, da, wd))
          rw [← HS.out]
        case measure => simp [intOf]; omega
      · have hm : ¬ (0 : Int) < ((M - j : Nat) : Int) := by omega
        have hjM : j = M := by omega
        have HS2 : Hid ((K, D, V) = nightsS zs n te we M (k, da, wd)) := Lib.hid (by rw [← hjM]; exact HS.out)
        clear hjM HS
        obtain ⟨q0, q1, q2, q3, q4, q5, q6, qf⟩ := hW.out
        obtain ⟨r0, r1, r2, r3, r4, r5, r6, rf⟩ := HR.out
        go_wp2
        refine bodyPost_ret (v := .tuple #[.agg #[.slice L n c2, .int .i64 mo, .int .i64 te, .int .i64 (K : Int), .int .i64 D, .int .i64 we, .int .i64 V], .int .i64 0]) ?_ rfl (runs_ok HS2.out ⟨L, c2, rfl, ?_, ?_⟩)
        · simp [results, Try.results10, go_sem, *]
        · refine Own.low (b0 := w.heap.size) (base := w1.heap.size) ?_ (by omega)
          have hfar : Own _ _ _ _ _ _ := HO3.out.1
          repeat (first | with_reducible exact hfar | ((with_reducible refine Own.far ?_ ?_ _); rotate_left; (focus (first | (simp; done) | (simp; omega)))) | with_reducible refine Own.drewN ?_ _ | ((with_reducible refine Own.alloc ?_ _)))
        · (repeat (first | with_reducible exact B3 | with_reducible refine below_alloc ?_ _ | with_reducible refine below_drewN ?_ _ | with_reducible refine Below.drew ?_ | ((with_reducible refine below_set ?_ ?_ _); rotate_left; (focus (first | (simp; done) | (simp; omega) | omega)))))
end Go.Proofs.Ytmbdedkelckedaa
