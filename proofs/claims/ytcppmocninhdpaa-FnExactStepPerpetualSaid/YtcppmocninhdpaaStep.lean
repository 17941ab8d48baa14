/- The two functions StepPerpetual: each gives a work with a new cam, and a code. No conditions but that a cam has at most 2^20 levels. -/
import Derived.Test.YtcppmocninhdpaaRun
namespace Go.Proofs.Ytcppmocninhdpaa
open Go.RowKit
set_option linter.unusedVariables false
set_option linter.unusedSimpArgs false
def rStepPerpetual (zs : List Int) (n : Nat) (mo te ix da we wd : Int) : PR := rRunPerpetual zs n mo te ix da we wd 1
theorem rStepPerpetual_len (zs : List Int) (n : Nat) (mo te ix da we wd : Int) (hn : n ≤ 1048576) : (rStepPerpetual zs n mo te ix da we wd).1 ≤ 1048576 := rRunPerpetual_len zs n mo te ix da we wd 1 hn
theorem rStep_no {zs : List Int} {n : Nat} {mo te ix da we wd : Int} (h : vPerp zs n mo te ix da we wd = false) : rStepPerpetual zs n mo te ix da we wd = badP 1 := by unfold rStepPerpetual rRunPerpetual; rw [h]; rfl
theorem rStep_yes {zs : List Int} {n k : Nat} {mo te da we wd : Int} (h : vPerp zs n mo te (k : Int) da we wd = true) : rStepPerpetual zs n mo te (k : Int) da we wd = runS zs n mo te we (nightS zs n te we (k, da, wd)) := by
  unfold rStepPerpetual rRunPerpetual
  rw [h, if_pos rfl, if_pos (by decide)]; rfl
set_option maxHeartbeats 2000000 in
theorem StepPerpetual_any (A : Option Addr) (n c B : Nat) (zs : List Int) (mo te ix da we wd : Int) (w : World) (h : Ints w B A n zs) (hB : B ≤ w.heap.size) (hn : n ≤ 1048576) :
    Calls Try.prog 37 #[.agg #[.slice A n c, .int .i64 mo, .int .i64 te, .int .i64 ix, .int .i64 da, .int .i64 we, .int .i64 wd]] w (NewPerp w (rStepPerpetual zs n mo te ix da we wd)) := by
  have H := Lib.hid (h.more hB)
  clear h
  have cR := fun (W : World) (h : Ints W w.heap.size A n zs) (h2 : w.heap.size ≤ W.heap.size) => RunPerpetual_any A n c w.heap.size zs mo te ix da we wd 1 W h h2 hn
  unfold rStepPerpetual
  generalize rRunPerpetual zs n mo te ix da we wd 1 = R at *
  obtain ⟨m, G, s1, s2, s3, s4, s5, s6, cd⟩ := R
  have CR := Lib.hid cR
  clear cR
  go_enter Try.func37, Try.ntmps37
  go_wp2_with fail
  go_at_call 39
  refine (CR.out _ ((H.out.alloc (Nat.le_refl _) _).alloc (by simp) _) (by simp; omega)).mono ?_
  rintro e w1 ⟨L, c1, rfl, ho1, hb1⟩
  have HO : Hid (Own w1 (w.heap.size + 1 + 1) L m c1 G) := Lib.hid (by simpa using ho1)
  have B1 : Below w.heap.size w w1 := by (repeat (first | with_reducible exact Below.refl _ _ | with_reducible refine below_alloc ?_ _ | with_reducible refine below_drewN ?_ _ | with_reducible refine Below.drew ?_ | ((with_reducible refine below_set ?_ ?_ _); rotate_left; (focus (first | (simp; done) | (simp; omega) | omega))) | with_reducible refine below_call ?_ (by assumption)))
  have z1 : w.heap.size + 1 + 1 ≤ w1.heap.size := by have := hb1.size; simpa using this
  obtain ⟨r0, r1, r2, r3, r4, r5, r6, rf⟩ : Work w1 (w.heap.size + 1) (.slice none 0 0) 0 0 0 0 0 0 := by have := (work_new (w.alloc (.cells #[.slice A n c, .int .i64 mo, .int .i64 te, .int .i64 ix, .int .i64 da, .int .i64 we, .int .i64 wd] 27)) 27 (.slice none 0 0) 0 0 0 0 0 0).call hb1; simpa using this
  clear ho1 hb1
  go_wp2
  refine bodyPost_ret (v := .tuple #[.agg #[.slice L m c1, .int .i64 s1, .int .i64 s2, .int .i64 s3, .int .i64 s4, .int .i64 s5, .int .i64 s6], .int .i64 cd]) ?_ rfl ⟨L, c1, rfl, ?_, ?_⟩
  · simp [results, Try.results37, go_sem, *]
  · refine Own.low (b0 := w.heap.size) (base := w.heap.size + 1 + 1) ?_ (by omega)
    have hfar : Own _ _ _ _ _ _ := HO.out
    repeat (first | with_reducible exact hfar | ((with_reducible refine Own.far ?_ ?_ _); rotate_left; (focus (first | (simp; done) | (simp; omega)))) | with_reducible refine Own.drewN ?_ _ | ((with_reducible refine Own.alloc ?_ _)))
  · (repeat (first | with_reducible exact B1 | with_reducible refine below_alloc ?_ _ | with_reducible refine below_drewN ?_ _ | with_reducible refine Below.drew ?_ | ((with_reducible refine below_set ?_ ?_ _); rotate_left; (focus (first | (simp; done) | (simp; omega) | omega)))))
set_option maxHeartbeats 2000000 in
theorem specStepPerpetual_any (A : Option Addr) (n c B : Nat) (zs : List Int) (mo te ix da we wd : Int) (w : World) (h : Ints w B A n zs) (hB : B ≤ w.heap.size) (hn : n ≤ 1048576) :
    Calls Try.prog 36 #[.agg #[.slice A n c, .int .i64 mo, .int .i64 te, .int .i64 ix, .int .i64 da, .int .i64 we, .int .i64 wd]] w (NewPerp w (rStepPerpetual zs n mo te ix da we wd)) := by
  have H := Lib.hid (h.more hB)
  clear h
  have cV := fun (W : World) (h : Ints W w.heap.size A n zs) (h2 : w.heap.size ≤ W.heap.size) => l18Ok_any A n c w.heap.size w.heap.size zs mo te ix da we wd W h h2 hn
  cases hv : vPerp zs n mo te ix da we wd
  · rw [rStep_no hv]
    simp only [hv] at cV
    have CV := Lib.hid cV
    clear cV hv
    go_enter Try.func36, Try.ntmps36
    go_wp2_with fail
    go_at_call 49
    refine (CV.out _ ((H.out.alloc (Nat.le_refl _) _).alloc (by simp) _) (by simp; omega) (by simp [go_sem]) (by simp [go_sem]) (by simp [go_sem]) (by simp [go_sem]) (by simp [go_sem]) (by simp [go_sem]) (by simp [go_sem])).mono ?_
    rintro e w1 ⟨rfl, m1, rfl⟩
    go_wp2
    refine bodyPost_ret (v := badV 1) ?_ rfl (newPerp_bad (by (repeat (first | with_reducible exact Below.refl _ _ | with_reducible refine below_alloc ?_ _ | with_reducible refine below_drewN ?_ _ | with_reducible refine Below.drew ?_ | ((with_reducible refine below_set ?_ ?_ _); rotate_left; (focus (first | (simp; done) | (simp; omega) | omega))) | with_reducible refine below_call ?_ (by assumption)))))
    simp [results, Try.results36, go_sem, badV]
  · have hv' := hv
    simp only [hv] at cV
    have CV := Lib.hid cV
    obtain ⟨_, v1, v2, hte, hix, hda, hwe, hwd1, hwd2⟩ := vPerp_yes hv
    obtain ⟨k, rfl⟩ := Int.eq_ofNat_of_zero_le hix.1
    rw [rStep_yes hv']
    have hk : k < n := by omega
    have HG0 : goodS n te we (k, da, wd) := ⟨hk, hda.1, hda.2, hwd1, hwd2⟩
    have cM := fun (W : World) (A : Option Addr) (c g : Nat) (h : Ints W W.heap.size A n zs) (hW : Work W g (.slice A n c) mo te (k : Int) da we wd) => l18Night_any A n c W.heap.size g k zs mo te da we wd W h (Nat.le_refl _) hW HG0 hn hte.1 hte.2 hwe.1 hwe.2
    generalize nightS zs n te we (k, da, wd) = s at *
    obtain ⟨K, D, V⟩ := s
    have CM := Lib.hid cM
    clear cM HG0 hv'
    have cO := fun (W : World) (h : Ints W w.heap.size A n zs) (h2 : w.heap.size ≤ W.heap.size) (hw : Work W w.heap.size (.slice A n c) mo te (k : Int) da we wd) => l18Own_any A n c w.heap.size w.heap.size zs mo te (k : Int) da we wd W h h2 (by omega) hn hw
    have CO := Lib.hid cO
    clear cV hv cO
    go_enter Try.func36, Try.ntmps36
    go_wp2_with fail
    go_at_call 49
    refine (CV.out _ ((H.out.alloc (Nat.le_refl _) _).alloc (by simp) _) (by simp; omega) (by simp [go_sem]) (by simp [go_sem]) (by simp [go_sem]) (by simp [go_sem]) (by simp [go_sem]) (by simp [go_sem]) (by simp [go_sem])).mono ?_
    rintro e w1 ⟨rfl, m1, rfl⟩
    go_wp2_with fail
    go_at_call 57
    refine (CO.out _ (Ints.drewN ((H.out.alloc (Nat.le_refl _) _).alloc (by simp) _) _) (by simp; omega) (Work.drewN ((work_new w 27 (.slice A n c) mo te (k : Int) da we wd).alloc _) _)).mono ?_
    rintro e w2 ⟨L, c2, rfl, ho2, hb2⟩
    have HO := Lib.hid (OwnIn.of ho2)
    have B2 : Below w.heap.size w w2 := by (repeat (first | with_reducible exact Below.refl _ _ | with_reducible refine below_alloc ?_ _ | with_reducible refine below_drewN ?_ _ | with_reducible refine Below.drew ?_ | ((with_reducible refine below_set ?_ ?_ _); rotate_left; (focus (first | (simp; done) | (simp; omega) | omega))) | with_reducible refine below_call ?_ (by assumption)))
    have z2 : w.heap.size + 1 + 1 ≤ w2.heap.size := by have := hb2.size; simpa using this
    have z2' : w.heap.size + 1 < w2.heap.size := by omega
    have W1 : Work w2 (w.heap.size + 1) (.slice none 0 0) 0 0 0 0 0 0 := by have := (Work.drewN (work_new (w.alloc (.cells #[.slice A n c, .int .i64 mo, .int .i64 te, .int .i64 (k : Int), .int .i64 da, .int .i64 we, .int .i64 wd] 27)) 27 (.slice none 0 0) 0 0 0 0 0 0) m1).call hb2; simpa using this
    have HW1 := Lib.hid W1
    obtain ⟨r0, r1, r2, r3, r4, r5, r6, rf⟩ := W1
    clear ho2
    go_wp2_with fail
    go_at_call 64
    refine (CM.out _ L c2 w2.heap.size (Ints.more (Ints.alloc (OwnIn.ints HO.out (Nat.le_refl _)) (Nat.le_refl _) _) (by simp)) (work_new _ _ _ _ _ _ _ _ _)).mono ?_
    rintro e w3 ⟨rfl, hW3, hg3⟩
    have b3 : Below w2.heap.size w2 w3 := below_only ((Below.refl _ _).alloc (Nat.le_refl _) _) hg3 (by simp) (Nat.le_refl _)
    have B3 : Below w.heap.size w w3 := B2.trans (b3.mono B2.size)
    have O3 : Hid (OwnIn w3 (w.heap.size + 1 + 1) w2.heap.size L n c2 zs) := Lib.hid (by have := HO.out.call b3 (Nat.le_refl _); simpa using this)
    have hR := HW1.out.call b3
    have hz3 : w2.heap.size < w3.heap.size := hW3.lt
    clear r0 r1 r2 r3 r4 r5 r6 rf
    obtain ⟨q0, q1, q2, q3, q4, q5, q6, qf⟩ := hW3
    obtain ⟨r0, r1, r2, r3, r4, r5, r6, rf⟩ := hR
    clear hg3 b3
    go_wp2
    refine bodyPost_ret (v := .tuple #[.agg #[.slice L n c2, .int .i64 mo, .int .i64 te, .int .i64 ((K : Int)), .int .i64 (D), .int .i64 we, .int .i64 (V)], .int .i64 0]) ?_ rfl ⟨L, c2, rfl, ?_, ?_⟩
    · simp [results, Try.results36, go_sem, *]
    · refine Own.low (b0 := w.heap.size) (base := w.heap.size + 1 + 1) ?_ (by omega)
      have hfar : Own _ _ _ _ _ _ := O3.out.1
      repeat (first | with_reducible exact hfar | ((with_reducible refine Own.far ?_ ?_ _); rotate_left; (focus (first | (simp; done) | (simp; omega)))) | with_reducible refine Own.drewN ?_ _ | ((with_reducible refine Own.alloc ?_ _)))
    · (repeat (first | with_reducible exact B3 | with_reducible refine below_alloc ?_ _ | with_reducible refine below_drewN ?_ _ | with_reducible refine Below.drew ?_ | ((with_reducible refine below_set ?_ ?_ _); rotate_left; (focus (first | (simp; done) | (simp; omega) | omega)))))
end Go.Proofs.Ytcppmocninhdpaa
