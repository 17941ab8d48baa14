/- The two functions StepPerpetual: each gives a work with a new cam, and a code. No conditions but that a cam has at most 2^20 levels. -/
import Derived.Test.YtmbdedkelckedaaRun
namespace Go.Proofs.Ytmbdedkelckedaa
open Go.RowKit
set_option linter.unusedVariables false
set_option linter.unusedSimpArgs false
def rStepPerpetual (zs : List Int) (n : Nat) (mo te ix da we wd : Int) : PR := rRunPerpetual zs n mo te ix da we wd 1
theorem rStepPerpetual_len (zs : List Int) (n : Nat) (mo te ix da we wd : Int) (hn : n ≤ 1048576) : (rStepPerpetual zs n mo te ix da we wd).1 ≤ 1048576 := rRunPerpetual_len zs n mo te ix da we wd 1 hn
theorem rStep_no {zs : List Int} {n : Nat} {mo te ix da we wd : Int} (h : vPerp zs n mo te ix da we wd = false) : rStepPerpetual zs n mo te ix da we wd = badP 1 := by unfold rStepPerpetual rRunPerpetual; rw [h]; rfl
theorem rStep_yes {zs : List Int} {n k : Nat} {mo te da we wd : Int} (h : vPerp zs n mo te (k : Int) da we wd = true) : rStepPerpetual zs n mo te (k : Int) da we wd = runS zs n mo te we (nightS zs n te we (k, da, wd)) := by
  unfold rStepPerpetual rRunPerpetual
  rw [h, if_pos rfl, if_pos (by decide)]; rfl
set_option maxHeartbeats 2000000 in
theorem StepPerpetual_any (A : Option Addr) (n c B : Nat) (zs : List Int) (mo te ix da we wd : Int) (w : World) (h : Ints w B A n zs) (hB : B ≤ w.heap.size) (hn : n ≤ 1048576) :
    Calls Try.prog 17 #[.agg #[.slice A n c, .int .i64 mo, .int .i64 te, .int .i64 ix, .int .i64 da, .int .i64 we, .int .i64 wd]] w (NewPerp w (rStepPerpetual zs n mo te ix da we wd)) := by
  have H := Lib.hid (h.more hB)
  clear h
  have cR := fun (W : World) (h : Ints W w.heap.size A n zs) (h2 : w.heap.size ≤ W.heap.size) => RunPerpetual_any A n c w.heap.size zs mo te ix da we wd 1 W h h2 hn
  unfold rStepPerpetual
  generalize rRunPerpetual zs n mo te ix da we wd 1 = R at *
  obtain ⟨m, G, s1, s2, s3, s4, s5, s6, cd⟩ := R
  have CR := Lib.hid cR
  clear cR
  go_enter Try.func17, Try.ntmps17
  go_wp2_with fail
  go_at_call 10
  refine (CR.out _ ((H.out.alloc (Nat.le_refl _) _).alloc (by simp) _) (by simp; omega)).mono ?_
  rintro e w1 ⟨L, c1, rfl, ho1, hb1⟩
  have HO : Hid (Own w1 (w.heap.size + 1 + 1) L m c1 G) := Lib.hid (by simpa using ho1)
  have B1 : Below w.heap.size w w1 := by (repeat (first | with_reducible exact Below.refl _ _ | with_reducible refine below_alloc ?_ _ | with_reducible refine below_drewN ?_ _ | with_reducible refine Below.drew ?_ | ((with_reducible refine below_set ?_ ?_ _); rotate_left; (focus (first | (simp; done) | (simp; omega) | omega))) | with_reducible refine below_call ?_ (by assumption)))
  have z1 : w.heap.size + 1 + 1 ≤ w1.heap.size := by have := hb1.size; simpa using this
  obtain ⟨r0, r1, r2, r3, r4, r5, r6, rf⟩ : Work w1 (w.heap.size + 1) (.slice none 0 0) 0 0 0 0 0 0 := by have := (work_new (w.alloc (.cells #[.slice A n c, .int .i64 mo, .int .i64 te, .int .i64 ix, .int .i64 da, .int .i64 we, .int .i64 wd] 32)) 32 (.slice none 0 0) 0 0 0 0 0 0).call hb1; simpa using this
  clear ho1 hb1
  go_wp2
  refine bodyPost_ret (v := .tuple #[.agg #[.slice L m c1, .int .i64 s1, .int .i64 s2, .int .i64 s3, .int .i64 s4, .int .i64 s5, .int .i64 s6], .int .i64 cd]) ?_ rfl ⟨L, c1, rfl, ?_, ?_⟩
  · simp [results, Try.results17, go_sem, *]
  · refine Own.low (b0 := w.heap.size) (base := w.heap.size + 1 + 1) ?_ (by omega)
    have hfar : Own _ _ _ _ _ _ := HO.out
    repeat (first | with_reducible exact hfar | ((with_reducible refine Own.far ?_ ?_ _); rotate_left; (focus (first | (simp; done) | (simp; omega)))) | with_reducible refine Own.drewN ?_ _ | ((with_reducible refine Own.alloc ?_ _)))
  · (repeat (first | with_reducible exact B1 | with_reducible refine below_alloc ?_ _ | with_reducible refine below_drewN ?_ _ | with_reducible refine Below.drew ?_ | ((with_reducible refine below_set ?_ ?_ _); rotate_left; (focus (first | (simp; done) | (simp; omega) | omega)))))
end Go.Proofs.Ytmbdedkelckedaa
